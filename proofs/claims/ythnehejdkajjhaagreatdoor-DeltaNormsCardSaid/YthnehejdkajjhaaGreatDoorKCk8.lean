/- The reference's Check of a graph. -/
import Derived.Test.YthnehejdkajjhaaGreatDoorKCk7
import Derived.Test.YthnehejdkajjhaaGreatDoorKMal
set_option linter.unusedVariables false
set_option maxRecDepth 4000
namespace Go.Proofs.YthnehejdkajjhaaGreatDoor
namespace AI
theorem AmX {g:GG} (hl:g.nodes.length<2^62) {id:Int}:Ag (Ac tab) 70 [g.av,.int .i64 id] (fun v=>∃n:GN,v=.BG [n.av,.bool (decide (id∈Hw g.nodes))]):=by
 refine Ad rfl rfl ?_
 (conv=>whnf);repeat' (first|refine kA ?_;conv=>whnf|(apply Br.mk<;>intro hc<;>first|exact hc.elim|conv=>whnf)  |refine kB ?_)
 refine Af (fun m env s=>∃i:Nat,m=g.nodes.length-i∧id∉Hw (g.nodes.take i)∧env=[(1,.int .i64 id),(2,.ref 0 0 0 0),(4,.ref 1 1 0 0),(6,.int .i64 i)]∧s=⟨[.arr 0 4 true true [g.av],.arr 1 3 true true [.agg [.int .i64 0,.sl false [],.sl false []]]],2⟩) ?_ _ _ _ ⟨0,rfl,by simp[Hw],rfl,rfl⟩
 rintro _ _ _ ⟨i,rfl,hx,rfl,rfl⟩
 refine⟨rfl,?_⟩
 (conv=>whnf);repeat' (first|refine kA ?_;conv=>whnf|(apply Br.mk<;>intro hc<;>first|exact hc.elim|conv=>whnf)  |refine kB ?_)
 ·refine⟨g.nodes[i],?_⟩
  have:id∈Hw g.nodes:=hc▸List.mem_map_of_mem (List.getElem_mem _)
  rw[decide_eq_true this];rfl
 ·refine again.mk ⟨_,by omega,i+1,rfl,?_,rfl,rfl⟩
  unfold Hw at hx ⊢
  rw[List.take_succ_eq_append_getElem (by omega),List.map_append,List.mem_append]
  rintro(h|h)
  ·exact hx h
  ·simp at h;exact hc h.symm
 ·rw[CQ hc]at hx
  refine⟨⟨0,false,[],false,[]⟩,?_⟩
  rw[decide_eq_false hx];rfl
theorem AsE {g:GG} (hg:g.ok) {i:Nat} (hi:i<g.nodes.length):Ag (Ac tab) 45 [g.av,.int .i64 i] (· =.int .i64 (ER g.nodes g.BF i)):=by
 obtain⟨g1,g2,g3,g4,g5,g6,g7,g8⟩:=hg
 unfold Ln at g1 g4
 have hat:=g3 _ (List.getElem_mem hi)
 refine Ad rfl rfl ?_
 (conv=>whnf);repeat' (first|(apply Au;(· exact nVz (i-1) (by omega) (by omega));conv=>whnf)|(refine Aa (Ahn (L:=(g.nodes[i]).labels) (P:=(g.nodes[i]).props) hat.2.1 hat.2.2.2.1 hat.2.2.2.2.1 hat.2.2.2.2.2.2) ?_;rintro _ rfl;conv=>whnf)|refine kA ?_;conv=>whnf|(apply Br.mk<;>intro hc<;>first|exact hc.elim|conv=>whnf)|refine kB ?_)
 all_goals first
  |(rw [AaB hi (fun h=>by first|assumption|omega) (by omega)];rfl)
  |(rw [AcT hi (by omega) (by assumption)];rfl)
  |(rw [node1 hi (fun h=>by first|assumption|omega) (by omega)];rfl)
set_option maxHeartbeats 1000000 in
theorem AsF {g:GG} (hg:g.ok) (hf:g.nodes.length<2^62) {i:Nat} (hi:i<g.edges.length):Ag (Ac tab) 46 [g.av,.int .i64 i] (· =.int .i64 (EX g.nodes g.edges g.BA i)):=by
 obtain⟨g1,g2,g3,g4,g5,g6,g7,g8⟩:=hg
 unfold Ln at g1 g4
 have hat:=g6 _ (List.getElem_mem hi)
 refine Ad rfl rfl ?_
 (conv=>whnf);repeat' (first|(apply Au;(· exact nVz (i-1) (by omega) (by omega));conv=>whnf)|(refine Aa (AmX (g:=g) (id:=(g.edges[i]).fr) hf) ?_;rintro _ ⟨n1,rfl⟩;conv=>whnf)|(refine Aa (AmX (g:=g) (id:=(g.edges[i]).to) hf) ?_;rintro _ ⟨n2,rfl⟩;conv=>whnf)|(refine Bo (name2 (s:=(g.edges[i]).ty) hat.2.2.2.1) (fun hnm=>?_) (fun hnm=>?_)<;>conv=>whnf)|(refine Aa (Ahn (L:=[]) (P:=(g.edges[i]).props) (by decide) (by simp) hat.2.2.2.2.1 hat.2.2.2.2.2.2) ?_;rintro _ rfl;conv=>whnf)|refine kA ?_;conv=>whnf|(apply Br.mk<;>intro hc<;>first|exact hc.elim|conv=>whnf)|refine kB ?_)
 all_goals try simp only[decide_eq_true_eq,decide_eq_false_iff_not]at*
 all_goals first
  |(rw [AcV hi (by omega) (by assumption)];rfl)
  |(rw [AhS hi (fun h=>by first|assumption|omega) (by omega)];rfl)
  |(rw [AaC hi (fun h=>by first|assumption|omega) (by omega) ⟨by assumption,by assumption⟩ hnm];rfl)
  |(rw [AhT hi (fun h=>by first|assumption|omega) (by omega) ⟨by assumption,by assumption⟩ hnm];rfl)
  |(rw [AcW hi (fun h=>by first|assumption|omega) (by omega) (fun h=>by first|exact absurd h.1 (by assumption)|exact absurd h.2 (by assumption))];rfl)
theorem VO {g:GG} (hg:g.ok):Ag (Ac tab) 22 [g.av] (· =.int .i64 (AZ g)):=by
 have hg0:=hg
 obtain⟨g1,g2,g3,g4,g5,g6,g7,g8⟩:=hg
 unfold Ln at g1 g4
 refine Ad rfl rfl ?_
 (conv=>whnf);repeat' (first|refine kA ?_;conv=>whnf|(apply Br.mk<;>intro hc<;>first|exact hc.elim|conv=>whnf)  |refine kB ?_)
 all_goals first|exact AhU (by unfold Gs;omega)|exact AhV (by unfold Gs;omega) (by unfold Hy;omega)|skip
 have hf:Gs g:=by unfold Gs;omega
 have hnx:Hy g:=by unfold Hy;omega
 have hf1:=hf.1
 have hf2:=hf.2
 refine Af (fun m env s=>∃i:Nat,m=g.nodes.length-i∧i≤g.nodes.length∧(∀ k,k<i→ER g.nodes g.BF k=0)∧env=[(1,.ref 0 0 0 0),(3,.int .i64 i)]∧s=⟨[.arr 0 4 true true [g.av]],1⟩) ?_ _ _ _ ⟨0,rfl,by omega,fun k h=>absurd h (by omega),rfl,rfl⟩
 rintro _ _ _ ⟨i,rfl,hin,hx,rfl,rfl⟩
 refine⟨rfl,?_⟩
 (conv=>whnf);repeat' (first|(refine Aa (AsE hg0 (i:=i) (by omega)) ?_;rintro _ rfl;conv=>whnf)|refine kA ?_;conv=>whnf|(apply Br.mk<;>intro hc<;>first|exact hc.elim|conv=>whnf)|refine kB ?_)
 ·exact again.mk ⟨_,by omega,i+1,rfl,by omega,Ll hx hc,rfl,rfl⟩
 ·exact checkN hf hnx (by omega) hx rfl hc
 have hN:∀k,k<g.nodes.length→ER g.nodes g.BF k=0:=fun k h=>hx k (by omega)
 refine Af (fun m env s=>∃i:Nat,m=g.edges.length-i∧i≤g.edges.length∧(∀ k,k<i→EX g.nodes g.edges g.BA k=0)∧env=[(1,.ref 0 0 0 0),(5,.int .i64 i)]∧s=⟨[.arr 0 4 true true [g.av]],1⟩) ?_ _ _ _ ⟨0,rfl,by omega,fun k h=>absurd h (by omega),rfl,rfl⟩
 rintro _ _ _ ⟨j,rfl,hjn,hy,rfl,rfl⟩
 refine⟨rfl,?_⟩
 (conv=>whnf);repeat' (first|(refine Aa (AsF hg0 (i:=j) (by omega) (by omega)) ?_;rintro _ rfl;conv=>whnf)|refine kA ?_;conv=>whnf|(apply Br.mk<;>intro hc<;>first|exact hc.elim|conv=>whnf)|refine kB ?_)
 ·exact again.mk ⟨_,by omega,j+1,rfl,by omega,Ll hy hc,rfl,rfl⟩
 ·exact PV hf hnx hN (by omega) hy rfl hc
 ·exact Ack hf hnx hN fun k h=>hy k (by omega)
end AI
end Go.Proofs.YthnehejdkajjhaaGreatDoor
