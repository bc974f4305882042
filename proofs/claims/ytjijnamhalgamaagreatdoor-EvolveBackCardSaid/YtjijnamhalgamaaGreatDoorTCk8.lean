/- The reference's Check of a graph. -/
import Derived.Test.YtjijnamhalgamaaGreatDoorTCk7
import Derived.Test.YtjijnamhalgamaaGreatDoorTMal
set_option linter.unusedVariables false
set_option maxRecDepth 4000
namespace Go.Proofs.YtjijnamhalgamaaGreatDoor
namespace AI
theorem AiW {g:GG} (hl:g.nodes.length<2^62) {id:Int}:Ae (Ad tab) 81 [g.av,.int .i64 id] (fun v=>∃n:GN,v=.BD [n.av,.bool (decide (id∈G9 g.nodes))]):=by
 refine Ac rfl rfl ?_
 (conv=>whnf);repeat' (first|((first|refine kA ?_|(apply Br.mk<;>intro hc))<;>first|exact hc.elim|conv=>whnf)|refine kB ?_)
 refine Ag (fun m env s=>∃i:Nat,m=g.nodes.length-i∧id∉G9 (g.nodes.take i)∧env=[(1,.int .i64 id),(2,.ref 0 0 0 0),(4,.ref 1 1 0 0),(6,.int .i64 i)]∧s=⟨[.arr 0 4 true true [g.av],.arr 1 3 true true [.agg [.int .i64 0,.sl false [],.sl false []]]],2⟩) ?_ _ _ _ ⟨0,rfl,by simp[G9],rfl,rfl⟩
 rintro _ _ _ ⟨i,rfl,hx,rfl,rfl⟩
 refine⟨rfl,?_⟩
 (conv=>whnf);repeat' (first|((first|refine kA ?_|(apply Br.mk<;>intro hc))<;>first|exact hc.elim|conv=>whnf)|refine kB ?_)
 ·refine⟨g.nodes[i],?_⟩
  have:id∈G9 g.nodes:=hc▸List.mem_map_of_mem (List.getElem_mem _)
  rw[decide_eq_true this];rfl
 ·refine again.mk ⟨_,by omega,i+1,rfl,?_,rfl,rfl⟩
  unfold G9 at hx ⊢
  rw[List.take_succ_eq_append_getElem (by omega),List.map_append,List.mem_append]
  rintro(h|h)
  ·exact hx h
  ·simp at h;exact hc h.symm
 ·rw[BN hc]at hx
  refine⟨⟨0,false,[],false,[]⟩,?_⟩
  rw[decide_eq_false hx];rfl
theorem AnB {g:GG} (hg:g.ok) {i:Nat} (hi:i<g.nodes.length):Ae (Ad tab) 35 [g.av,.int .i64 i] (· =.int .i64 (Fg g.nodes g.Df i)):=by
 obtain⟨g1,g2,g3,g4,g5,g6,g7,g8⟩:=hg
 unfold Ln at g1 g4
 have hat:=g3 _ (List.getElem_mem hi)
 refine Ac rfl rfl ?_
 (conv=>whnf);repeat' (first|((first|(apply Af;(· exact nVz (i-1) (by omega) (by omega)))|apply kE (AeX (L:=(g.nodes[i]).labels) (P:=(g.nodes[i]).props) hat.2.1 hat.2.2.2.1 hat.2.2.2.2.1 hat.2.2.2.2.2.2)|refine kA ?_|(apply Br.mk<;>intro hc))<;>first|exact hc.elim|conv=>whnf)|refine kB ?_)
 all_goals first
  |(rw [XU hi (fun h=>by first|assumption|omega) (by omega)];rfl)
  |(rw [Aaa hi (by omega) ‹_›];rfl)
  |(rw [node1 hi (fun h=>by first|assumption|omega) (by omega)];rfl)
set_option maxHeartbeats 1000000 in
theorem AnC {g:GG} (hg:g.ok) (hf:g.nodes.length<2^62) {i:Nat} (hi:i<g.edges.length):Ae (Ad tab) 36 [g.av,.int .i64 i] (· =.int .i64 (FM g.nodes g.edges g.DC i)):=by
 obtain⟨g1,g2,g3,g4,g5,g6,g7,g8⟩:=hg
 unfold Ln at g1 g4
 have hat:=g6 _ (List.getElem_mem hi)
 refine Ac rfl rfl ?_
 (conv=>whnf);repeat' (first|((first|(apply Af;(· exact nVz (i-1) (by omega) (by omega)))|(refine Aa (AiW (g:=g) (id:=(g.edges[i]).fr) hf) ?_;rintro _ ⟨n1,rfl⟩)|(refine Aa (AiW (g:=g) (id:=(g.edges[i]).to) hf) ?_;rintro _ ⟨n2,rfl⟩)|refine Aq (name2 (s:=(g.edges[i]).ty) hat.2.2.2.1) (fun hnm=>?_) (fun hnm=>?_)|apply kE (AeX (L:=[]) (P:=(g.edges[i]).props) (by decide) (by simp) hat.2.2.2.2.1 hat.2.2.2.2.2.2)|refine kA ?_|(apply Br.mk<;>intro hc))<;>first|exact hc.elim|conv=>whnf)|refine kB ?_)
 all_goals try simp only[decide_eq_true_eq,decide_eq_false_iff_not]at*
 all_goals first
  |(rw [Aab hi (by omega) ‹_›];rfl)
  |(rw [Afp hi (fun h=>by first|assumption|omega) (by omega)];rfl)
  |(rw [XV hi (fun h=>by first|assumption|omega) (by omega) ⟨by assumption,by assumption⟩ hnm];rfl)
  |(rw [Afq hi (fun h=>by first|assumption|omega) (by omega) ⟨by assumption,by assumption⟩ hnm];rfl)
  |(rw [Aac hi (fun h=>by first|assumption|omega) (by omega) (fun h=>by first|exact absurd h.1 ‹_› |exact absurd h.2 ‹_›)];rfl)
theorem AcK {g:GG} (hg:g.ok):Ae (Ad tab) 14 [g.av] (· =.int .i64 (AZ g)):=by
 have hg0:=hg
 obtain⟨g1,g2,g3,g4,g5,g6,g7,g8⟩:=hg
 unfold Ln at g1 g4
 refine Ac rfl rfl ?_
 (conv=>whnf);repeat' (first|((first|refine kA ?_|(apply Br.mk<;>intro hc))<;>first|exact hc.elim|conv=>whnf)|refine kB ?_)
 all_goals first|exact Afr (by unfold Gv;omega)|exact Afs (by unfold Gv;omega) (by unfold Hg;omega)|skip
 have hf:Gv g:=by unfold Gv;omega
 have hnx:Hg g:=by unfold Hg;omega
 have hf1:=hf.1
 have hf2:=hf.2
 refine Ag (fun m env s=>∃i:Nat,m=g.nodes.length-i∧i≤g.nodes.length∧(∀ k,k<i→Fg g.nodes g.Df k=0)∧env=[(1,.ref 0 0 0 0),(3,.int .i64 i)]∧s=⟨[.arr 0 4 true true [g.av]],1⟩) ?_ _ _ _ ⟨0,rfl,by omega,fun k h=>absurd h (by omega),rfl,rfl⟩
 rintro _ _ _ ⟨i,rfl,hin,hx,rfl,rfl⟩
 refine⟨rfl,?_⟩
 (conv=>whnf);repeat' (first|((first|apply kE (AnB hg0 (i:=i) (by omega))|refine kA ?_|(apply Br.mk<;>intro hc))<;>first|exact hc.elim|conv=>whnf)|refine kB ?_)
 ·exact again.mk ⟨_,by omega,i+1,rfl,by omega,JK hx hc,rfl,rfl⟩
 ·exact checkN hf hnx (by omega) hx rfl hc
 have hN:∀k,k<g.nodes.length→Fg g.nodes g.Df k=0:=fun k h=>hx k (by omega)
 refine Ag (fun m env s=>∃i:Nat,m=g.edges.length-i∧i≤g.edges.length∧(∀ k,k<i→FM g.nodes g.edges g.DC k=0)∧env=[(1,.ref 0 0 0 0),(5,.int .i64 i)]∧s=⟨[.arr 0 4 true true [g.av]],1⟩) ?_ _ _ _ ⟨0,rfl,by omega,fun k h=>absurd h (by omega),rfl,rfl⟩
 rintro _ _ _ ⟨j,rfl,hjn,hy,rfl,rfl⟩
 refine⟨rfl,?_⟩
 (conv=>whnf);repeat' (first|((first|apply kE (AnC hg0 (i:=j) (by omega) (by omega))|refine kA ?_|(apply Br.mk<;>intro hc))<;>first|exact hc.elim|conv=>whnf)|refine kB ?_)
 ·exact again.mk ⟨_,by omega,j+1,rfl,by omega,JK hy hc,rfl,rfl⟩
 ·exact NG hf hnx hN (by omega) hy rfl hc
 ·exact Zr hf hnx hN fun k h=>hy k (by omega)
end AI
end Go.Proofs.YtjijnamhalgamaaGreatDoor
