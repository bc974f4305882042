/- The reference's Check of a graph. -/
import Derived.Test.YthjeehjphekjmaaGreatDoorTCk7
import Derived.Test.YthjeehjphekjmaaGreatDoorTCk6
set_option linter.unusedVariables false
set_option maxRecDepth 4000
namespace Go.Proofs.YthjeehjphekjmaaGreatDoor
namespace AI
theorem AbU {g:GG} (hl:g.nodes.length<2^62) {id:Int}:Au (Ac tab) 21 [g.av,.int .i64 id] (fun v=>∃n:GN,v=.CO [n.av,.bool (decide (id∈Jf g.nodes))]):=by
 refine Af rfl rfl ?_
 (conv=>whnf);repeat' (first|(refine kA ?_;conv=>whnf)|(refine Br.mk (fun hc=>?_) fun hc=>?_<;>first|exact hc.elim|conv=>whnf)  |(refine kB ?_))
 refine Ae (fun m env s=>∃i:Nat,m=g.nodes.length-i∧id∉Jf (g.nodes.take i)∧env=[(1,.int .i64 id),(2,.ref 0 0 0 0),(4,.ref 1 1 0 0),(6,.int .i64 i)]∧s=⟨[.arr 0 4 true true [g.av],.arr 1 3 true true [.agg [.int .i64 0,.sl false [],.sl false []]]],2⟩) ?_ _ _ _ ⟨0,rfl,by simp[Jf],rfl,rfl⟩
 rintro _ _ _ ⟨i,rfl,hx,rfl,rfl⟩
 refine⟨rfl,?_⟩
 (conv=>whnf);repeat' (first|(refine kA ?_;conv=>whnf)|(refine Br.mk (fun hc=>?_) fun hc=>?_<;>first|exact hc.elim|conv=>whnf)  |(refine kB ?_))
 ·refine⟨g.nodes[i],?_⟩
  have:id∈Jf g.nodes:=hc▸List.mem_map_of_mem (List.getElem_mem _)
  rw[decide_eq_true this];rfl
 ·refine again.mk ⟨_,by omega,i+1,rfl,?_,rfl,rfl⟩
  unfold Jf at hx ⊢
  rw[List.take_succ_eq_append_getElem (by omega),List.map_append,List.mem_append]
  rintro(h|h)
  ·exact hx h
  ·simp at h;exact hc h.symm
 ·rw[Ik hc]at hx
  refine⟨⟨0,false,[],false,[]⟩,?_⟩
  rw[decide_eq_false hx];rfl
theorem Afn {g:GG} (hg:g.ok) {i:Nat} (hi:i<g.nodes.length):Au (Ac tab) 51 [g.av,.int .i64 i] (· =.int .i64 (Gh g.nodes g.GU i)):=by
 obtain⟨g1,g2,g3,g4,g5,g6,g7,g8⟩:=hg
 unfold Ln at g1 g4
 have hat:=g3 _ (List.getElem_mem hi)
 refine Af rfl rfl ?_
 (conv=>whnf);repeat' (first|(apply AU;(· exact nVz (i-1) (by omega) (by omega));conv=>whnf)|(refine Aa (Zu (L:=(g.nodes[i]).labels) (P:=(g.nodes[i]).props) hat.2.1 hat.2.2.2.1 hat.2.2.2.2.1 hat.2.2.2.2.2.2) ?_;rintro _ rfl;conv=>whnf)|(refine kA ?_;conv=>whnf)|(refine Br.mk (fun hc=>?_) fun hc=>?_<;>first|exact hc.elim|conv=>whnf)|(refine kB ?_))
 all_goals first
  |(rw [Aey hi (fun h=>by first|assumption|omega) (by omega)];rfl)
  |(rw [AcN hi (by omega) (by assumption)];rfl)
  |(rw [node1 hi (fun h=>by first|assumption|omega) (by omega)];rfl)
set_option maxHeartbeats 1000000 in
theorem Afo {g:GG} (hg:g.ok) (hf:g.nodes.length<2^62) {i:Nat} (hi:i<g.edges.length):Au (Ac tab) 52 [g.av,.int .i64 i] (· =.int .i64 (FB g.nodes g.edges g.Jq i)):=by
 obtain⟨g1,g2,g3,g4,g5,g6,g7,g8⟩:=hg
 unfold Ln at g1 g4
 have hat:=g6 _ (List.getElem_mem hi)
 refine Af rfl rfl ?_
 (conv=>whnf);repeat' (first|(apply AU;(· exact nVz (i-1) (by omega) (by omega));conv=>whnf)|(refine Aa (AbU (g:=g) (id:=(g.edges[i]).fr) hf) ?_;rintro _ ⟨n1,rfl⟩;conv=>whnf)|(refine Aa (AbU (g:=g) (id:=(g.edges[i]).to) hf) ?_;rintro _ ⟨n2,rfl⟩;conv=>whnf)|(refine EJ (name2 (s:=(g.edges[i]).ty) hat.2.2.2.1) (fun hnm=>?_) (fun hnm=>?_)<;>conv=>whnf)|(refine Aa (Zu (L:=[]) (P:=(g.edges[i]).props) (by decide) (by simp) hat.2.2.2.2.1 hat.2.2.2.2.2.2) ?_;rintro _ rfl;conv=>whnf)|(refine kA ?_;conv=>whnf)|(refine Br.mk (fun hc=>?_) fun hc=>?_<;>first|exact hc.elim|conv=>whnf)|(refine kB ?_))
 all_goals try simp only[decide_eq_true_eq,decide_eq_false_iff_not]at*
 all_goals first
  |(rw [Y3 hi (by omega) (by assumption)];rfl)
  |(rw [AbH hi (fun h=>by first|assumption|omega) (by omega)];rfl)
  |(rw [AbJ hi (fun h=>by first|assumption|omega) (by omega) ⟨by assumption,by assumption⟩ hnm];rfl)
  |(rw [AbI hi (fun h=>by first|assumption|omega) (by omega) ⟨by assumption,by assumption⟩ hnm];rfl)
  |(rw [Y4 hi (fun h=>by first|assumption|omega) (by omega) (fun h=>by first|exact absurd h.1 (by assumption)|exact absurd h.2 (by assumption))];rfl)
theorem Zl {g:GG} (hg:g.ok):Au (Ac tab) 20 [g.av] (· =.int .i64 (Ej g)):=by
 have hg0:=hg
 obtain⟨g1,g2,g3,g4,g5,g6,g7,g8⟩:=hg
 unfold Ln at g1 g4
 refine Af rfl rfl ?_
 (conv=>whnf);repeat' (first|(refine kA ?_;conv=>whnf)|(refine Br.mk (fun hc=>?_) fun hc=>?_<;>first|exact hc.elim|conv=>whnf)  |(refine kB ?_))
 all_goals first|exact AcO (by unfold HY;omega)|exact AcP (by unfold HY;omega) (by unfold Jt;omega)|skip
 have hf:HY g:=by unfold HY;omega
 have hnx:Jt g:=by unfold Jt;omega
 have hf1:=hf.1
 have hf2:=hf.2
 refine Ae (fun m env s=>∃i:Nat,m=g.nodes.length-i∧i≤g.nodes.length∧(∀ k,k<i→Gh g.nodes g.GU k=0)∧env=[(1,.ref 0 0 0 0),(3,.int .i64 i)]∧s=⟨[.arr 0 4 true true [g.av]],1⟩) ?_ _ _ _ ⟨0,rfl,by omega,fun k h=>absurd h (by omega),rfl,rfl⟩
 rintro _ _ _ ⟨i,rfl,hin,hx,rfl,rfl⟩
 refine⟨rfl,?_⟩
 (conv=>whnf);repeat' (first|(refine Aa (Afn hg0 (i:=i) (by omega)) ?_;rintro _ rfl;conv=>whnf)|(refine kA ?_;conv=>whnf)|(refine Br.mk (fun hc=>?_) fun hc=>?_<;>first|exact hc.elim|conv=>whnf)|(refine kB ?_))
 ·exact again.mk ⟨_,by omega,i+1,rfl,by omega,Oe hx hc,rfl,rfl⟩
 ·exact checkN hf hnx (by omega) hx rfl hc
 have hN:∀k,k<g.nodes.length→Gh g.nodes g.GU k=0:=fun k h=>hx k (by omega)
 refine Ae (fun m env s=>∃i:Nat,m=g.edges.length-i∧i≤g.edges.length∧(∀ k,k<i→FB g.nodes g.edges g.Jq k=0)∧env=[(1,.ref 0 0 0 0),(5,.int .i64 i)]∧s=⟨[.arr 0 4 true true [g.av]],1⟩) ?_ _ _ _ ⟨0,rfl,by omega,fun k h=>absurd h (by omega),rfl,rfl⟩
 rintro _ _ _ ⟨j,rfl,hjn,hy,rfl,rfl⟩
 refine⟨rfl,?_⟩
 (conv=>whnf);repeat' (first|(refine Aa (Afo hg0 (i:=j) (by omega) (by omega)) ?_;rintro _ rfl;conv=>whnf)|(refine kA ?_;conv=>whnf)|(refine Br.mk (fun hc=>?_) fun hc=>?_<;>first|exact hc.elim|conv=>whnf)|(refine kB ?_))
 ·exact again.mk ⟨_,by omega,j+1,rfl,by omega,Oe hy hc,rfl,rfl⟩
 ·exact AaH hf hnx hN (by omega) hy rfl hc
 ·exact AcQ hf hnx hN fun k h=>hy k (by omega)
end AI
end Go.Proofs.YthjeehjphekjmaaGreatDoor
