/- graph.Check, walked. -/
import Derived.Test.YthnehejdkajjhaaGreatDoorUMag
set_option linter.unusedVariables false
set_option maxRecDepth 4000
namespace Go.Proofs.YthnehejdkajjhaaGreatDoor
namespace AI
theorem Ll {f:Nat→Int} {i:Nat} (h:∀k,k<i→f k=0) (hi:f i=0):∀k,k<i+1→f k=0:=by
 intro k hk
 rcases Nat.lt_or_ge k i with h1|h1
 ·exact h k h1
 ·obtain rfl:k=i:=by omega
  exact hi
theorem AoG {n:GN} (h:n.ok):Ag (Ac tab) 76 [.sl n.ln (vs .str n.labels),.sl n.pn (vs GP.av n.props)] (· =.int .i64 (DV n.labels n.props)):=
 AhR h.2.1 h.2.2.2.1 h.2.2.2.2.1 h.2.2.2.2.2.2
theorem Ak7 {n:GE} (h:n.ok):Ag (Ac tab) 76 [.sl false [],.sl n.pn (vs GP.av n.props)] (· =.int .i64 (DV [] n.props)):=
 AhR (L:=[]) (by decide) (by simp) h.2.2.2.2.1 h.2.2.2.2.2.2
theorem AoH {g:GG} (hg:g.ok) (hf:Gs g) (hnx:Hy g) {c:Nat} {Q:Aw→Env→Aq→Prop}
 (hret:∀r s,AV.int .i64 r=AV.int .i64 (AZ g)→Q .ret [(2,.int .i64 r)] s)
 (hend:(∀ k,k<g.nodes.length→ER g.nodes g.BF k=0)→∀c i,Q (.exit 0) [(1,.ref 0 0 0 0),(38,.sl g.nn (vs GN.av g.nodes)),(39,.int .i64 g.nodes.length),(40,.int .i64 i),(41,.bool false)] ⟨[.arr 0 4 true true [g.av]],c⟩):
 Run (Ac tab) (.loop l35_0_h l35_0_b) [(1,.ref 0 0 0 0),(38,.sl g.nn (vs GN.av g.nodes)),(39,.int .i64 g.nodes.length),(40,.int .i64 0)] ⟨[.arr 0 4 true true [g.av]],c⟩ Q:=by
 obtain⟨g1,g2,g3,g4,g5,g6,g7,g8⟩:=hg
 unfold Ln at g1 g4
 have hf':g.nodes.length≤2000:=hf.1
 refine Af (fun m env s=>∃i:Nat,m=g.nodes.length-i∧env=[(1,.ref 0 0 0 0),(38,.sl g.nn (vs GN.av g.nodes)),(39,.int .i64 g.nodes.length),(40,.int .i64 i)]∧(∃ c,s=⟨[.arr 0 4 true true [g.av]],c⟩)∧∀k,k<i→ER g.nodes g.BF k=0) ?_ _ _ _ ⟨0,rfl,by simp,⟨_,rfl⟩,fun k h=>absurd h (by omega)⟩
 rintro _ _ _ ⟨i,rfl,rfl,⟨c,rfl⟩,hx⟩
 refine⟨rfl,?_⟩
 have hat:∀h:i<g.nodes.length,(g.nodes[i]).ok:=fun h=>g3 _ (List.getElem_mem _)
 (conv=>whnf);repeat' (first|(apply Au;(· exact nVz (i-1) (by omega) (by omega));conv=>whnf)|(refine Aa (AoG (n:=g.nodes[i]) (hat (by omega))) ?_;rintro _ rfl;conv=>whnf)|(refine hret _ _ ?_)|(refine hend (fun k hk=>hx k (by omega)) _ _)|(refine kA ?_;conv=>whnf)|(refine Br.mk (fun hc=>?_) fun hc=>?_<;>first|exact hc.elim|conv=>whnf)|(refine kB ?_))
 all_goals first
  |exact again.mk ⟨_,by omega,i+1,rfl,rfl,⟨_,rfl⟩,Ll hx ((AaB (by omega) (fun h=>by first|assumption|omega) (by omega)).trans hc)⟩
  |exact checkN hf hnx (by omega) hx (AcT (by omega) (by omega) (by assumption)) (by decide)
  |exact checkN hf hnx (by omega) hx (node1 (by omega) (fun h=>by first|assumption|omega) (by omega)) (by decide)
  |exact checkN hf hnx (by omega) hx (AaB (by omega) (fun h=>by first|assumption|omega) (by omega)) hc
set_option maxHeartbeats 1000000 in
theorem AoI {g:GG} (hg:g.ok) (hf:Gs g) (hnx:Hy g) (hN:∀k,k<g.nodes.length→ER g.nodes g.BF k=0) {c:Nat} {Q:Aw→Env→Aq→Prop}
 (hret:∀r s,AV.int .i64 r=AV.int .i64 (AZ g)→Q .ret [(2,.int .i64 r)] s)
 (hend:(∀ k,k<g.edges.length→EX g.nodes g.edges g.BA k=0)→∀c i,Q (.exit 2) [(1,.ref 0 0 0 0),(79,.sl g.en (vs GE.av g.edges)),(80,.int .i64 g.edges.length),(81,.int .i64 i),(82,.bool false)] ⟨[.arr 0 4 true true [g.av]],c⟩):
 Run (Ac tab) (.loop l35_1_h l35_1_b) [(1,.ref 0 0 0 0),(79,.sl g.en (vs GE.av g.edges)),(80,.int .i64 g.edges.length),(81,.int .i64 0)] ⟨[.arr 0 4 true true [g.av]],c⟩ Q:=by
 obtain⟨g1,g2,g3,g4,g5,g6,g7,g8⟩:=hg
 unfold Ln at g1 g4
 have hf':g.edges.length≤4000:=hf.2
 have hI:=AcU hN
 have hl:g.nodes.length<2^62:=by have:=hf.1;omega
 refine Af (fun m env s=>∃i:Nat,m=g.edges.length-i∧env=[(1,.ref 0 0 0 0),(79,.sl g.en (vs GE.av g.edges)),(80,.int .i64 g.edges.length),(81,.int .i64 i)]∧(∃ c,s=⟨[.arr 0 4 true true [g.av]],c⟩)∧∀k,k<i→EX g.nodes g.edges g.BA k=0) ?_ _ _ _ ⟨0,rfl,by simp,⟨_,rfl⟩,fun k h=>absurd h (by omega)⟩
 rintro _ _ _ ⟨i,rfl,rfl,⟨c,rfl⟩,hx⟩
 refine⟨rfl,?_⟩
 have hat:∀h:i<g.edges.length,(g.edges[i]).ok:=fun h=>g6 _ (List.getElem_mem _)
 (conv=>whnf);repeat' (first|(apply Au;(· exact nVz (i-1) (by omega) (by omega));conv=>whnf)|(refine Bo (Au8 hl hI) (fun hc=>?_) (fun hc=>?_)<;>conv=>whnf)|(refine Bo (name1 (s:=(g.edges[i]).ty) (hat (by omega)).2.2.2.1) (fun hnm=>?_) (fun hnm=>?_)<;>conv=>whnf)|(refine Aa (Ak7 (n:=g.edges[i]) (hat (by omega))) ?_;rintro _ rfl;conv=>whnf)|(refine hret _ _ ?_)|(refine hend (fun k hk=>hx k (by omega)) _ _)|(refine kA ?_;conv=>whnf)|(refine Br.mk (fun hc=>?_) fun hc=>?_<;>first|exact hc.elim|conv=>whnf)|(refine kB ?_))
 all_goals first
  |exact again.mk ⟨_,by omega,i+1,rfl,rfl,⟨_,rfl⟩,Ll hx ((AaC (by omega) (fun h=>by first|assumption|omega) (by omega) ⟨by assumption,by assumption⟩ hnm).trans hc)⟩
  |exact PV hf hnx hN (by omega) hx (AcV (by omega) (by omega) (by assumption)) (by decide)
  |exact PV hf hnx hN (by omega) hx (AhS (by omega) (fun h=>by first|assumption|omega) (by omega)) (by decide)
  |exact PV hf hnx hN (by omega) hx (AcW (by omega) (fun h=>by first|assumption|omega) (by omega) (fun h=>by first|exact absurd h.1 (by assumption)|exact absurd h.2 (by assumption))) (by decide)
  |exact PV hf hnx hN (by omega) hx (AhT (by omega) (fun h=>by first|assumption|omega) (by omega) ⟨by assumption,by assumption⟩ hnm) (by decide)
  |exact PV hf hnx hN (by omega) hx (AaC (by omega) (fun h=>by first|assumption|omega) (by omega) ⟨by assumption,by assumption⟩ hnm) hc
theorem VI {g:GG} (hg:g.ok):Ag (Ac tab) 35 [g.av] (· =.int .i64 (AZ g)):=by
 have hg0:=hg
 obtain⟨g1,g2,g3,g4,g5,g6,g7,g8⟩:=hg
 unfold Ln at g1 g4
 refine Ad rfl rfl ?_
 (conv=>whnf);repeat' (first|(refine kA ?_;conv=>whnf)|(refine Br.mk (fun hc=>?_) fun hc=>?_<;>first|exact hc.elim|conv=>whnf)  |(refine kB ?_))
 all_goals first|exact AhU (by unfold Gs;omega)|exact AhV (by unfold Gs;omega) (by unfold Hy;omega)|skip
 have hf:Gs g:=by unfold Gs;omega
 have hnx:Hy g:=by unfold Hy;omega
 refine AoH hg0 hf hnx (fun r s h=>by(conv=>whnf);(apply Ae;(· rfl);conv=>whnf);(apply Ae;(· rfl);conv=>whnf);exact h) (fun hN c i=>?_)
 (conv=>whnf);repeat' (first|(refine kA ?_;conv=>whnf)|(refine Br.mk (fun hc=>?_) fun hc=>?_<;>first|exact hc.elim|conv=>whnf)  |(refine kB ?_))
 refine AoI hg0 hf hnx hN (fun r s h=>by(conv=>whnf);(apply Ae;(· rfl);conv=>whnf);(apply Ae;(· rfl);conv=>whnf);exact h) (fun hE c i=>?_)
 (conv=>whnf);repeat' (first|(refine kA ?_;conv=>whnf)|(refine Br.mk (fun hc=>?_) fun hc=>?_<;>first|exact hc.elim|conv=>whnf)  |(refine kB ?_))
 exact Ack hf hnx hN hE
end AI
end Go.Proofs.YthnehejdkajjhaaGreatDoor
