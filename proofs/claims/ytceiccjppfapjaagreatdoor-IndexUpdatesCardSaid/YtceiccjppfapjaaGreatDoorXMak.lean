/- graph.Check, walked. The graph that is checked; small graphs. -/
import Derived.Test.YtceiccjppfapjaaGreatDoorXMaj
set_option linter.unusedVariables false
set_option maxRecDepth 4000
namespace Go.Proofs.YtceiccjppfapjaaGreatDoor
namespace AI
theorem IU {f:Nat→Int} {i:Nat} (h:∀k,k<i→f k=0) (hi:f i=0):∀k,k<i+1→f k=0:=by
 intro k hk
 rcases Nat.lt_or_ge k i with h1|h1
 ·exact h k h1
 ·obtain rfl:k=i:=by omega
  exact hi
theorem Ahh {n:GN} (h:n.ok):Ae (Ad tab) 103 [.sl n.ln (vs .str n.labels),.sl n.pn (vs GP.av n.props)] (· =.int .i64 (Dy n.labels n.props)):=
 Acx h.2.1 h.2.2.2.1 h.2.2.2.2.1 h.2.2.2.2.2.2
theorem Ae3 {n:GE} (h:n.ok):Ae (Ad tab) 103 [.sl false [],.sl n.pn (vs GP.av n.props)] (· =.int .i64 (Dy [] n.props)):=
 Acx (L:=[]) (by decide) (by simp) h.2.2.2.2.1 h.2.2.2.2.2.2
theorem Ahi {g:GG} (hg:g.ok) (hf:EM g) (hnx:F7 g) {c:Nat} {Q:AU→Env→Am→Prop}
 (hret:∀r s,AV.int .i64 r=AV.int .i64 (BH g)→Q .ret [(2,.int .i64 r)] s)
 (hend:(∀ k,k<g.nodes.length→DU g.nodes g.Bv k=0)→∀c i,Q (.exit 0) [(1,.ref 0 0 0 0),(38,.sl g.nn (vs GN.av g.nodes)),(39,.int .i64 g.nodes.length),(40,.int .i64 i),(41,.bool false)] ⟨[.arr 0 4 true true [g.av]],c⟩):
 Run (Ad tab) (.loop l45_0_h l45_0_b) [(1,.ref 0 0 0 0),(38,.sl g.nn (vs GN.av g.nodes)),(39,.int .i64 g.nodes.length),(40,.int .i64 0)] ⟨[.arr 0 4 true true [g.av]],c⟩ Q:=by
 obtain⟨g1,g2,g3,g4,g5,g6,g7,g8⟩:=hg
 unfold Ln at g1 g4
 have hf':g.nodes.length≤2000:=hf.1
 refine Ag (fun m env s=>∃i:Nat,m=g.nodes.length-i∧env=[(1,.ref 0 0 0 0),(38,.sl g.nn (vs GN.av g.nodes)),(39,.int .i64 g.nodes.length),(40,.int .i64 i)]∧(∃ c,s=⟨[.arr 0 4 true true [g.av]],c⟩)∧∀k,k<i→DU g.nodes g.Bv k=0) ?_ _ _ _ ⟨0,rfl,by simp,⟨_,rfl⟩,fun k h=>absurd h (by omega)⟩
 rintro _ _ _ ⟨i,rfl,rfl,⟨c,rfl⟩,hx⟩
 refine⟨rfl,?_⟩
 have hat:∀h:i<g.nodes.length,(g.nodes[i]).ok:=fun h=>g3 _ (List.getElem_mem _)
 (conv=>whnf);repeat' (first|(apply Ap;(· exact nVz (i-1) (by omega) (by omega));conv=>whnf)|(refine Aa (Ahh (n:=g.nodes[i]) (hat (by omega))) ?_;rintro _ rfl;conv=>whnf)|(refine hret _ _ ?_)|(refine hend (fun k hk=>hx k (by omega)) _ _)|(refine kA ?_;conv=>whnf)|(refine Br.mk (fun hc=>?_) fun hc=>?_<;>first|exact hc.elim|conv=>whnf)|(refine kB ?_))
 all_goals first
  |exact again.mk ⟨_,by omega,i+1,rfl,rfl,⟨_,rfl⟩,IU hx ((YL (by omega) (fun h=>by first|assumption|omega) (by omega)).trans hc)⟩
  |exact checkN hf hnx (by omega) hx (Xt (by omega) (by omega) (by assumption)) (by decide)
  |exact checkN hf hnx (by omega) hx (node1 (by omega) (fun h=>by first|assumption|omega) (by omega)) (by decide)
  |exact checkN hf hnx (by omega) hx (YL (by omega) (fun h=>by first|assumption|omega) (by omega)) hc
set_option maxHeartbeats 1000000 in
theorem Ahj {g:GG} (hg:g.ok) (hf:EM g) (hnx:F7 g) (hN:∀k,k<g.nodes.length→DU g.nodes g.Bv k=0) {c:Nat} {Q:AU→Env→Am→Prop}
 (hret:∀r s,AV.int .i64 r=AV.int .i64 (BH g)→Q .ret [(2,.int .i64 r)] s)
 (hend:(∀ k,k<g.edges.length→D8 g.nodes g.edges g.BD k=0)→∀c i,Q (.exit 2) [(1,.ref 0 0 0 0),(79,.sl g.en (vs GE.av g.edges)),(80,.int .i64 g.edges.length),(81,.int .i64 i),(82,.bool false)] ⟨[.arr 0 4 true true [g.av]],c⟩):
 Run (Ad tab) (.loop l45_1_h l45_1_b) [(1,.ref 0 0 0 0),(79,.sl g.en (vs GE.av g.edges)),(80,.int .i64 g.edges.length),(81,.int .i64 0)] ⟨[.arr 0 4 true true [g.av]],c⟩ Q:=by
 obtain⟨g1,g2,g3,g4,g5,g6,g7,g8⟩:=hg
 unfold Ln at g1 g4
 have hf':g.edges.length≤4000:=hf.2
 have hI:=Yd hN
 have hl:g.nodes.length<2^62:=by have:=hf.1;omega
 refine Ag (fun m env s=>∃i:Nat,m=g.edges.length-i∧env=[(1,.ref 0 0 0 0),(79,.sl g.en (vs GE.av g.edges)),(80,.int .i64 g.edges.length),(81,.int .i64 i)]∧(∃ c,s=⟨[.arr 0 4 true true [g.av]],c⟩)∧∀k,k<i→D8 g.nodes g.edges g.BD k=0) ?_ _ _ _ ⟨0,rfl,by simp,⟨_,rfl⟩,fun k h=>absurd h (by omega)⟩
 rintro _ _ _ ⟨i,rfl,rfl,⟨c,rfl⟩,hx⟩
 refine⟨rfl,?_⟩
 have hat:∀h:i<g.edges.length,(g.edges[i]).ok:=fun h=>g6 _ (List.getElem_mem _)
 (conv=>whnf);repeat' (first|(apply Ap;(· exact nVz (i-1) (by omega) (by omega));conv=>whnf)|(refine Bj (Ake hl hI) (fun hc=>?_) (fun hc=>?_)<;>conv=>whnf)|(refine Bj (name1 (s:=(g.edges[i]).ty) (hat (by omega)).2.2.2.1) (fun hnm=>?_) (fun hnm=>?_)<;>conv=>whnf)|(refine Aa (Ae3 (n:=g.edges[i]) (hat (by omega))) ?_;rintro _ rfl;conv=>whnf)|(refine hret _ _ ?_)|(refine hend (fun k hk=>hx k (by omega)) _ _)|(refine kA ?_;conv=>whnf)|(refine Br.mk (fun hc=>?_) fun hc=>?_<;>first|exact hc.elim|conv=>whnf)|(refine kB ?_))
 all_goals first
  |exact again.mk ⟨_,by omega,i+1,rfl,rfl,⟨_,rfl⟩,IU hx ((YM (by omega) (fun h=>by first|assumption|omega) (by omega) ⟨by assumption,by assumption⟩ hnm).trans hc)⟩
  |exact Lp hf hnx hN (by omega) hx (Xu (by omega) (by omega) (by assumption)) (by decide)
  |exact Lp hf hnx hN (by omega) hx (Abp (by omega) (fun h=>by first|assumption|omega) (by omega)) (by decide)
  |exact Lp hf hnx hN (by omega) hx (Xv (by omega) (fun h=>by first|assumption|omega) (by omega) (fun h=>by first|exact absurd h.1 (by assumption)|exact absurd h.2 (by assumption))) (by decide)
  |exact Lp hf hnx hN (by omega) hx (Abq (by omega) (fun h=>by first|assumption|omega) (by omega) ⟨by assumption,by assumption⟩ hnm) (by decide)
  |exact Lp hf hnx hN (by omega) hx (YM (by omega) (fun h=>by first|assumption|omega) (by omega) ⟨by assumption,by assumption⟩ hnm) hc
theorem AcQ {g:GG} (hg:g.ok):Ae (Ad tab) 45 [g.av] (· =.int .i64 (BH g)):=by
 have hg0:=hg
 obtain⟨g1,g2,g3,g4,g5,g6,g7,g8⟩:=hg
 unfold Ln at g1 g4
 refine Ac rfl rfl ?_
 (conv=>whnf);repeat' (first|(refine kA ?_;conv=>whnf)|(refine Br.mk (fun hc=>?_) fun hc=>?_<;>first|exact hc.elim|conv=>whnf)  |(refine kB ?_))
 all_goals first|exact Abs (by unfold EM;omega)|exact Abt (by unfold EM;omega) (by unfold F7;omega)|skip
 have hf:EM g:=by unfold EM;omega
 have hnx:F7 g:=by unfold F7;omega
 refine Ahi hg0 hf hnx (fun r s h=>by(conv=>whnf);(apply Ah;(· rfl);conv=>whnf);(apply Ah;(· rfl);conv=>whnf);exact h) (fun hN c i=>?_)
 (conv=>whnf);repeat' (first|(refine kA ?_;conv=>whnf)|(refine Br.mk (fun hc=>?_) fun hc=>?_<;>first|exact hc.elim|conv=>whnf)  |(refine kB ?_))
 refine Ahj hg0 hf hnx hN (fun r s h=>by(conv=>whnf);(apply Ah;(· rfl);conv=>whnf);(apply Ah;(· rfl);conv=>whnf);exact h) (fun hE c i=>?_)
 (conv=>whnf);repeat' (first|(refine kA ?_;conv=>whnf)|(refine Br.mk (fun hc=>?_) fun hc=>?_<;>first|exact hc.elim|conv=>whnf)  |(refine kB ?_))
 exact Abu hf hnx hN hE
noncomputable def chk (g:GG):GG:=if BH g=0 then g else⟨false,[],false,[],0,0⟩
theorem AcN {g:GG} (hg:g.ok):Ae (Ad tab) 137 [g.av] (· =(chk g).av):=by
 have h:=AcQ hg
 by_cases h0:BH g=0
 ·have e:chk g=g:=if_pos h0
  rw[e]
  rw[h0]at h
  refine Ac rfl rfl ?_
  (conv=>whnf);repeat' (first|(refine Aa h ?_;rintro _ rfl;conv=>whnf)|(refine kA ?_;conv=>whnf)|(refine Br.mk (fun hc=>?_) fun hc=>?_<;>first|exact hc.elim|conv=>whnf)|(refine kB ?_))
  all_goals first|rfl|(exfalso;omega)
 ·have e:chk g=⟨false,[],false,[],0,0⟩:=if_neg h0
  rw[e]
  refine Ac rfl rfl ?_
  (conv=>whnf);repeat' (first|(refine Aa h ?_;rintro _ rfl;conv=>whnf)|(refine kA ?_;conv=>whnf)|(refine Br.mk (fun hc=>?_) fun hc=>?_<;>first|exact hc.elim|conv=>whnf)|(refine kB ?_))
  all_goals first|rfl|(exfalso;omega)
theorem Ac1 {z:Int} {K:AV→Prop} (h:∀y,K (.int .i64 y)):Ig .i64 z K:=CQ rfl (h _)
theorem Agh {g:GG} (hg:g.ok):Ae (Ad tab) 35 [g.av] (fun v=>∃b,v=.bool b∧(b=true→g.nodes.length≤40∧g.edges.length≤80)):=by
 have hl:g.nodes.length<2^63:=hg.1
 have hl2:g.edges.length<2^63:=hg.2.2.2.1
 refine Ac rfl rfl ?_
 (conv=>whnf);repeat' (first  |(refine kA ?_;conv=>whnf)|(refine Br.mk (fun hc=>?_) fun hc=>?_<;>first|exact hc.elim|conv=>whnf)|(refine kB ?_))
 refine Ag (fun m env s=>∃(i c:Nat) (z:Int),m=g.nodes.length-i∧env=[(1,.ref 0 0 0 0),(3,.int .i64 z),(4,.int .i64 i)]∧s=⟨[.arr 0 4 true true [g.av]],c⟩) ?_ _ _ _ ⟨0,_,_,rfl,rfl,rfl⟩
 rintro _ _ _ ⟨i,c,z,rfl,rfl,rfl⟩
 refine⟨rfl,?_⟩
 by_cases hlt:i<g.nodes.length
 ·(conv=>whnf);repeat' (first|(first|refine CQ (wrap_i64 (by omega) (by omega)) ?_|refine Ac1 (fun y=>?_);conv=>whnf)|(refine kA ?_;conv=>whnf)|(refine Br.mk (fun hc=>?_) fun hc=>?_<;>first|exact hc.elim|conv=>whnf)|(refine kB ?_))
  all_goals first
   |exact again.mk ⟨_,by omega,i+1,_,_,rfl,rfl,rfl⟩
 ·(conv=>whnf);repeat' (first  |(refine kA ?_;conv=>whnf)|(refine Br.mk (fun hc=>?_) fun hc=>?_<;>first|exact hc.elim|conv=>whnf)|(refine kB ?_))
  all_goals first
   |exact⟨_,rfl,fun h=>⟨by omega,by omega⟩⟩
   |exact⟨_,rfl,fun h=>Bool.noConfusion h⟩
end AI
end Go.Proofs.YtceiccjppfapjaaGreatDoor
