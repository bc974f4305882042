/- graph.Check, walked. -/
import Derived.Test.YtokdbmakkoleiaaGreatCk5
set_option linter.unusedVariables false
namespace Go.Proofs.YtokdbmakkoleiaaGreat
namespace AI

theorem all_lt_succ {f : Nat → Int} {i : Nat} (h : ∀ k, k < i → f k = 0) (hi : f i = 0) : ∀ k, k < i + 1 → f k = 0 := by
  intro k hk
  rcases Nat.lt_or_ge k i with h1 | h1
  · exact h k h1
  · obtain rfl : k = i := by omega
    exact hi

theorem partsN {n : GN} (h : n.ok) : PureP (findFn tab) 40 [.sl n.ln (vs .str n.labels), .sl n.pn (vs GP.av n.props)] (· = .int .i64 (partsE n.labels n.props)) :=
  parts1 h.2.1 h.2.2.2.1 h.2.2.2.2.1 h.2.2.2.2.2.2
theorem partsEd {n : GE} (h : n.ok) : PureP (findFn tab) 40 [.sl false [], .sl n.pn (vs GP.av n.props)] (· = .int .i64 (partsE [] n.props)) :=
  parts1 (L := []) (by decide) (by simp) h.2.2.2.2.1 h.2.2.2.2.2.2

theorem nodesL {g : GG} (hg : g.ok) (hf : fitsG g) (hnx : nextG g) {c : Nat} {Q : AExit → Env → Sto → Prop}
    (hret : ∀ r s, AV.int .i64 r = AV.int .i64 (checkE g) → Q .ret [(2, .int .i64 r)] s)
    (hend : (∀ k, k < g.nodes.length → nodeE g.nodes g.nextN k = 0) → ∀ c i, Q (.exit 0) [(1, .ref 0 0 0 0), (38, .sl g.nn (vs GN.av g.nodes)), (39, .int .i64 g.nodes.length), (40, .int .i64 i), (41, .bool false)] ⟨[.arr 0 4 true true [g.av]], c⟩) :
    Run (findFn tab) (.loop l21_0_h l21_0_b) [(1, .ref 0 0 0 0), (38, .sl g.nn (vs GN.av g.nodes)), (39, .int .i64 g.nodes.length), (40, .int .i64 0)] ⟨[.arr 0 4 true true [g.av]], c⟩ Q := by
  obtain ⟨g1, g2, g3, g4, g5, g6, g7, g8⟩ := hg
  unfold Ln at g1 g4
  have hf' : g.nodes.length ≤ 2000 := hf.1
  refine loop_inv (fun m env s => ∃ i : Nat, m = g.nodes.length - i ∧ env = [(1, .ref 0 0 0 0), (38, .sl g.nn (vs GN.av g.nodes)), (39, .int .i64 g.nodes.length), (40, .int .i64 i)] ∧ (∃ c, s = ⟨[.arr 0 4 true true [g.av]], c⟩) ∧ ∀ k, k < i → nodeE g.nodes g.nextN k = 0) ?_ _ _ _ ⟨0, rfl, by simp, ⟨_, rfl⟩, fun k h => absurd h (by omega)⟩
  rintro _ _ _ ⟨i, rfl, rfl, ⟨c, rfl⟩, hx⟩
  refine ⟨rfl, ?_⟩
  have hat : ∀ h : i < g.nodes.length, (g.nodes[i]).ok := fun h => g3 _ (List.getElem_mem _)
  (conv => whnf); repeat' (first | (apply nthK_intro; (· exact nVz (i - 1) (by omega) (by omega)); conv => whnf) | (refine callK_of (partsN (n := g.nodes[i]) (hat (by omega))) ?_; rintro _ rfl; conv => whnf) | (refine hret _ _ ?_) | (refine hend (fun k hk => hx k (by omega)) _ _) | (refine need.mk ?_ ?_; (· (first | with_reducible rfl | omega | rfl | decide | trivial | exact ⟨rfl, rfl, by omega, by omega⟩ | exact ⟨by omega, by omega, roomy_of (by omega)⟩ | (refine ⟨rfl, rfl, ?_⟩; first | ((first | rw [lI] | rw [lS] | rw [lB] | rw [lV]); omega) | (simp; done) | (simp; omega)) | (refine ⟨rfl, ?_⟩; first | ((first | rw [lI] | rw [lS] | rw [lB] | rw [lV]); omega) | (simp; done) | (simp; omega)) | fail)); conv => whnf) | (refine pcase.mk (fun hc => ?_) (fun hc => ?_) <;> (try rw [List.length_nil] at hc) <;> first | (exfalso; omega) | (exact absurd rfl hc) | conv => whnf) | (apply wrapK_intro; (· exact wrap_i64 (by omega) (by omega)); conv => whnf) | (apply nthK_intro; (· (first | ((with_reducible first | refine nIN ?_ | refine nI ?_ | refine nSN ?_ | refine nS ?_ | refine nBN ?_ | refine nB ?_ | refine nYN ?_ | refine nY ?_ | refine nY0 ?_ | refine nVN ?_ | refine nV ?_); (first | omega | (simp; omega))) | rfl)); conv => whnf) | (apply getK_intro; (· rfl); conv => whnf) | (apply eqK_intro; (· (first | (with_reducible first | exact lI _ | exact lS _ | exact lB _ | exact uI | exact uS | exact uIS | exact uSS | exact rIN _ _ | exact rI _ _ | exact tIN | exact tI | exact tBN | exact tB | exact uB | exact rBN _ _ | exact lV _ | exact uV | exact uVS) | rfl)); conv => whnf) | ((first | apply apI | apply apS); (· first | rfl | (simp; done)); (· (first | omega | (simp; omega))); conv => whnf) | (refine fkI (fun hm => ?_) (fun _ v hm => ?_) <;> conv => whnf) | (apply msI; conv => whnf) | (refine bcase_intro (fun hc => ?_) (fun hc => ?_) <;> conv => whnf))
  all_goals first
    | exact again.mk ⟨_, by omega, i + 1, rfl, rfl, ⟨_, rfl⟩, all_lt_succ hx ((nodeP (by omega) (fun h => by first | assumption | omega) (by omega)).trans hc)⟩
    | exact checkN hf hnx (by omega) hx (node26 (by omega) (by omega) (by assumption)) (by decide)
    | exact checkN hf hnx (by omega) hx (node1 (by omega) (fun h => by first | assumption | omega) (by omega)) (by decide)
    | exact checkN hf hnx (by omega) hx (nodeP (by omega) (fun h => by first | assumption | omega) (by omega)) hc

set_option maxHeartbeats 1000000 in
theorem edgesL {g : GG} (hg : g.ok) (hf : fitsG g) (hnx : nextG g) (hN : ∀ k, k < g.nodes.length → nodeE g.nodes g.nextN k = 0) {c : Nat} {Q : AExit → Env → Sto → Prop}
    (hret : ∀ r s, AV.int .i64 r = AV.int .i64 (checkE g) → Q .ret [(2, .int .i64 r)] s)
    (hend : (∀ k, k < g.edges.length → edgeE g.nodes g.edges g.nextE k = 0) → ∀ c i, Q (.exit 2) [(1, .ref 0 0 0 0), (79, .sl g.en (vs GE.av g.edges)), (80, .int .i64 g.edges.length), (81, .int .i64 i), (82, .bool false)] ⟨[.arr 0 4 true true [g.av]], c⟩) :
    Run (findFn tab) (.loop l21_1_h l21_1_b) [(1, .ref 0 0 0 0), (79, .sl g.en (vs GE.av g.edges)), (80, .int .i64 g.edges.length), (81, .int .i64 0)] ⟨[.arr 0 4 true true [g.av]], c⟩ Q := by
  obtain ⟨g1, g2, g3, g4, g5, g6, g7, g8⟩ := hg
  unfold Ln at g1 g4
  have hf' : g.edges.length ≤ 4000 := hf.2
  have hI := incr_nodes hN
  have hl : g.nodes.length < 2^62 := by have := hf.1; omega
  refine loop_inv (fun m env s => ∃ i : Nat, m = g.edges.length - i ∧ env = [(1, .ref 0 0 0 0), (79, .sl g.en (vs GE.av g.edges)), (80, .int .i64 g.edges.length), (81, .int .i64 i)] ∧ (∃ c, s = ⟨[.arr 0 4 true true [g.av]], c⟩) ∧ ∀ k, k < i → edgeE g.nodes g.edges g.nextE k = 0) ?_ _ _ _ ⟨0, rfl, by simp, ⟨_, rfl⟩, fun k h => absurd h (by omega)⟩
  rintro _ _ _ ⟨i, rfl, rfl, ⟨c, rfl⟩, hx⟩
  refine ⟨rfl, ?_⟩
  have hat : ∀ h : i < g.edges.length, (g.edges[i]).ok := fun h => g6 _ (List.getElem_mem _)
  (conv => whnf); repeat' (first | (apply nthK_intro; (· exact nVz (i - 1) (by omega) (by omega)); conv => whnf) | (refine callB (hasP hl hI) (fun hc => ?_) (fun hc => ?_) <;> conv => whnf) | (refine callB (name1 (s := (g.edges[i]).ty) (hat (by omega)).2.2.2.1) (fun hnm => ?_) (fun hnm => ?_) <;> conv => whnf) | (refine callK_of (partsEd (n := g.edges[i]) (hat (by omega))) ?_; rintro _ rfl; conv => whnf) | (refine hret _ _ ?_) | (refine hend (fun k hk => hx k (by omega)) _ _) | (refine need.mk ?_ ?_; (· (first | with_reducible rfl | omega | rfl | decide | trivial | exact ⟨rfl, rfl, by omega, by omega⟩ | exact ⟨by omega, by omega, roomy_of (by omega)⟩ | (refine ⟨rfl, rfl, ?_⟩; first | ((first | rw [lI] | rw [lS] | rw [lB] | rw [lV]); omega) | (simp; done) | (simp; omega)) | (refine ⟨rfl, ?_⟩; first | ((first | rw [lI] | rw [lS] | rw [lB] | rw [lV]); omega) | (simp; done) | (simp; omega)) | fail)); conv => whnf) | (refine pcase.mk (fun hc => ?_) (fun hc => ?_) <;> (try rw [List.length_nil] at hc) <;> first | (exfalso; omega) | (exact absurd rfl hc) | conv => whnf) | (apply wrapK_intro; (· exact wrap_i64 (by omega) (by omega)); conv => whnf) | (apply nthK_intro; (· (first | ((with_reducible first | refine nIN ?_ | refine nI ?_ | refine nSN ?_ | refine nS ?_ | refine nBN ?_ | refine nB ?_ | refine nYN ?_ | refine nY ?_ | refine nY0 ?_ | refine nVN ?_ | refine nV ?_); (first | omega | (simp; omega))) | rfl)); conv => whnf) | (apply getK_intro; (· rfl); conv => whnf) | (apply eqK_intro; (· (first | (with_reducible first | exact lI _ | exact lS _ | exact lB _ | exact uI | exact uS | exact uIS | exact uSS | exact rIN _ _ | exact rI _ _ | exact tIN | exact tI | exact tBN | exact tB | exact uB | exact rBN _ _ | exact lV _ | exact uV | exact uVS) | rfl)); conv => whnf) | ((first | apply apI | apply apS); (· first | rfl | (simp; done)); (· (first | omega | (simp; omega))); conv => whnf) | (refine fkI (fun hm => ?_) (fun _ v hm => ?_) <;> conv => whnf) | (apply msI; conv => whnf) | (refine bcase_intro (fun hc => ?_) (fun hc => ?_) <;> conv => whnf))
  all_goals first
    | exact again.mk ⟨_, by omega, i + 1, rfl, rfl, ⟨_, rfl⟩, all_lt_succ hx ((edgeP (by omega) (fun h => by first | assumption | omega) (by omega) ⟨by assumption, by assumption⟩ hnm).trans hc)⟩
    | exact checkEd hf hnx hN (by omega) hx (edge26 (by omega) (by omega) (by assumption)) (by decide)
    | exact checkEd hf hnx hN (by omega) hx (edge1 (by omega) (fun h => by first | assumption | omega) (by omega)) (by decide)
    | exact checkEd hf hnx hN (by omega) hx (edge10 (by omega) (fun h => by first | assumption | omega) (by omega) (fun h => by first | exact absurd h.1 (by assumption) | exact absurd h.2 (by assumption))) (by decide)
    | exact checkEd hf hnx hN (by omega) hx (edge6 (by omega) (fun h => by first | assumption | omega) (by omega) ⟨by assumption, by assumption⟩ hnm) (by decide)
    | exact checkEd hf hnx hN (by omega) hx (edgeP (by omega) (fun h => by first | assumption | omega) (by omega) ⟨by assumption, by assumption⟩ hnm) hc

theorem checkG {g : GG} (hg : g.ok) : PureP (findFn tab) 21 [g.av] (· = .int .i64 (checkE g)) := by
  have hg0 := hg
  obtain ⟨g1, g2, g3, g4, g5, g6, g7, g8⟩ := hg
  unfold Ln at g1 g4
  refine pureP_of rfl rfl ?_
  (conv => whnf); repeat' (first | (refine need.mk ?_ ?_; (· (first | with_reducible rfl | omega | rfl | decide | trivial | exact ⟨rfl, rfl, by omega, by omega⟩ | exact ⟨by omega, by omega, roomy_of (by omega)⟩ | (refine ⟨rfl, rfl, ?_⟩; first | ((first | rw [lI] | rw [lS] | rw [lB] | rw [lV]); omega) | (simp; done) | (simp; omega)) | (refine ⟨rfl, ?_⟩; first | ((first | rw [lI] | rw [lS] | rw [lB] | rw [lV]); omega) | (simp; done) | (simp; omega)) | fail)); conv => whnf) | (refine pcase.mk (fun hc => ?_) (fun hc => ?_) <;> (try rw [List.length_nil] at hc) <;> first | (exfalso; omega) | (exact absurd rfl hc) | conv => whnf) | (apply wrapK_intro; (· exact wrap_i64 (by omega) (by omega)); conv => whnf) | (apply nthK_intro; (· (first | ((with_reducible first | refine nIN ?_ | refine nI ?_ | refine nSN ?_ | refine nS ?_ | refine nBN ?_ | refine nB ?_ | refine nYN ?_ | refine nY ?_ | refine nY0 ?_ | refine nVN ?_ | refine nV ?_); (first | omega | (simp; omega))) | rfl)); conv => whnf) | (apply getK_intro; (· rfl); conv => whnf) | (apply eqK_intro; (· (first | (with_reducible first | exact lI _ | exact lS _ | exact lB _ | exact uI | exact uS | exact uIS | exact uSS | exact rIN _ _ | exact rI _ _ | exact tIN | exact tI | exact tBN | exact tB | exact uB | exact rBN _ _ | exact lV _ | exact uV | exact uVS) | rfl)); conv => whnf) | ((first | apply apI | apply apS); (· first | rfl | (simp; done)); (· (first | omega | (simp; omega))); conv => whnf) | (refine fkI (fun hm => ?_) (fun _ v hm => ?_) <;> conv => whnf) | (apply msI; conv => whnf)  | (refine bcase_intro (fun hc => ?_) (fun hc => ?_) <;> conv => whnf))
  all_goals first | exact check4 (by unfold fitsG; omega) | exact check1 (by unfold fitsG; omega) (by unfold nextG; omega) | skip
  have hf : fitsG g := by unfold fitsG; omega
  have hnx : nextG g := by unfold nextG; omega
  refine nodesL hg0 hf hnx (fun r s h => by (conv => whnf); (apply getK_intro; (· rfl); conv => whnf); (apply getK_intro; (· rfl); conv => whnf); exact h) (fun hN c i => ?_)
  (conv => whnf); repeat' (first | (refine need.mk ?_ ?_; (· (first | with_reducible rfl | omega | rfl | decide | trivial | exact ⟨rfl, rfl, by omega, by omega⟩ | exact ⟨by omega, by omega, roomy_of (by omega)⟩ | (refine ⟨rfl, rfl, ?_⟩; first | ((first | rw [lI] | rw [lS] | rw [lB] | rw [lV]); omega) | (simp; done) | (simp; omega)) | (refine ⟨rfl, ?_⟩; first | ((first | rw [lI] | rw [lS] | rw [lB] | rw [lV]); omega) | (simp; done) | (simp; omega)) | fail)); conv => whnf) | (refine pcase.mk (fun hc => ?_) (fun hc => ?_) <;> (try rw [List.length_nil] at hc) <;> first | (exfalso; omega) | (exact absurd rfl hc) | conv => whnf) | (apply wrapK_intro; (· exact wrap_i64 (by omega) (by omega)); conv => whnf) | (apply nthK_intro; (· (first | ((with_reducible first | refine nIN ?_ | refine nI ?_ | refine nSN ?_ | refine nS ?_ | refine nBN ?_ | refine nB ?_ | refine nYN ?_ | refine nY ?_ | refine nY0 ?_ | refine nVN ?_ | refine nV ?_); (first | omega | (simp; omega))) | rfl)); conv => whnf) | (apply getK_intro; (· rfl); conv => whnf) | (apply eqK_intro; (· (first | (with_reducible first | exact lI _ | exact lS _ | exact lB _ | exact uI | exact uS | exact uIS | exact uSS | exact rIN _ _ | exact rI _ _ | exact tIN | exact tI | exact tBN | exact tB | exact uB | exact rBN _ _ | exact lV _ | exact uV | exact uVS) | rfl)); conv => whnf) | ((first | apply apI | apply apS); (· first | rfl | (simp; done)); (· (first | omega | (simp; omega))); conv => whnf) | (refine fkI (fun hm => ?_) (fun _ v hm => ?_) <;> conv => whnf) | (apply msI; conv => whnf)  | (refine bcase_intro (fun hc => ?_) (fun hc => ?_) <;> conv => whnf))
  refine edgesL hg0 hf hnx hN (fun r s h => by (conv => whnf); (apply getK_intro; (· rfl); conv => whnf); (apply getK_intro; (· rfl); conv => whnf); exact h) (fun hE c i => ?_)
  (conv => whnf); repeat' (first | (refine need.mk ?_ ?_; (· (first | with_reducible rfl | omega | rfl | decide | trivial | exact ⟨rfl, rfl, by omega, by omega⟩ | exact ⟨by omega, by omega, roomy_of (by omega)⟩ | (refine ⟨rfl, rfl, ?_⟩; first | ((first | rw [lI] | rw [lS] | rw [lB] | rw [lV]); omega) | (simp; done) | (simp; omega)) | (refine ⟨rfl, ?_⟩; first | ((first | rw [lI] | rw [lS] | rw [lB] | rw [lV]); omega) | (simp; done) | (simp; omega)) | fail)); conv => whnf) | (refine pcase.mk (fun hc => ?_) (fun hc => ?_) <;> (try rw [List.length_nil] at hc) <;> first | (exfalso; omega) | (exact absurd rfl hc) | conv => whnf) | (apply wrapK_intro; (· exact wrap_i64 (by omega) (by omega)); conv => whnf) | (apply nthK_intro; (· (first | ((with_reducible first | refine nIN ?_ | refine nI ?_ | refine nSN ?_ | refine nS ?_ | refine nBN ?_ | refine nB ?_ | refine nYN ?_ | refine nY ?_ | refine nY0 ?_ | refine nVN ?_ | refine nV ?_); (first | omega | (simp; omega))) | rfl)); conv => whnf) | (apply getK_intro; (· rfl); conv => whnf) | (apply eqK_intro; (· (first | (with_reducible first | exact lI _ | exact lS _ | exact lB _ | exact uI | exact uS | exact uIS | exact uSS | exact rIN _ _ | exact rI _ _ | exact tIN | exact tI | exact tBN | exact tB | exact uB | exact rBN _ _ | exact lV _ | exact uV | exact uVS) | rfl)); conv => whnf) | ((first | apply apI | apply apS); (· first | rfl | (simp; done)); (· (first | omega | (simp; omega))); conv => whnf) | (refine fkI (fun hm => ?_) (fun _ v hm => ?_) <;> conv => whnf) | (apply msI; conv => whnf)  | (refine bcase_intro (fun hc => ?_) (fun hc => ?_) <;> conv => whnf))
  exact check0 hf hnx hN hE

end AI
end Go.Proofs.YtokdbmakkoleiaaGreat
