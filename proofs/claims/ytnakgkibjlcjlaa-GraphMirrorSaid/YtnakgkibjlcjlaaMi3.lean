/- The law GraphMirror, about the evaluator: the loops. -/
import Derived.Test.YtnakgkibjlcjlaaMi2
import Derived.Test.YtnakgkibjlcjlaaGrLaw1
set_option linter.unusedVariables false
namespace Go.Proofs.Ytnakgkibjlcjlaa
namespace AI

theorem outs_le {types : List (List UInt8)} {n dir : Int} {E : List GE} : (outs types n dir E).length ≤ E.length := outs_len

theorem lp_bound {types : List (List UInt8)} {n : Int} {E : List GE} (hE : E.length ≤ 60) : 0 ≤ sumI ((outs types n 1 E).map (lp n)) ∧ sumI ((outs types n 1 E).map (lp n)) ≤ 60 := by
  have h := sumI_bound (l := outs types n 1 E) (f := lp n) (c := 1) fun x _ => by unfold lp; split <;> omega
  have := @outs_len types n 1 E
  omega

theorem lp_take {W : List Adj} {n : Int} (j : Nat) (h : W.length ≤ 60) : 0 ≤ sumI ((W.take j).map (lp n)) ∧ sumI ((W.take j).map (lp n)) ≤ 60 := by
  have h1 := sumI_bound (l := W.take j) (f := lp n) (c := 1) fun x _ => by unfold lp; split <;> omega
  have : (W.take j).length ≤ W.length := by rw [List.length_take]; omega
  omega

set_option maxHeartbeats 1000000 in
theorem mirL {g : GG} (hg : g.ok) (hE : g.edges.length ≤ 60) {types : List (List UInt8)} {tn : Bool} (ht : types.length < 2^63) {n : GN} {i gn c : Nat} {o i' lo bo : Int} {W1 W2 : List Adj} {na nb : Bool} {Q : AExit → Env → Sto → Prop}
    (p1 : W1.Perm (outs types n.id 1 g.edges)) (h0 : 0 ≤ lo) (h1 : lo ≤ 2000)
    (hQ : ∀ c' j, Q (.exit 2) [(1, .sl tn (vs .str types)), (2, .ref 0 0 0 0), (5, .int .i64 o), (6, .int .i64 i'), (7, .int .i64 (lo + sumI (W1.map (lp n.id)))), (8, .int .i64 bo), (10, .ref 1 gn 0 0), (11, .sl na (vs Adj.av W1)), (12, .sl nb (vs Adj.av W2)), (33, .sl g.nn (vs GN.av g.nodes)), (34, .int .i64 g.nodes.length), (35, .int .i64 i), (49, .sl na (vs Adj.av W1)), (50, .int .i64 W1.length), (51, j), (52, .bool false)] ⟨[.arr 0 4 true true [g.av], .arr gn 3 true true [n.av]], c'⟩) :
    Run (findFn tab) (.loop l4_0_h l4_0_b) [(1, .sl tn (vs .str types)), (2, .ref 0 0 0 0), (5, .int .i64 o), (6, .int .i64 i'), (7, .int .i64 lo), (8, .int .i64 bo), (10, .ref 1 gn 0 0), (11, .sl na (vs Adj.av W1)), (12, .sl nb (vs Adj.av W2)), (33, .sl g.nn (vs GN.av g.nodes)), (34, .int .i64 g.nodes.length), (35, .int .i64 i), (49, .sl na (vs Adj.av W1)), (50, .int .i64 W1.length), (51, .int .i64 0)] ⟨[.arr 0 4 true true [g.av], .arr gn 3 true true [n.av]], c⟩ Q := by
  have hW : W1.length ≤ 60 := by have := p1.length_eq; have := @outs_len types n.id 1 g.edges; omega
  refine loop_inv (fun m env s => ∃ (j c : Nat) (l : Int), m = W1.length - j ∧ l = lo + sumI ((W1.take j).map (lp n.id)) ∧ env = [(1, .sl tn (vs .str types)), (2, .ref 0 0 0 0), (5, .int .i64 o), (6, .int .i64 i'), (7, .int .i64 l), (8, .int .i64 bo), (10, .ref 1 gn 0 0), (11, .sl na (vs Adj.av W1)), (12, .sl nb (vs Adj.av W2)), (33, .sl g.nn (vs GN.av g.nodes)), (34, .int .i64 g.nodes.length), (35, .int .i64 i), (49, .sl na (vs Adj.av W1)), (50, .int .i64 W1.length), (51, .int .i64 j)] ∧ s = ⟨[.arr 0 4 true true [g.av], .arr gn 3 true true [n.av]], c⟩) ?_ _ _ _ ⟨0, c, lo, rfl, by simp [sumI], rfl, rfl⟩
  rintro _ _ _ ⟨j, c, l, rfl, hl, rfl, rfl⟩
  refine ⟨rfl, ?_⟩
  by_cases hj : j < W1.length
  · have hmem : W1[j] ∈ outs types n.id 1 g.edges := p1.mem_iff.1 (List.getElem_mem hj)
    have hfr := outs_fr _ hmem
    have hb := lp_take (n := n.id) j hW
    have hs := sumI_take (f := lp n.id) hj
    (conv => whnf); repeat' (first | (refine callK_of (stepsG (g := g) hg (by omega) ht) ?_; rintro _ ⟨n3, W3, rfl, p3, s3⟩; conv => whnf) | (refine callB (hasA (a := ⟨(W1[j]).to, n.id, (W1[j]).ed⟩) (by have := p3.length_eq; have := @outs_len types (W1[j]).to 2 g.edges; omega)) (fun _ => ?_) (fun hm => absurd (p3.mem_iff.2 (mirror hmem)) hm); conv => whnf) | (refine need.mk ?_ ?_; (· (first | with_reducible rfl | omega | rfl | decide | trivial | exact ⟨rfl, rfl, by omega, by omega⟩ | exact ⟨by omega, by omega, roomy_of (by omega)⟩ | (refine ⟨rfl, rfl, ?_⟩; first | ((first | rw [lI] | rw [lS] | rw [lB] | rw [lV]); omega) | (simp; done) | (simp; omega)) | (refine ⟨rfl, ?_⟩; first | ((first | rw [lI] | rw [lS] | rw [lB] | rw [lV]); omega) | (simp; done) | (simp; omega)) | fail)); conv => whnf) | (refine pcase.mk (fun hc => ?_) (fun hc => ?_) <;> (try rw [List.length_nil] at hc) <;> first | (exfalso; omega) | (exact absurd rfl hc) | conv => whnf) | (apply wrapK_intro; (· exact wrap_i64 (by omega) (by omega)); conv => whnf) | (apply nthK_intro; (· (first | ((with_reducible first | refine nIN ?_ | refine nI ?_ | refine nSN ?_ | refine nS ?_ | refine nBN ?_ | refine nB ?_ | refine nYN ?_ | refine nY ?_ | refine nY0 ?_ | refine nVN ?_ | refine nV ?_); (first | omega | (simp; omega))) | rfl)); conv => whnf) | (apply getK_intro; (· rfl); conv => whnf) | (apply eqK_intro; (· (first | (with_reducible first | exact lI _ | exact lS _ | exact lB _ | exact uI | exact uS | exact uIS | exact uSS | exact rIN _ _ | exact rI _ _ | exact tIN | exact tI | exact tBN | exact tB | exact uB | exact rBN _ _ | exact lV _ | exact uV | exact uVS) | rfl)); conv => whnf) | ((first | apply apI | apply apS); (· first | rfl | (simp; done)); (· (first | omega | (simp; omega))); conv => whnf) | (refine fkI (fun hm => ?_) (fun _ v hm => ?_) <;> conv => whnf) | (apply msI; conv => whnf) | (refine bcase_intro (fun hc => ?_) (fun hc => ?_) <;> conv => whnf))
    · have e : lp n.id W1[j] = 1 := if_pos hc
      exact again.mk ⟨_, by omega, j + 1, _, _, rfl, by rw [hs, e, hl]; omega, rfl, rfl⟩
    · have e : lp n.id W1[j] = 0 := if_neg hc
      exact again.mk ⟨_, by omega, j + 1, _, _, rfl, by rw [hs, e, hl]; omega, rfl, rfl⟩
  · rw [List.take_of_length_le (by omega)] at hl
    subst hl
    (conv => whnf); repeat' (first | (refine need.mk ?_ ?_; (· (first | with_reducible rfl | omega | rfl | decide | trivial | exact ⟨rfl, rfl, by omega, by omega⟩ | exact ⟨by omega, by omega, roomy_of (by omega)⟩ | (refine ⟨rfl, rfl, ?_⟩; first | ((first | rw [lI] | rw [lS] | rw [lB] | rw [lV]); omega) | (simp; done) | (simp; omega)) | (refine ⟨rfl, ?_⟩; first | ((first | rw [lI] | rw [lS] | rw [lB] | rw [lV]); omega) | (simp; done) | (simp; omega)) | fail)); conv => whnf) | (refine pcase.mk (fun hc => ?_) (fun hc => ?_) <;> (try rw [List.length_nil] at hc) <;> first | (exfalso; omega) | (exact absurd rfl hc) | conv => whnf) | (apply wrapK_intro; (· exact wrap_i64 (by omega) (by omega)); conv => whnf) | (apply nthK_intro; (· (first | ((with_reducible first | refine nIN ?_ | refine nI ?_ | refine nSN ?_ | refine nS ?_ | refine nBN ?_ | refine nB ?_ | refine nYN ?_ | refine nY ?_ | refine nY0 ?_ | refine nVN ?_ | refine nV ?_); (first | omega | (simp; omega))) | rfl)); conv => whnf) | (apply getK_intro; (· rfl); conv => whnf) | (apply eqK_intro; (· (first | (with_reducible first | exact lI _ | exact lS _ | exact lB _ | exact uI | exact uS | exact uIS | exact uSS | exact rIN _ _ | exact rI _ _ | exact tIN | exact tI | exact tBN | exact tB | exact uB | exact rBN _ _ | exact lV _ | exact uV | exact uVS) | rfl)); conv => whnf) | ((first | apply apI | apply apS); (· first | rfl | (simp; done)); (· (first | omega | (simp; omega))); conv => whnf) | (refine fkI (fun hm => ?_) (fun _ v hm => ?_) <;> conv => whnf) | (apply msI; conv => whnf)  | (refine bcase_intro (fun hc => ?_) (fun hc => ?_) <;> conv => whnf))
    exact hQ _ _

def f1 (types : List (List UInt8)) (E : List GE) (dir : Int) (n : GN) : Int := ((outs types n.id dir E).length : Int)
def fL (types : List (List UInt8)) (E : List GE) (n : GN) : Int := sumI ((outs types n.id 1 E).map (lp n.id))

theorem f1_take {types : List (List UInt8)} {E : List GE} {dir : Int} {N : List GN} (i : Nat) (hE : E.length ≤ 60) (hN : N.length ≤ 30) : 0 ≤ sumI ((N.take i).map (f1 types E dir)) ∧ sumI ((N.take i).map (f1 types E dir)) ≤ 1800 := by
  have h1 := sumI_bound (l := N.take i) (f := f1 types E dir) (c := 60) fun x _ => by
    have := @outs_len types x.id dir E
    unfold f1; omega
  have : (N.take i).length ≤ N.length := by rw [List.length_take]; omega
  omega
theorem fL_take {types : List (List UInt8)} {E : List GE} {N : List GN} (i : Nat) (hE : E.length ≤ 60) (hN : N.length ≤ 30) : 0 ≤ sumI ((N.take i).map (fL types E)) ∧ sumI ((N.take i).map (fL types E)) ≤ 1800 := by
  have h1 := sumI_bound (l := N.take i) (f := fL types E) (c := 60) fun x _ => lp_bound hE
  have : (N.take i).length ≤ N.length := by rw [List.length_take]; omega
  omega

theorem perm_sum {types : List (List UInt8)} {E : List GE} {n : GN} {W : List Adj} (p : W.Perm (outs types n.id 1 E)) : sumI (W.map (lp n.id)) = fL types E n := sumI_perm p
theorem perm_len {types : List (List UInt8)} {E : List GE} {n : GN} {dir : Int} {W : List Adj} (p : W.Perm (outs types n.id dir E)) : (W.length : Int) = f1 types E dir n := by rw [p.length_eq]; rfl

set_option maxHeartbeats 1000000 in
theorem mirN {g : GG} (hg : g.ok) (hE : g.edges.length ≤ 60) (hN : g.nodes.length ≤ 30) {types : List (List UInt8)} {tn : Bool} (ht : types.length < 2^63) {c : Nat} {Q : AExit → Env → Sto → Prop}
    (hQ : ∀ c' tl, Q (.exit 0) ([(1, .sl tn (vs .str types)), (2, .ref 0 0 0 0), (5, .int .i64 (sumI (g.nodes.map (f1 types g.edges 1)))), (6, .int .i64 (sumI (g.nodes.map (f1 types g.edges 2)))), (7, .int .i64 (sumI (g.nodes.map (fL types g.edges)))), (8, .int .i64 (sumI (g.nodes.map (f1 types g.edges 3))))] ++ tl) ⟨[.arr 0 4 true true [g.av]], c'⟩) :
    Run (findFn tab) (.loop l4_1_h l4_1_b) [(1, .sl tn (vs .str types)), (2, .ref 0 0 0 0), (5, .int .i64 0), (6, .int .i64 0), (7, .int .i64 0), (8, .int .i64 0), (33, .sl g.nn (vs GN.av g.nodes)), (34, .int .i64 g.nodes.length), (35, .int .i64 0)] ⟨[.arr 0 4 true true [g.av]], c⟩ Q := by
  refine loop_inv (fun m env s => ∃ (i c : Nat) (o i' lo bo : Int), m = g.nodes.length - i ∧ o = sumI ((g.nodes.take i).map (f1 types g.edges 1)) ∧ i' = sumI ((g.nodes.take i).map (f1 types g.edges 2)) ∧ lo = sumI ((g.nodes.take i).map (fL types g.edges)) ∧ bo = sumI ((g.nodes.take i).map (f1 types g.edges 3)) ∧ env = [(1, .sl tn (vs .str types)), (2, .ref 0 0 0 0), (5, .int .i64 o), (6, .int .i64 i'), (7, .int .i64 lo), (8, .int .i64 bo), (33, .sl g.nn (vs GN.av g.nodes)), (34, .int .i64 g.nodes.length), (35, .int .i64 i)] ∧ s = ⟨[.arr 0 4 true true [g.av]], c⟩) ?_ _ _ _ ⟨0, c, 0, 0, 0, 0, rfl, rfl, rfl, rfl, rfl, rfl, rfl⟩
  rintro _ _ _ ⟨i, c, o, i', lo, bo, rfl, ho, hi', hlo, hbo, rfl, rfl⟩
  refine ⟨rfl, ?_⟩
  have b1 := f1_take (types := types) (dir := 1) i hE hN
  have b2 := f1_take (types := types) (dir := 2) i hE hN
  have b3 := f1_take (types := types) (dir := 3) i hE hN
  have b4 := fL_take (types := types) i hE hN
  rw [← ho] at b1
  rw [← hi'] at b2
  rw [← hbo] at b3
  rw [← hlo] at b4
  by_cases hi : i < g.nodes.length
  · (conv => whnf); repeat' (first | (refine callK_of (stepsG (g := g) (id := (g.nodes[i]).id) (dir := 1) hg (by omega) ht) ?_; rintro _ ⟨n2, W2, rfl, p2, s2⟩; conv => whnf) | (refine callK_of (stepsG (g := g) (id := (g.nodes[i]).id) (dir := 2) hg (by omega) ht) ?_; rintro _ ⟨n1, W1, rfl, p1, s1⟩; conv => whnf) | (refine need.mk ?_ ?_; (· (first | with_reducible rfl | omega | rfl | decide | trivial | exact ⟨rfl, rfl, by omega, by omega⟩ | exact ⟨by omega, by omega, roomy_of (by omega)⟩ | (refine ⟨rfl, rfl, ?_⟩; first | ((first | rw [lI] | rw [lS] | rw [lB] | rw [lV]); omega) | (simp; done) | (simp; omega)) | (refine ⟨rfl, ?_⟩; first | ((first | rw [lI] | rw [lS] | rw [lB] | rw [lV]); omega) | (simp; done) | (simp; omega)) | fail)); conv => whnf) | (refine pcase.mk (fun hc => ?_) (fun hc => ?_) <;> (try rw [List.length_nil] at hc) <;> first | (exfalso; omega) | (exact absurd rfl hc) | conv => whnf) | (apply wrapK_intro; (· exact wrap_i64 (by omega) (by omega)); conv => whnf) | (apply nthK_intro; (· (first | ((with_reducible first | refine nIN ?_ | refine nI ?_ | refine nSN ?_ | refine nS ?_ | refine nBN ?_ | refine nB ?_ | refine nYN ?_ | refine nY ?_ | refine nY0 ?_ | refine nVN ?_ | refine nV ?_); (first | omega | (simp; omega))) | rfl)); conv => whnf) | (apply getK_intro; (· rfl); conv => whnf) | (apply eqK_intro; (· (first | (with_reducible first | exact lI _ | exact lS _ | exact lB _ | exact uI | exact uS | exact uIS | exact uSS | exact rIN _ _ | exact rI _ _ | exact tIN | exact tI | exact tBN | exact tB | exact uB | exact rBN _ _ | exact lV _ | exact uV | exact uVS) | rfl)); conv => whnf) | ((first | apply apI | apply apS); (· first | rfl | (simp; done)); (· (first | omega | (simp; omega))); conv => whnf) | (refine fkI (fun hm => ?_) (fun _ v hm => ?_) <;> conv => whnf) | (apply msI; conv => whnf) | (refine bcase_intro (fun hc => ?_) (fun hc => ?_) <;> conv => whnf))
    refine mirL hg hE ht p2 (by omega) (by omega) ?_
    intro c2 j
    have e1 := perm_len p2
    have e2 := perm_len p1
    have d1 := @outs_len types (g.nodes[i]).id 1 g.edges
    have d2 := @outs_len types (g.nodes[i]).id 2 g.edges
    have d3 := @outs_len types (g.nodes[i]).id 3 g.edges
    rw [← p2.length_eq] at d1
    rw [← p1.length_eq] at d2
    (conv => whnf); repeat' (first | (refine callK_of (stepsG (g := g) (id := (g.nodes[i]).id) (dir := 3) hg (by omega) ht) ?_; rintro _ ⟨n3, W3, rfl, p3, s3⟩; rw [← p3.length_eq] at d3; conv => whnf) | (refine need.mk ?_ ?_; (· (first | with_reducible rfl | omega | rfl | decide | trivial | exact ⟨rfl, rfl, by omega, by omega⟩ | exact ⟨by omega, by omega, roomy_of (by omega)⟩ | (refine ⟨rfl, rfl, ?_⟩; first | ((first | rw [lI] | rw [lS] | rw [lB] | rw [lV]); omega) | (simp; done) | (simp; omega)) | (refine ⟨rfl, ?_⟩; first | ((first | rw [lI] | rw [lS] | rw [lB] | rw [lV]); omega) | (simp; done) | (simp; omega)) | fail)); conv => whnf) | (refine pcase.mk (fun hc => ?_) (fun hc => ?_) <;> (try rw [List.length_nil] at hc) <;> first | (exfalso; omega) | (exact absurd rfl hc) | conv => whnf) | (apply wrapK_intro; (· exact wrap_i64 (by omega) (by omega)); conv => whnf) | (apply nthK_intro; (· (first | ((with_reducible first | refine nIN ?_ | refine nI ?_ | refine nSN ?_ | refine nS ?_ | refine nBN ?_ | refine nB ?_ | refine nYN ?_ | refine nY ?_ | refine nY0 ?_ | refine nVN ?_ | refine nV ?_); (first | omega | (simp; omega))) | rfl)); conv => whnf) | (apply getK_intro; (· rfl); conv => whnf) | (apply eqK_intro; (· (first | (with_reducible first | exact lI _ | exact lS _ | exact lB _ | exact uI | exact uS | exact uIS | exact uSS | exact rIN _ _ | exact rI _ _ | exact tIN | exact tI | exact tBN | exact tB | exact uB | exact rBN _ _ | exact lV _ | exact uV | exact uVS) | rfl)); conv => whnf) | ((first | apply apI | apply apS); (· first | rfl | (simp; done)); (· (first | omega | (simp; omega))); conv => whnf) | (refine fkI (fun hm => ?_) (fun _ v hm => ?_) <;> conv => whnf) | (apply msI; conv => whnf) | (refine bcase_intro (fun hc => ?_) (fun hc => ?_) <;> conv => whnf))
    have e3 := perm_len p3
    exact again.mk ⟨_, by omega, i + 1, _, _, _, _, _, rfl, by rw [sumI_take hi, ← ho, ← e1], by rw [sumI_take hi, ← hi', ← e2], by rw [sumI_take hi, ← hlo, ← perm_sum p2], by rw [sumI_take hi, ← hbo, ← e3], rfl, rfl⟩
  · rw [List.take_of_length_le (by omega)] at ho hi' hlo hbo
    subst ho hi' hlo hbo
    (conv => whnf); repeat' (first | (refine need.mk ?_ ?_; (· (first | with_reducible rfl | omega | rfl | decide | trivial | exact ⟨rfl, rfl, by omega, by omega⟩ | exact ⟨by omega, by omega, roomy_of (by omega)⟩ | (refine ⟨rfl, rfl, ?_⟩; first | ((first | rw [lI] | rw [lS] | rw [lB] | rw [lV]); omega) | (simp; done) | (simp; omega)) | (refine ⟨rfl, ?_⟩; first | ((first | rw [lI] | rw [lS] | rw [lB] | rw [lV]); omega) | (simp; done) | (simp; omega)) | fail)); conv => whnf) | (refine pcase.mk (fun hc => ?_) (fun hc => ?_) <;> (try rw [List.length_nil] at hc) <;> first | (exfalso; omega) | (exact absurd rfl hc) | conv => whnf) | (apply wrapK_intro; (· exact wrap_i64 (by omega) (by omega)); conv => whnf) | (apply nthK_intro; (· (first | ((with_reducible first | refine nIN ?_ | refine nI ?_ | refine nSN ?_ | refine nS ?_ | refine nBN ?_ | refine nB ?_ | refine nYN ?_ | refine nY ?_ | refine nY0 ?_ | refine nVN ?_ | refine nV ?_); (first | omega | (simp; omega))) | rfl)); conv => whnf) | (apply getK_intro; (· rfl); conv => whnf) | (apply eqK_intro; (· (first | (with_reducible first | exact lI _ | exact lS _ | exact lB _ | exact uI | exact uS | exact uIS | exact uSS | exact rIN _ _ | exact rI _ _ | exact tIN | exact tI | exact tBN | exact tB | exact uB | exact rBN _ _ | exact lV _ | exact uV | exact uVS) | rfl)); conv => whnf) | ((first | apply apI | apply apS); (· first | rfl | (simp; done)); (· (first | omega | (simp; omega))); conv => whnf) | (refine fkI (fun hm => ?_) (fun _ v hm => ?_) <;> conv => whnf) | (apply msI; conv => whnf)  | (refine bcase_intro (fun hc => ?_) (fun hc => ?_) <;> conv => whnf))
    exact hQ _ _

theorem dH_take {types : List (List UInt8)} {E : List GE} (i : Nat) (hE : E.length ≤ 60) : 0 ≤ cntH types (E.take i) ∧ cntH types (E.take i) ≤ 60 := by
  have h1 := sumI_bound (l := E.take i) (f := dH types) (c := 1) fun x _ => by unfold dH; split <;> omega
  have : (E.take i).length ≤ E.length := by rw [List.length_take]; omega
  unfold cntH
  omega

theorem mirE {g : GG} (hg : g.ok) (hE : g.edges.length ≤ 60) {types : List (List UInt8)} {tn : Bool} (ht : types.length < 2^63) {o i' lo bo : Int} {c : Nat} {Q : AExit → Env → Sto → Prop}
    (hQ : ∀ c' tl, Q (.exit 4) ([(1, .sl tn (vs .str types)), (5, .int .i64 o), (6, .int .i64 i'), (7, .int .i64 lo), (8, .int .i64 bo), (15, .int .i64 (cntH types g.edges))] ++ tl) ⟨[.arr 0 4 true true [g.av]], c'⟩) :
    Run (findFn tab) (.loop l4_2_h l4_2_b) [(1, .sl tn (vs .str types)), (5, .int .i64 o), (6, .int .i64 i'), (7, .int .i64 lo), (8, .int .i64 bo), (15, .int .i64 0), (102, .sl g.en (vs GE.av g.edges)), (103, .int .i64 g.edges.length), (104, .int .i64 0)] ⟨[.arr 0 4 true true [g.av]], c⟩ Q := by
  refine loop_inv (fun m env s => ∃ (i c : Nat) (k : Int), m = g.edges.length - i ∧ k = cntH types (g.edges.take i) ∧ env = [(1, .sl tn (vs .str types)), (5, .int .i64 o), (6, .int .i64 i'), (7, .int .i64 lo), (8, .int .i64 bo), (15, .int .i64 k), (102, .sl g.en (vs GE.av g.edges)), (103, .int .i64 g.edges.length), (104, .int .i64 i)] ∧ s = ⟨[.arr 0 4 true true [g.av]], c⟩) ?_ _ _ _ ⟨0, c, 0, rfl, rfl, rfl, rfl⟩
  rintro _ _ _ ⟨i, c, k, rfl, hk, rfl, rfl⟩
  refine ⟨rfl, ?_⟩
  have hb := dH_take (types := types) i hE
  rw [← hk] at hb
  by_cases hi : i < g.edges.length
  · have hs : cntH types (g.edges.take (i + 1)) = cntH types (g.edges.take i) + dH types g.edges[i] := sumI_take hi
    (conv => whnf); repeat' (first | (refine callB (hasType1 (e := g.edges[i]) ht) (fun hc => ?_) (fun hc => ?_) <;> conv => whnf) | (refine need.mk ?_ ?_; (· (first | with_reducible rfl | omega | rfl | decide | trivial | exact ⟨rfl, rfl, by omega, by omega⟩ | exact ⟨by omega, by omega, roomy_of (by omega)⟩ | (refine ⟨rfl, rfl, ?_⟩; first | ((first | rw [lI] | rw [lS] | rw [lB] | rw [lV]); omega) | (simp; done) | (simp; omega)) | (refine ⟨rfl, ?_⟩; first | ((first | rw [lI] | rw [lS] | rw [lB] | rw [lV]); omega) | (simp; done) | (simp; omega)) | fail)); conv => whnf) | (refine pcase.mk (fun hc => ?_) (fun hc => ?_) <;> (try rw [List.length_nil] at hc) <;> first | (exfalso; omega) | (exact absurd rfl hc) | conv => whnf) | (apply wrapK_intro; (· exact wrap_i64 (by omega) (by omega)); conv => whnf) | (apply nthK_intro; (· (first | ((with_reducible first | refine nIN ?_ | refine nI ?_ | refine nSN ?_ | refine nS ?_ | refine nBN ?_ | refine nB ?_ | refine nYN ?_ | refine nY ?_ | refine nY0 ?_ | refine nVN ?_ | refine nV ?_); (first | omega | (simp; omega))) | rfl)); conv => whnf) | (apply getK_intro; (· rfl); conv => whnf) | (apply eqK_intro; (· (first | (with_reducible first | exact lI _ | exact lS _ | exact lB _ | exact uI | exact uS | exact uIS | exact uSS | exact rIN _ _ | exact rI _ _ | exact tIN | exact tI | exact tBN | exact tB | exact uB | exact rBN _ _ | exact lV _ | exact uV | exact uVS) | rfl)); conv => whnf) | ((first | apply apI | apply apS); (· first | rfl | (simp; done)); (· (first | omega | (simp; omega))); conv => whnf) | (refine fkI (fun hm => ?_) (fun _ v hm => ?_) <;> conv => whnf) | (apply msI; conv => whnf) | (refine bcase_intro (fun hc => ?_) (fun hc => ?_) <;> conv => whnf))
    · have e : dH types g.edges[i] = 1 := if_pos hc
      exact again.mk ⟨_, by omega, i + 1, _, _, rfl, by rw [hs, e, ← hk], rfl, rfl⟩
    · have e : dH types g.edges[i] = 0 := if_neg hc
      exact again.mk ⟨_, by omega, i + 1, _, _, rfl, by rw [hs, e, ← hk, Int.add_zero], rfl, rfl⟩
  · rw [List.take_of_length_le (by omega)] at hk
    subst hk
    (conv => whnf); repeat' (first | (refine need.mk ?_ ?_; (· (first | with_reducible rfl | omega | rfl | decide | trivial | exact ⟨rfl, rfl, by omega, by omega⟩ | exact ⟨by omega, by omega, roomy_of (by omega)⟩ | (refine ⟨rfl, rfl, ?_⟩; first | ((first | rw [lI] | rw [lS] | rw [lB] | rw [lV]); omega) | (simp; done) | (simp; omega)) | (refine ⟨rfl, ?_⟩; first | ((first | rw [lI] | rw [lS] | rw [lB] | rw [lV]); omega) | (simp; done) | (simp; omega)) | fail)); conv => whnf) | (refine pcase.mk (fun hc => ?_) (fun hc => ?_) <;> (try rw [List.length_nil] at hc) <;> first | (exfalso; omega) | (exact absurd rfl hc) | conv => whnf) | (apply wrapK_intro; (· exact wrap_i64 (by omega) (by omega)); conv => whnf) | (apply nthK_intro; (· (first | ((with_reducible first | refine nIN ?_ | refine nI ?_ | refine nSN ?_ | refine nS ?_ | refine nBN ?_ | refine nB ?_ | refine nYN ?_ | refine nY ?_ | refine nY0 ?_ | refine nVN ?_ | refine nV ?_); (first | omega | (simp; omega))) | rfl)); conv => whnf) | (apply getK_intro; (· rfl); conv => whnf) | (apply eqK_intro; (· (first | (with_reducible first | exact lI _ | exact lS _ | exact lB _ | exact uI | exact uS | exact uIS | exact uSS | exact rIN _ _ | exact rI _ _ | exact tIN | exact tI | exact tBN | exact tB | exact uB | exact rBN _ _ | exact lV _ | exact uV | exact uVS) | rfl)); conv => whnf) | ((first | apply apI | apply apS); (· first | rfl | (simp; done)); (· (first | omega | (simp; omega))); conv => whnf) | (refine fkI (fun hm => ?_) (fun _ v hm => ?_) <;> conv => whnf) | (apply msI; conv => whnf)  | (refine bcase_intro (fun hc => ?_) (fun hc => ?_) <;> conv => whnf))
    exact hQ _ _

end AI
end Go.Proofs.Ytnakgkibjlcjlaa
