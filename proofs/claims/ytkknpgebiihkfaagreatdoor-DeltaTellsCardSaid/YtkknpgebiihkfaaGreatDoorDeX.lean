/- Deletions, nodes, edges and the whole script: the reference. -/
import Derived.Test.YtkknpgebiihkfaaGreatDoorDeR
import Derived.Test.YtkknpgebiihkfaaGreatDoorDE1
import Derived.Test.YtkknpgebiihkfaaGreatDoorDE2
import Derived.Test.YtkknpgebiihkfaaGreatDoorDE4
set_option linter.unusedVariables false
set_option maxRecDepth 4000
namespace Go.Proofs.YtkknpgebiihkfaaGreatDoor
namespace AI

theorem edgeRq {g : GG} (h : PlainG g) {id : Int} : PureP (findFn tab) 45 [g.av, .int .i64 id] (· = edgeR g.edges id) := edgeB (by have := h.en; omega)
theorem nodeRq {g : GG} (h : PlainG g) {id : Int} : PureP (findFn tab) 41 [g.av, .int .i64 id] (· = nodeR g.nodes id) := nodeB (by have := h.nn; omega)
theorem goneRq {g : GG} (h : PlainG g) {e : GE} : PureP (findFn tab) 40 [e.av, g.av] (· = .bool (goneE g.edges e)) := by
  have hq := edgeRq h (id := e.id)
  unfold edgeR at hq
  unfold goneE
  cases hf : g.edges.find? (isE e.id) with
  | none =>
    rw [hf] at hq
    refine pureP_of rfl rfl ?_
    (conv => whnf); repeat' (first | (refine callK_of hq ?_; rintro _ rfl; conv => whnf) | ((with_reducible first | apply kN | apply kW | apply kX | apply kG | apply kQ); (· exact sd); conv => whnf) | (refine pcase.mk ?_ ?_ <;> intro hc <;> (try rw [List.length_nil] at hc) <;> first | (exfalso; omega) | (exact absurd rfl hc) | conv => whnf) | (refine bcase_intro ?_ ?_ <;> intro hc <;> conv => whnf))
    all_goals first | rfl | (trace_state; fail "g1")
  | some y =>
    rw [hf] at hq
    have hm := not_moved (x := e) (y := y)
    show PureP _ _ _ (· = .bool (movedB e y))
    cases hmv : movedB e y
    all_goals
      rw [hmv] at hm
      refine pureP_of rfl rfl ?_
      (conv => whnf); repeat' (first | (refine callK_of hq ?_; rintro _ rfl; conv => whnf) | (refine callK_of hm ?_; rintro _ rfl; conv => whnf) | ((with_reducible first | apply kN | apply kW | apply kX | apply kG | apply kQ); (· exact sd); conv => whnf) | (refine pcase.mk ?_ ?_ <;> intro hc <;> (try rw [List.length_nil] at hc) <;> first | (exfalso; omega) | (exact absurd rfl hc) | conv => whnf) | (refine bcase_intro ?_ ?_ <;> intro hc <;> conv => whnf))
      all_goals first | rfl | (trace_state; fail "g2")

set_option maxHeartbeats 1000000 in
theorem deletedQ {a b : GG} (ha : PlainG a) (hb : PlainG b) : Calls1 (findFn tab) 19 [a.av, b.av] ⟨[], 0⟩ fun out s' => ∃ o g nn, out = .ok (.own o g 0 (vs GC.av (goneL a b)).length) ∧ nth s'.σ o = some (.arr g 10 nn true (vs GC.av (goneL a b))) := by
  have a1 := ha.nn
  have a2 := ha.en
  have b1 := hb.nn
  have b2 := hb.en
  refine calls1_of rfl rfl ?_
  (conv => whnf); repeat' (first  | ((with_reducible first | apply kN | apply kW | apply kX | apply kG | apply kQ); (· exact sd); conv => whnf) | (refine pcase.mk ?_ ?_ <;> intro hc <;> (try rw [List.length_nil] at hc) <;> first | (exfalso; omega) | (exact absurd rfl hc) | conv => whnf) | (refine bcase_intro ?_ ?_ <;> intro hc <;> conv => whnf))
  refine loop_inv (fun z env s => ∃ (i c ga n : Nat) (fa : Bool) (D : List GC), z = a.edges.length - i ∧ i ≤ a.edges.length ∧ D = ((a.edges.take i).filter (goneE b.edges)).map (fun x => mkC 7 x.id []) ∧ n = D.length ∧ D.length ≤ i ∧ env = [(2, .ref 0 0 0 0), (3, .ref 1 1 0 0), (5, .own 2 ga 0 n), (6, .int .i64 i)] ∧ s = ⟨[.arr 0 4 true true [a.av], .arr 1 4 true true [b.av], .arr ga 10 fa true (vs GC.av D)], c⟩) ?_ _ _ _ ⟨0, _, _, _, _, [], rfl, by omega, by simp, rfl, by simp, rfl, rfl⟩
  rintro _ _ _ ⟨i, c, ga, n, fa, D, rfl, hi, hD, hn, hDl, rfl, rfl⟩
  refine ⟨rfl, ?_⟩
  by_cases hlt : i < a.edges.length
  · have hs : ((a.edges.take (i + 1)).filter (goneE b.edges)).map (fun x => mkC 7 x.id []) = ((a.edges.take i).filter (goneE b.edges)).map (fun x => mkC 7 x.id []) ++ if goneE b.edges a.edges[i] = true then [(fun x => mkC 7 x.id []) a.edges[i]] else [] := fmap_step hlt
    have hq := goneRq hb (e := a.edges[i])
    cases hg : goneE b.edges a.edges[i]
    · rw [hg] at hq
      rw [if_neg (by rw [hg]; exact Bool.false_ne_true), List.append_nil] at hs
      rw [← hs] at hD
      (conv => whnf); repeat' (first | (refine callK_of hq ?_; rintro _ rfl; conv => whnf) | ((with_reducible first | apply kN | apply kW | apply kX | apply kG | apply kQ); (· exact sd); conv => whnf) | (refine pcase.mk ?_ ?_ <;> intro hc <;> (try rw [List.length_nil] at hc) <;> first | (exfalso; omega) | (exact absurd rfl hc) | conv => whnf) | (refine bcase_intro ?_ ?_ <;> intro hc <;> conv => whnf))
      all_goals first | exact again.mk ⟨_, by omega, i + 1, _, _, _, _, D, rfl, by omega, hD, hn, by first | omega | (simp only [List.length_append, List.length_singleton]; omega), rfl, rfl⟩ | (exfalso; omega) | (trace_state; fail "ag")
    · rw [hg] at hq
      rw [if_pos hg] at hs
      have hD2 : D ++ [mkC 7 a.edges[i].id []] = ((a.edges.take (i + 1)).filter (goneE b.edges)).map (fun x => mkC 7 x.id []) := by rw [hs, hD]
      (conv => whnf); repeat' (first | (refine callK_of hq ?_; rintro _ rfl; conv => whnf) | (refine apV1 (f := GC.av) (l := D) (x := mkC 7 a.edges[i].id []) cellsC hn (by omega) ?_; conv => whnf) | ((with_reducible first | apply kN | apply kW | apply kX | apply kG | apply kQ); (· exact sd); conv => whnf) | (refine pcase.mk ?_ ?_ <;> intro hc <;> (try rw [List.length_nil] at hc) <;> first | (exfalso; omega) | (exact absurd rfl hc) | conv => whnf) | (refine bcase_intro ?_ ?_ <;> intro hc <;> conv => whnf))
      all_goals first | exact again.mk ⟨_, by omega, i + 1, _, _, _, _, D ++ [mkC 7 a.edges[i].id []], rfl, by omega, hD2, by simp, by first | omega | (simp only [List.length_append, List.length_singleton]; omega), rfl, rfl⟩ | (exfalso; omega) | (trace_state; fail "ag")
  rw [List.take_of_length_le (by omega)] at hD
  have hD1 : D.length ≤ 30 := by omega
  clear hDl
  obtain ⟨E, hE⟩ : ∃ E, E = D := ⟨_, rfl⟩
  subst hE
  have hDE := hD
  clear hD
  (conv => whnf); repeat' (first  | ((with_reducible first | apply kN | apply kW | apply kX | apply kG | apply kQ); (· exact sd); conv => whnf) | (refine pcase.mk ?_ ?_ <;> intro hc <;> (try rw [List.length_nil] at hc) <;> first | (exfalso; omega) | (exact absurd rfl hc) | conv => whnf) | (refine bcase_intro ?_ ?_ <;> intro hc <;> conv => whnf))
  all_goals first | (exfalso; omega) | skip
  refine loop_inv (fun z env s => ∃ (i c ga n : Nat) (fa : Bool) (D : List GC), z = a.nodes.length - i ∧ i ≤ a.nodes.length ∧ D = E ++ ((a.nodes.take i).filter (noNd b.nodes)).map (fun n => mkC 2 n.id []) ∧ n = D.length ∧ D.length ≤ E.length + i ∧ env = [(2, .ref 0 0 0 0), (3, .ref 1 1 0 0), (5, .own 2 ga 0 n), (7, .int .i64 i)] ∧ s = ⟨[.arr 0 4 true true [a.av], .arr 1 4 true true [b.av], .arr ga 10 fa true (vs GC.av D)], c⟩) ?_ _ _ _ ⟨0, _, _, _, _, E, rfl, by omega, by simp, by first | assumption | rfl, by omega, rfl, rfl⟩
  rintro _ _ _ ⟨i, c, ga, n, fa, D, rfl, hi, hD, hn, hDl, rfl, rfl⟩
  refine ⟨rfl, ?_⟩
  by_cases hlt : i < a.nodes.length
  · have hs : ((a.nodes.take (i + 1)).filter (noNd b.nodes)).map (fun n => mkC 2 n.id []) = ((a.nodes.take i).filter (noNd b.nodes)).map (fun n => mkC 2 n.id []) ++ if noNd b.nodes a.nodes[i] = true then [(fun n => mkC 2 n.id []) a.nodes[i]] else [] := fmap_step hlt
    have hq := nodeRq hb (id := a.nodes[i].id)
    unfold nodeR at hq
    cases hf : b.nodes.find? (isN a.nodes[i].id) with
    | none =>
      rw [hf] at hq
      have hg : noNd b.nodes a.nodes[i] = true := by unfold noNd; rw [hf]; rfl
      rw [if_pos hg] at hs
      have hD2 : D ++ [mkC 2 a.nodes[i].id []] = E ++ ((a.nodes.take (i + 1)).filter (noNd b.nodes)).map (fun n => mkC 2 n.id []) := by rw [hs, hD, List.append_assoc]
      (conv => whnf); repeat' (first | (refine callK_of hq ?_; rintro _ rfl; conv => whnf) | (refine apV1 (f := GC.av) (l := D) (x := mkC 2 a.nodes[i].id []) cellsC hn (by omega) ?_; conv => whnf) | ((with_reducible first | apply kN | apply kW | apply kX | apply kG | apply kQ); (· exact sd); conv => whnf) | (refine pcase.mk ?_ ?_ <;> intro hc <;> (try rw [List.length_nil] at hc) <;> first | (exfalso; omega) | (exact absurd rfl hc) | conv => whnf) | (refine bcase_intro ?_ ?_ <;> intro hc <;> conv => whnf))
      all_goals first | exact again.mk ⟨_, by omega, i + 1, _, _, _, _, D ++ [mkC 2 a.nodes[i].id []], rfl, by omega, hD2, by simp, by first | omega | (simp only [List.length_append, List.length_singleton]; omega), rfl, rfl⟩ | (exfalso; omega) | (trace_state; fail "ag")
    | some y =>
      rw [hf] at hq
      have hg : noNd b.nodes a.nodes[i] = false := by unfold noNd; rw [hf]; rfl
      rw [if_neg (by rw [hg]; exact Bool.false_ne_true), List.append_nil] at hs
      rw [← hs] at hD
      (conv => whnf); repeat' (first | (refine callK_of hq ?_; rintro _ rfl; conv => whnf) | ((with_reducible first | apply kN | apply kW | apply kX | apply kG | apply kQ); (· exact sd); conv => whnf) | (refine pcase.mk ?_ ?_ <;> intro hc <;> (try rw [List.length_nil] at hc) <;> first | (exfalso; omega) | (exact absurd rfl hc) | conv => whnf) | (refine bcase_intro ?_ ?_ <;> intro hc <;> conv => whnf))
      all_goals first | exact again.mk ⟨_, by omega, i + 1, _, _, _, _, D, rfl, by omega, hD, hn, by first | omega | (simp only [List.length_append, List.length_singleton]; omega), rfl, rfl⟩ | (exfalso; omega) | (trace_state; fail "ag")
  · rw [List.take_of_length_le (by omega), hDE] at hD
    have hG : D = goneL a b := hD
    subst hn
    rw [← hG]
    (conv => whnf); repeat' (first  | ((with_reducible first | apply kN | apply kW | apply kX | apply kG | apply kQ); (· exact sd); conv => whnf) | (refine pcase.mk ?_ ?_ <;> intro hc <;> (try rw [List.length_nil] at hc) <;> first | (exfalso; omega) | (exact absurd rfl hc) | conv => whnf) | (refine bcase_intro ?_ ?_ <;> intro hc <;> conv => whnf))
    all_goals first | exact ⟨2, _, fa, by rw [lV]; rfl, rfl⟩ | (exfalso; omega) | (trace_state; fail "fin")

set_option maxHeartbeats 1000000 in
theorem nodesRq {a b : GG} (ha : PlainG a) (hb : PlainG b) : PureP (findFn tab) 20 [a.av, b.av] (fun v => ∃ nn, v = .sl nn (vs GC.av (ndsL a b)) ∧ (ndsL a b).length ≤ 2000) := by
  have a1 := ha.nn
  have a2 := ha.en
  have b1 := hb.nn
  have b2 := hb.en
  refine pureP_of rfl rfl ?_
  (conv => whnf); repeat' (first  | ((with_reducible first | apply kN | apply kW | apply kX | apply kG | apply kQ); (· exact sd); conv => whnf) | (refine pcase.mk ?_ ?_ <;> intro hc <;> (try rw [List.length_nil] at hc) <;> first | (exfalso; omega) | (exact absurd rfl hc) | conv => whnf) | (refine bcase_intro ?_ ?_ <;> intro hc <;> conv => whnf))
  refine loop_inv (fun z env s => ∃ (i c ga n : Nat) (fa : Bool) (D : List GC), z = b.nodes.length - i ∧ i ≤ b.nodes.length ∧ D = ((b.nodes.take i).filter (noNd a.nodes)).map (fun n => mkC 1 n.id []) ∧ n = D.length ∧ D.length ≤ i ∧ env = [(2, .ref 0 0 0 0), (3, .ref 1 1 0 0), (5, .own 2 ga 0 n), (6, .int .i64 i)] ∧ s = ⟨[.arr 0 4 true true [a.av], .arr 1 4 true true [b.av], .arr ga 10 fa true (vs GC.av D)], c⟩) ?_ _ _ _ ⟨0, _, _, _, _, [], rfl, by omega, by simp, rfl, by simp, rfl, rfl⟩
  rintro _ _ _ ⟨i, c, ga, n, fa, D, rfl, hi, hD, hn, hDl, rfl, rfl⟩
  refine ⟨rfl, ?_⟩
  by_cases hlt : i < b.nodes.length
  · have hs : ((b.nodes.take (i + 1)).filter (noNd a.nodes)).map (fun n => mkC 1 n.id []) = ((b.nodes.take i).filter (noNd a.nodes)).map (fun n => mkC 1 n.id []) ++ if noNd a.nodes b.nodes[i] = true then [(fun n => mkC 1 n.id []) b.nodes[i]] else [] := fmap_step hlt
    have hq := nodeRq ha (id := b.nodes[i].id)
    unfold nodeR at hq
    cases hf : a.nodes.find? (isN b.nodes[i].id) with
    | none =>
      rw [hf] at hq
      have hg : noNd a.nodes b.nodes[i] = true := by unfold noNd; rw [hf]; rfl
      rw [if_pos hg] at hs
      have hD2 : D ++ [mkC 1 b.nodes[i].id []] = ((b.nodes.take (i + 1)).filter (noNd a.nodes)).map (fun n => mkC 1 n.id []) := by rw [hs, hD]
      (conv => whnf); repeat' (first | (refine callK_of hq ?_; rintro _ rfl; conv => whnf) | (refine apV1 (f := GC.av) (l := D) (x := mkC 1 b.nodes[i].id []) cellsC hn (by omega) ?_; conv => whnf) | ((with_reducible first | apply kN | apply kW | apply kX | apply kG | apply kQ); (· exact sd); conv => whnf) | (refine pcase.mk ?_ ?_ <;> intro hc <;> (try rw [List.length_nil] at hc) <;> first | (exfalso; omega) | (exact absurd rfl hc) | conv => whnf) | (refine bcase_intro ?_ ?_ <;> intro hc <;> conv => whnf))
      all_goals first | exact again.mk ⟨_, by omega, i + 1, _, _, _, _, D ++ [mkC 1 b.nodes[i].id []], rfl, by omega, hD2, by simp, by first | omega | (simp only [List.length_append, List.length_singleton]; omega), rfl, rfl⟩ | (exfalso; omega) | (trace_state; fail "ag")
    | some y =>
      rw [hf] at hq
      have hg : noNd a.nodes b.nodes[i] = false := by unfold noNd; rw [hf]; rfl
      rw [if_neg (by rw [hg]; exact Bool.false_ne_true), List.append_nil] at hs
      rw [← hs] at hD
      (conv => whnf); repeat' (first | (refine callK_of hq ?_; rintro _ rfl; conv => whnf) | ((with_reducible first | apply kN | apply kW | apply kX | apply kG | apply kQ); (· exact sd); conv => whnf) | (refine pcase.mk ?_ ?_ <;> intro hc <;> (try rw [List.length_nil] at hc) <;> first | (exfalso; omega) | (exact absurd rfl hc) | conv => whnf) | (refine bcase_intro ?_ ?_ <;> intro hc <;> conv => whnf))
      all_goals first | exact again.mk ⟨_, by omega, i + 1, _, _, _, _, D, rfl, by omega, hD, hn, by first | omega | (simp only [List.length_append, List.length_singleton]; omega), rfl, rfl⟩ | (exfalso; omega) | (trace_state; fail "ag")
  rw [List.take_of_length_le (by omega)] at hD
  have hD1 : D.length ≤ 24 := by omega
  clear hDl
  obtain ⟨E, hE⟩ : ∃ E, E = D := ⟨_, rfl⟩
  subst hE
  have hDE := hD
  clear hD
  (conv => whnf); repeat' (first  | ((with_reducible first | apply kN | apply kW | apply kX | apply kG | apply kQ); (· exact sd); conv => whnf) | (refine pcase.mk ?_ ?_ <;> intro hc <;> (try rw [List.length_nil] at hc) <;> first | (exfalso; omega) | (exact absurd rfl hc) | conv => whnf) | (refine bcase_intro ?_ ?_ <;> intro hc <;> conv => whnf))
  all_goals first | (exfalso; omega) | skip
  refine loop_inv (fun z env s => ∃ (i c ga n : Nat) (fa : Bool) (D : List GC), z = b.nodes.length - i ∧ i ≤ b.nodes.length ∧ D = E ++ (b.nodes.take i).flatMap (nodeL a.nodes) ∧ n = D.length ∧ D.length ≤ E.length + 60 * i ∧ env = [(2, .ref 0 0 0 0), (3, .ref 1 1 0 0), (5, .own 2 ga 0 n), (9, .int .i64 i)] ∧ s = ⟨[.arr 0 4 true true [a.av], .arr 1 4 true true [b.av], .arr ga 10 fa true (vs GC.av D)], c⟩) ?_ _ _ _ ⟨0, _, _, _, _, E, rfl, by omega, by simp, by first | assumption | rfl, by omega, rfl, rfl⟩
  rintro _ _ _ ⟨i, c, ga, n, fa, D, rfl, hi, hD, hn, hDl, rfl, rfl⟩
  refine ⟨rfl, ?_⟩
  by_cases hlt : i < b.nodes.length
  · have hs : (b.nodes.take (i + 1)).flatMap (nodeL a.nodes) = (b.nodes.take i).flatMap (nodeL a.nodes) ++ nodeL a.nodes b.nodes[i] := flm_step hlt
    obtain ⟨t, ht⟩ := nodeW a.nodes b.nodes[i]
    have hq := nodeRq ha (id := b.nodes[i].id)
    have hw := wasN_good ha b.nodes[i]
    have hL : nodeL a.nodes b.nodes[i] = namesL 4 b.nodes[i].id (wasN a.nodes b.nodes[i]).labels b.nodes[i].labels ++ (namesL 5 b.nodes[i].id (keysOf (wasN a.nodes b.nodes[i]).props) (keysOf b.nodes[i].props) ++ (namesL 3 b.nodes[i].id b.nodes[i].labels (wasN a.nodes b.nodes[i]).labels ++ valuesL 5 b.nodes[i].id (wasN a.nodes b.nodes[i]).props b.nodes[i].props)) := rfl
    rw [ht] at hq
    clear ht
    generalize wasN a.nodes b.nodes[i] = W at hq hw hL
    obtain ⟨w1, w2, w3⟩ := hw
    obtain ⟨_, m1, m2, m3, m4⟩ := hb.nodes _ (List.getElem_mem hlt)
    have q1 := keysOf_len W.props
    have l1 := namesL_len (op := 4) (id := b.nodes[i].id) (l := W.labels) (m := b.nodes[i].labels)
    have l2 := namesL_len (op := 5) (id := b.nodes[i].id) (l := keysOf W.props) (m := keysOf b.nodes[i].props)
    have l3 := namesL_len (op := 3) (id := b.nodes[i].id) (l := b.nodes[i].labels) (m := W.labels)
    have l4 := valuesL_len (op := 5) (id := b.nodes[i].id) (a := W.props) (b := b.nodes[i].props)
    have c1 := labelsQ (op := 4) (id := b.nodes[i].id) (l := W.labels) (m := b.nodes[i].labels) (nl := W.ln) (nm := b.nodes[i].ln) (by omega) (by omega)
    have c2 := removedQ (op := 5) (id := b.nodes[i].id) (l := W.props) (m := b.nodes[i].props) (nl := W.pn) (nm := b.nodes[i].pn) (by omega) (by omega)
    have c3 := labelsQ (op := 3) (id := b.nodes[i].id) (l := b.nodes[i].labels) (m := W.labels) (nl := b.nodes[i].ln) (nm := W.ln) (by omega) (by omega)
    have c4 := assignedQ (op := 5) (id := b.nodes[i].id) (l := W.props) (m := b.nodes[i].props) (nl := W.pn) (nm := b.nodes[i].pn) w3 m3 m4
    have hD2 : ((((D ++ namesL 4 b.nodes[i].id W.labels b.nodes[i].labels) ++ namesL 5 b.nodes[i].id (keysOf W.props) (keysOf b.nodes[i].props)) ++ namesL 3 b.nodes[i].id b.nodes[i].labels W.labels) ++ valuesL 5 b.nodes[i].id W.props b.nodes[i].props) = E ++ (b.nodes.take (i + 1)).flatMap (nodeL a.nodes) := by rw [hs, hL, hD]; simp only [List.append_assoc]
    cases t
    all_goals
      (conv => whnf); repeat' (first | (refine callK_of hq ?_; rintro _ rfl; conv => whnf) | (refine callK_of c1 ?_; rintro _ ⟨nc1, rfl⟩; conv => whnf) | (refine callK_of c2 ?_; rintro _ ⟨nc2, rfl⟩; conv => whnf) | (refine callK_of c3 ?_; rintro _ ⟨nc3, rfl⟩; conv => whnf) | (refine callK_of c4 ?_; rintro _ ⟨nc4, rfl⟩; conv => whnf) | (refine apVm (f := GC.av) (l := D) (l' := namesL 4 b.nodes[i].id W.labels b.nodes[i].labels) rfl cellsC hn (by first | omega | (simp only [List.length_append]; omega)) (fun bb => ?_); conv => whnf) | (refine apVm (f := GC.av) (l := (D ++ namesL 4 b.nodes[i].id W.labels b.nodes[i].labels)) (l' := namesL 5 b.nodes[i].id (keysOf W.props) (keysOf b.nodes[i].props)) rfl cellsC (by simp only [List.length_append]) (by first | omega | (simp only [List.length_append]; omega)) (fun bb => ?_); conv => whnf) | (refine apVm (f := GC.av) (l := ((D ++ namesL 4 b.nodes[i].id W.labels b.nodes[i].labels) ++ namesL 5 b.nodes[i].id (keysOf W.props) (keysOf b.nodes[i].props))) (l' := namesL 3 b.nodes[i].id b.nodes[i].labels W.labels) rfl cellsC (by simp only [List.length_append]) (by first | omega | (simp only [List.length_append]; omega)) (fun bb => ?_); conv => whnf) | (refine apVm (f := GC.av) (l := (((D ++ namesL 4 b.nodes[i].id W.labels b.nodes[i].labels) ++ namesL 5 b.nodes[i].id (keysOf W.props) (keysOf b.nodes[i].props)) ++ namesL 3 b.nodes[i].id b.nodes[i].labels W.labels)) (l' := valuesL 5 b.nodes[i].id W.props b.nodes[i].props) rfl cellsC (by simp only [List.length_append]) (by first | omega | (simp only [List.length_append]; omega)) (fun bb => ?_); conv => whnf) | ((with_reducible first | apply kN | apply kW | apply kX | apply kG | apply kQ); (· exact sd); conv => whnf) | (refine pcase.mk ?_ ?_ <;> intro hc <;> (try rw [List.length_nil] at hc) <;> first | (exfalso; omega) | (exact absurd rfl hc) | conv => whnf) | (refine bcase_intro ?_ ?_ <;> intro hc <;> conv => whnf))
      all_goals first | exact again.mk ⟨_, by omega, i + 1, _, _, _, _, ((((D ++ namesL 4 b.nodes[i].id W.labels b.nodes[i].labels) ++ namesL 5 b.nodes[i].id (keysOf W.props) (keysOf b.nodes[i].props)) ++ namesL 3 b.nodes[i].id b.nodes[i].labels W.labels) ++ valuesL 5 b.nodes[i].id W.props b.nodes[i].props), rfl, by omega, hD2, by simp only [List.length_append], by simp only [List.length_append]; omega, rfl, rfl⟩ | (exfalso; omega) | (trace_state; fail "nodesR")
  · rw [List.take_of_length_le (by omega), hDE] at hD
    have hG : D = ndsL a b := hD
    subst hn
    rw [← hG]
    (conv => whnf); repeat' (first  | ((with_reducible first | apply kN | apply kW | apply kX | apply kG | apply kQ); (· exact sd); conv => whnf) | (refine pcase.mk ?_ ?_ <;> intro hc <;> (try rw [List.length_nil] at hc) <;> first | (exfalso; omega) | (exact absurd rfl hc) | conv => whnf) | (refine bcase_intro ?_ ?_ <;> intro hc <;> conv => whnf))
    all_goals first | exact ⟨fa, rfl, by omega⟩ | (exfalso; omega) | (trace_state; fail "fin")

set_option maxHeartbeats 1000000 in
theorem edgesRq {a b : GG} (ha : PlainG a) (hb : PlainG b) : PureP (findFn tab) 21 [a.av, b.av] (fun v => ∃ nn, v = .sl nn (vs GC.av (edsL a b)) ∧ (edsL a b).length ≤ 4000) := by
  have a1 := ha.nn
  have a2 := ha.en
  have b1 := hb.nn
  have b2 := hb.en
  refine pureP_of rfl rfl ?_
  (conv => whnf); repeat' (first  | ((with_reducible first | apply kN | apply kW | apply kX | apply kG | apply kQ); (· exact sd); conv => whnf) | (refine pcase.mk ?_ ?_ <;> intro hc <;> (try rw [List.length_nil] at hc) <;> first | (exfalso; omega) | (exact absurd rfl hc) | conv => whnf) | (refine bcase_intro ?_ ?_ <;> intro hc <;> conv => whnf))
  refine loop_inv (fun z env s => ∃ (i c ga n : Nat) (fa : Bool) (D : List GC), z = b.edges.length - i ∧ i ≤ b.edges.length ∧ D = ((b.edges.take i).filter (goneE a.edges)).map newE ∧ n = D.length ∧ D.length ≤ i ∧ env = [(2, .ref 0 0 0 0), (3, .ref 1 1 0 0), (5, .own 2 ga 0 n), (6, .int .i64 i)] ∧ s = ⟨[.arr 0 4 true true [a.av], .arr 1 4 true true [b.av], .arr ga 10 fa true (vs GC.av D)], c⟩) ?_ _ _ _ ⟨0, _, _, _, _, [], rfl, by omega, by simp, rfl, by simp, rfl, rfl⟩
  rintro _ _ _ ⟨i, c, ga, n, fa, D, rfl, hi, hD, hn, hDl, rfl, rfl⟩
  refine ⟨rfl, ?_⟩
  by_cases hlt : i < b.edges.length
  · have hs : ((b.edges.take (i + 1)).filter (goneE a.edges)).map newE = ((b.edges.take i).filter (goneE a.edges)).map newE ++ if goneE a.edges b.edges[i] = true then [newE b.edges[i]] else [] := fmap_step hlt
    have hq := goneRq ha (e := b.edges[i])
    cases hg : goneE a.edges b.edges[i]
    · rw [hg] at hq
      rw [if_neg (by rw [hg]; exact Bool.false_ne_true), List.append_nil] at hs
      rw [← hs] at hD
      (conv => whnf); repeat' (first | (refine callK_of hq ?_; rintro _ rfl; conv => whnf) | ((with_reducible first | apply kN | apply kW | apply kX | apply kG | apply kQ); (· exact sd); conv => whnf) | (refine pcase.mk ?_ ?_ <;> intro hc <;> (try rw [List.length_nil] at hc) <;> first | (exfalso; omega) | (exact absurd rfl hc) | conv => whnf) | (refine bcase_intro ?_ ?_ <;> intro hc <;> conv => whnf))
      all_goals first | exact again.mk ⟨_, by omega, i + 1, _, _, _, _, D, rfl, by omega, hD, hn, by first | omega | (simp only [List.length_append, List.length_singleton]; omega), rfl, rfl⟩ | (exfalso; omega) | (trace_state; fail "ag")
    · rw [hg] at hq
      rw [if_pos hg] at hs
      have hD2 : D ++ [newE b.edges[i]] = ((b.edges.take (i + 1)).filter (goneE a.edges)).map newE := by rw [hs, hD]
      (conv => whnf); repeat' (first | (refine callK_of hq ?_; rintro _ rfl; conv => whnf) | (refine apV1 (f := GC.av) (l := D) (x := newE b.edges[i]) cellsC hn (by omega) ?_; conv => whnf) | ((with_reducible first | apply kN | apply kW | apply kX | apply kG | apply kQ); (· exact sd); conv => whnf) | (refine pcase.mk ?_ ?_ <;> intro hc <;> (try rw [List.length_nil] at hc) <;> first | (exfalso; omega) | (exact absurd rfl hc) | conv => whnf) | (refine bcase_intro ?_ ?_ <;> intro hc <;> conv => whnf))
      all_goals first | exact again.mk ⟨_, by omega, i + 1, _, _, _, _, D ++ [newE b.edges[i]], rfl, by omega, hD2, by simp, by first | omega | (simp only [List.length_append, List.length_singleton]; omega), rfl, rfl⟩ | (exfalso; omega) | (trace_state; fail "ag")
  rw [List.take_of_length_le (by omega)] at hD
  have hD1 : D.length ≤ 30 := by omega
  clear hDl
  obtain ⟨E, hE⟩ : ∃ E, E = D := ⟨_, rfl⟩
  subst hE
  have hDE := hD
  clear hD
  (conv => whnf); repeat' (first  | ((with_reducible first | apply kN | apply kW | apply kX | apply kG | apply kQ); (· exact sd); conv => whnf) | (refine pcase.mk ?_ ?_ <;> intro hc <;> (try rw [List.length_nil] at hc) <;> first | (exfalso; omega) | (exact absurd rfl hc) | conv => whnf) | (refine bcase_intro ?_ ?_ <;> intro hc <;> conv => whnf))
  all_goals first | (exfalso; omega) | skip
  refine loop_inv (fun z env s => ∃ (i c ga n : Nat) (fa : Bool) (D : List GC), z = b.edges.length - i ∧ i ≤ b.edges.length ∧ D = E ++ (b.edges.take i).flatMap (edgeL a.edges) ∧ n = D.length ∧ D.length ≤ E.length + 60 * i ∧ env = [(2, .ref 0 0 0 0), (3, .ref 1 1 0 0), (5, .own 2 ga 0 n), (8, .int .i64 i)] ∧ s = ⟨[.arr 0 4 true true [a.av], .arr 1 4 true true [b.av], .arr ga 10 fa true (vs GC.av D)], c⟩) ?_ _ _ _ ⟨0, _, _, _, _, E, rfl, by omega, by simp, by first | assumption | rfl, by omega, rfl, rfl⟩
  rintro _ _ _ ⟨i, c, ga, n, fa, D, rfl, hi, hD, hn, hDl, rfl, rfl⟩
  refine ⟨rfl, ?_⟩
  by_cases hlt : i < b.edges.length
  · have hs : (b.edges.take (i + 1)).flatMap (edgeL a.edges) = (b.edges.take i).flatMap (edgeL a.edges) ++ edgeL a.edges b.edges[i] := flm_step hlt
    have hq := edgeRq ha (id := b.edges[i].id)
    have hg := goneRq ha (e := b.edges[i])
    unfold edgeR at hq
    unfold goneE at hg
    obtain ⟨_, m2, m3, m4⟩ := hb.edges _ (List.getElem_mem hlt)
    cases hf : a.edges.find? (isE b.edges[i].id) with
    | none =>
      rw [hf] at hq hg
      have hwp := wasP_n hf
      have hw : GoodP ([] : List GP) := ⟨by decide, fun p hp => by cases hp⟩
      have hL : edgeL a.edges b.edges[i] = namesL 8 b.edges[i].id (keysOf ([] : List GP)) (keysOf b.edges[i].props) ++ valuesL 8 b.edges[i].id ([] : List GP) b.edges[i].props := by unfold edgeL; rw [hwp]
      have hlp : ([] : List GP).length ≤ 16 := by first | decide | exact hw16
      have q1 := keysOf_len ([] : List GP)
      have l1 := namesL_len (op := 8) (id := b.edges[i].id) (l := keysOf ([] : List GP)) (m := keysOf b.edges[i].props)
      have l4 := valuesL_len (op := 8) (id := b.edges[i].id) (a := ([] : List GP)) (b := b.edges[i].props)
      have c1 := removedQ (op := 8) (id := b.edges[i].id) (l := ([] : List GP)) (m := b.edges[i].props) (nl := false) (nm := b.edges[i].pn) (by omega) (by omega)
      have c4 := assignedQ (op := 8) (id := b.edges[i].id) (l := ([] : List GP)) (m := b.edges[i].props) (nl := false) (nm := b.edges[i].pn) hw m3 m4
      have hD2 : ((D ++ namesL 8 b.edges[i].id (keysOf ([] : List GP)) (keysOf b.edges[i].props)) ++ valuesL 8 b.edges[i].id ([] : List GP) b.edges[i].props) = E ++ (b.edges.take (i + 1)).flatMap (edgeL a.edges) := by rw [hs, hL, hD]; simp only [List.append_assoc]
      (conv => whnf); repeat' (first | (refine callK_of hg ?_; rintro _ rfl; conv => whnf) | (refine callK_of hq ?_; rintro _ rfl; conv => whnf) | (refine callK_of c1 ?_; rintro _ ⟨n1, rfl⟩; conv => whnf) | (refine callK_of c4 ?_; rintro _ ⟨n4, rfl⟩; conv => whnf) | (refine apVm (f := GC.av) (l := D) (l' := namesL 8 b.edges[i].id (keysOf ([] : List GP)) (keysOf b.edges[i].props)) rfl cellsC hn (by first | omega | (simp only [List.length_append]; omega)) (fun bb => ?_); conv => whnf) | (refine apVm (f := GC.av) (l := (D ++ namesL 8 b.edges[i].id (keysOf ([] : List GP)) (keysOf b.edges[i].props))) (l' := valuesL 8 b.edges[i].id ([] : List GP) b.edges[i].props) rfl cellsC (by simp only [List.length_append]) (by first | omega | (simp only [List.length_append]; omega)) (fun bb => ?_); conv => whnf) | ((with_reducible first | apply kN | apply kW | apply kX | apply kG | apply kQ); (· exact sd); conv => whnf) | (refine pcase.mk ?_ ?_ <;> intro hc <;> (try rw [List.length_nil] at hc) <;> first | (exfalso; omega) | (exact absurd rfl hc) | conv => whnf) | (refine bcase_intro ?_ ?_ <;> intro hc <;> conv => whnf))
      all_goals first | exact again.mk ⟨_, by omega, i + 1, _, _, _, _, ((D ++ namesL 8 b.edges[i].id (keysOf ([] : List GP)) (keysOf b.edges[i].props)) ++ valuesL 8 b.edges[i].id ([] : List GP) b.edges[i].props), rfl, by omega, hD2, by simp only [List.length_append], by simp only [List.length_append]; omega, rfl, rfl⟩ | (exfalso; omega) | (trace_state; fail "edgesR")
    | some y =>
      rw [hf] at hq hg
      have hy := ha.edges _ (List.mem_of_find?_eq_some hf)
      dsimp only at hg
      cases hmv : movedB b.edges[i] y
      · rw [hmv] at hg
        have hwp := wasP_s hf hmv
        have hw16 := hy.2.1
        have hw := hy.2.2.1
        have hL : edgeL a.edges b.edges[i] = namesL 8 b.edges[i].id (keysOf y.props) (keysOf b.edges[i].props) ++ valuesL 8 b.edges[i].id y.props b.edges[i].props := by unfold edgeL; rw [hwp]
        have hlp : y.props.length ≤ 16 := by first | decide | exact hw16
        have q1 := keysOf_len y.props
        have l1 := namesL_len (op := 8) (id := b.edges[i].id) (l := keysOf y.props) (m := keysOf b.edges[i].props)
        have l4 := valuesL_len (op := 8) (id := b.edges[i].id) (a := y.props) (b := b.edges[i].props)
        have c1 := removedQ (op := 8) (id := b.edges[i].id) (l := y.props) (m := b.edges[i].props) (nl := y.pn) (nm := b.edges[i].pn) (by omega) (by omega)
        have c4 := assignedQ (op := 8) (id := b.edges[i].id) (l := y.props) (m := b.edges[i].props) (nl := y.pn) (nm := b.edges[i].pn) hw m3 m4
        have hD2 : ((D ++ namesL 8 b.edges[i].id (keysOf y.props) (keysOf b.edges[i].props)) ++ valuesL 8 b.edges[i].id y.props b.edges[i].props) = E ++ (b.edges.take (i + 1)).flatMap (edgeL a.edges) := by rw [hs, hL, hD]; simp only [List.append_assoc]
        (conv => whnf); repeat' (first | (refine callK_of hg ?_; rintro _ rfl; conv => whnf) | (refine callK_of hq ?_; rintro _ rfl; conv => whnf) | (refine callK_of c1 ?_; rintro _ ⟨n1, rfl⟩; conv => whnf) | (refine callK_of c4 ?_; rintro _ ⟨n4, rfl⟩; conv => whnf) | (refine apVm (f := GC.av) (l := D) (l' := namesL 8 b.edges[i].id (keysOf y.props) (keysOf b.edges[i].props)) rfl cellsC hn (by first | omega | (simp only [List.length_append]; omega)) (fun bb => ?_); conv => whnf) | (refine apVm (f := GC.av) (l := (D ++ namesL 8 b.edges[i].id (keysOf y.props) (keysOf b.edges[i].props))) (l' := valuesL 8 b.edges[i].id y.props b.edges[i].props) rfl cellsC (by simp only [List.length_append]) (by first | omega | (simp only [List.length_append]; omega)) (fun bb => ?_); conv => whnf) | ((with_reducible first | apply kN | apply kW | apply kX | apply kG | apply kQ); (· exact sd); conv => whnf) | (refine pcase.mk ?_ ?_ <;> intro hc <;> (try rw [List.length_nil] at hc) <;> first | (exfalso; omega) | (exact absurd rfl hc) | conv => whnf) | (refine bcase_intro ?_ ?_ <;> intro hc <;> conv => whnf))
        all_goals first | exact again.mk ⟨_, by omega, i + 1, _, _, _, _, ((D ++ namesL 8 b.edges[i].id (keysOf y.props) (keysOf b.edges[i].props)) ++ valuesL 8 b.edges[i].id y.props b.edges[i].props), rfl, by omega, hD2, by simp only [List.length_append], by simp only [List.length_append]; omega, rfl, rfl⟩ | (exfalso; omega) | (trace_state; fail "edgesR")
      · rw [hmv] at hg
        have hwp := wasP_m hf hmv
        have hw : GoodP ([] : List GP) := ⟨by decide, fun p hp => by cases hp⟩
        have hL : edgeL a.edges b.edges[i] = namesL 8 b.edges[i].id (keysOf ([] : List GP)) (keysOf b.edges[i].props) ++ valuesL 8 b.edges[i].id ([] : List GP) b.edges[i].props := by unfold edgeL; rw [hwp]
        have hlp : ([] : List GP).length ≤ 16 := by first | decide | exact hw16
        have q1 := keysOf_len ([] : List GP)
        have l1 := namesL_len (op := 8) (id := b.edges[i].id) (l := keysOf ([] : List GP)) (m := keysOf b.edges[i].props)
        have l4 := valuesL_len (op := 8) (id := b.edges[i].id) (a := ([] : List GP)) (b := b.edges[i].props)
        have c1 := removedQ (op := 8) (id := b.edges[i].id) (l := ([] : List GP)) (m := b.edges[i].props) (nl := false) (nm := b.edges[i].pn) (by omega) (by omega)
        have c4 := assignedQ (op := 8) (id := b.edges[i].id) (l := ([] : List GP)) (m := b.edges[i].props) (nl := false) (nm := b.edges[i].pn) hw m3 m4
        have hD2 : ((D ++ namesL 8 b.edges[i].id (keysOf ([] : List GP)) (keysOf b.edges[i].props)) ++ valuesL 8 b.edges[i].id ([] : List GP) b.edges[i].props) = E ++ (b.edges.take (i + 1)).flatMap (edgeL a.edges) := by rw [hs, hL, hD]; simp only [List.append_assoc]
        (conv => whnf); repeat' (first | (refine callK_of hg ?_; rintro _ rfl; conv => whnf) | (refine callK_of hq ?_; rintro _ rfl; conv => whnf) | (refine callK_of c1 ?_; rintro _ ⟨n1, rfl⟩; conv => whnf) | (refine callK_of c4 ?_; rintro _ ⟨n4, rfl⟩; conv => whnf) | (refine apVm (f := GC.av) (l := D) (l' := namesL 8 b.edges[i].id (keysOf ([] : List GP)) (keysOf b.edges[i].props)) rfl cellsC hn (by first | omega | (simp only [List.length_append]; omega)) (fun bb => ?_); conv => whnf) | (refine apVm (f := GC.av) (l := (D ++ namesL 8 b.edges[i].id (keysOf ([] : List GP)) (keysOf b.edges[i].props))) (l' := valuesL 8 b.edges[i].id ([] : List GP) b.edges[i].props) rfl cellsC (by simp only [List.length_append]) (by first | omega | (simp only [List.length_append]; omega)) (fun bb => ?_); conv => whnf) | ((with_reducible first | apply kN | apply kW | apply kX | apply kG | apply kQ); (· exact sd); conv => whnf) | (refine pcase.mk ?_ ?_ <;> intro hc <;> (try rw [List.length_nil] at hc) <;> first | (exfalso; omega) | (exact absurd rfl hc) | conv => whnf) | (refine bcase_intro ?_ ?_ <;> intro hc <;> conv => whnf))
        all_goals first | exact again.mk ⟨_, by omega, i + 1, _, _, _, _, ((D ++ namesL 8 b.edges[i].id (keysOf ([] : List GP)) (keysOf b.edges[i].props)) ++ valuesL 8 b.edges[i].id ([] : List GP) b.edges[i].props), rfl, by omega, hD2, by simp only [List.length_append], by simp only [List.length_append]; omega, rfl, rfl⟩ | (exfalso; omega) | (trace_state; fail "edgesR")
  · rw [List.take_of_length_le (by omega), hDE] at hD
    have hG : D = edsL a b := hD
    subst hn
    rw [← hG]
    (conv => whnf); repeat' (first  | ((with_reducible first | apply kN | apply kW | apply kX | apply kG | apply kQ); (· exact sd); conv => whnf) | (refine pcase.mk ?_ ?_ <;> intro hc <;> (try rw [List.length_nil] at hc) <;> first | (exfalso; omega) | (exact absurd rfl hc) | conv => whnf) | (refine bcase_intro ?_ ?_ <;> intro hc <;> conv => whnf))
    all_goals first | exact ⟨fa, rfl, by omega⟩ | (exfalso; omega) | (trace_state; fail "fin")

theorem goneL_len {a b : GG} (pa : PlainG a) : (goneL a b).length ≤ 60 := by
  have x1 := pa.nn
  have x2 := pa.en
  have y1 := List.length_filter_le (goneE b.edges) a.edges
  have y2 := List.length_filter_le (noNd b.nodes) a.nodes
  unfold goneL
  rw [List.length_append, List.length_map, List.length_map]
  omega
set_option maxHeartbeats 1000000 in
theorem ofR {a b : GG} (ha : a.ok) (hb : b.ok) (sa : SmG a 24 30) (sb : SmG b 24 30) : PureP (findFn tab) 7 [a.av, b.av] (OfV a b) := by
  have hca := checkR ha
  have hcb := checkR hb
  by_cases h1 : checkE a = 0
  · rw [h1] at hca
    have pa := plain_of ha sa h1
    by_cases h2 : checkE b = 0
    · rw [h2] at hcb
      have pb := plain_of hb sb h2
      have g1 := goneL_len (b := b) pa
      have c1 := deletedQ pa pb
      have c2 := nodesRq pa pb
      have c3 := edgesRq pa pb
      obtain ⟨_, ⟨_, _, g2⟩, _⟩ := c2.det
      obtain ⟨_, ⟨_, _, g3⟩, _⟩ := c3.det
      have hS : goneL a b ++ ndsL a b ++ edsL a b = scriptL a b := List.append_assoc ..
      refine pureP_of rfl rfl ?_
      (conv => whnf); repeat' (first | (refine callK_of hca ?_; rintro _ rfl; conv => whnf) | (refine callK_of hcb ?_; rintro _ rfl; conv => whnf) | ((with_reducible first | apply kN | apply kW | apply kX | apply kG | apply kQ); (· exact sd); conv => whnf) | (refine pcase.mk ?_ ?_ <;> intro hc <;> (try rw [List.length_nil] at hc) <;> first | (exfalso; omega) | (exact absurd rfl hc) | conv => whnf) | (refine bcase_intro ?_ ?_ <;> intro hc <;> conv => whnf))
      refine ownKe rfl c1 (fun n1 => ?_)
      rw [lV]
      (conv => whnf); repeat' (first | (refine callK_of c2 ?_; rintro _ ⟨n2, rfl, _⟩; conv => whnf) | (refine callK_of c3 ?_; rintro _ ⟨n3, rfl, _⟩; conv => whnf) | (refine apVm (f := GC.av) (l := goneL a b) (l' := ndsL a b) rfl cellsC (by first | rfl | omega | simp) (by omega) (fun bb => ?_); conv => whnf) | (refine apVm (f := GC.av) (l := goneL a b ++ ndsL a b) (l' := edsL a b) rfl cellsC (by simp only [List.length_append]) (by simp only [List.length_append]; omega) (fun bb => ?_); conv => whnf) | ((with_reducible first | apply kN | apply kW | apply kX | apply kG | apply kQ); (· exact sd); conv => whnf) | (refine pcase.mk ?_ ?_ <;> intro hc <;> (try rw [List.length_nil] at hc) <;> first | (exfalso; omega) | (exact absurd rfl hc) | conv => whnf) | (refine bcase_intro ?_ ?_ <;> intro hc <;> conv => whnf))
      all_goals first | (rw [sub_vs, List.drop_zero, List.take_of_length_le (by simp only [List.length_append]; omega), hS]; exact ofV_s h1 h2) | (trace_state; fail "of")
    · refine pureP_of rfl rfl ?_
      (conv => whnf); repeat' (first | (refine callK_of hca ?_; rintro _ rfl; conv => whnf) | (refine callK_of hcb ?_; rintro _ rfl; conv => whnf) | ((with_reducible first | apply kN | apply kW | apply kX | apply kG | apply kQ); (· exact sd); conv => whnf) | (refine pcase.mk ?_ ?_ <;> intro hc <;> (try rw [List.length_nil] at hc) <;> first | (exfalso; omega) | (exact absurd rfl hc) | conv => whnf) | (refine bcase_intro ?_ ?_ <;> intro hc <;> conv => whnf))
      all_goals first | exact ofV_b h1 h2 | (exfalso; omega) | exact absurd (by assumption) h2 | (trace_state; fail "of2")
  · refine pureP_of rfl rfl ?_
    (conv => whnf); repeat' (first | (refine callK_of hca ?_; rintro _ rfl; conv => whnf) | (refine callK_of hcb ?_; rintro _ rfl; conv => whnf) | ((with_reducible first | apply kN | apply kW | apply kX | apply kG | apply kQ); (· exact sd); conv => whnf) | (refine pcase.mk ?_ ?_ <;> intro hc <;> (try rw [List.length_nil] at hc) <;> first | (exfalso; omega) | (exact absurd rfl hc) | conv => whnf) | (refine bcase_intro ?_ ?_ <;> intro hc <;> conv => whnf))
    all_goals first | exact ofV_a h1 | (exfalso; omega) | exact absurd (by assumption) h1 | (trace_state; fail "of1")

end AI
end Go.Proofs.YtkknpgebiihkfaaGreatDoor
