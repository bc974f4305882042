/- The law about scanning: what is found in the index is what a scan of the graph finds. -/
import Derived.Test.YtbkibamoigmboaaGreatDoorIS1
import Derived.Test.YtbkibamoigmboaaGreatDoorMH
import Derived.Test.YtbkibamoigmboaaGreatDoorIxLives
set_option linter.unusedVariables false
set_option maxRecDepth 4000
namespace Go.Proofs.YtbkibamoigmboaaGreatDoor
namespace AI
open Go.Sort

noncomputable def okW (lo hi e : GV) : Bool := amV lo e && amV e hi
def okA (e : GV) : Bool := true

set_option maxHeartbeats 8000000 in
/-- the loop of the scan -/
theorem scanL {q : GQ} {g : GG} {b : Bool} {W : List GX} (hgq : q.g = g) (hN : g.nodes.length ≤ 40) (hok : ∀ n ∈ g.nodes, n.ok) (ht : ∀ n ∈ g.nodes, TameN n) (hf : Fit g.nodes) (hlo : q.lo.ok) (hhi : q.hi.ok) {c u1 u2 u3 x4 x5 x6 : Nat} {Q : AExit → Env → Sto → Prop}
    (hQ : ∀ (c ga gb gc n1 n2 n3 : Nat) (fa fb fc : Bool) (A B C : List Int) (tl : Env), A = sel q.label q.key (okF q.lo) g.nodes → B = sel q.label q.key (okW q.lo q.hi) g.nodes → C = sel q.label q.key okA g.nodes → n1 = A.length → n2 = B.length → n3 = C.length →
      Q (.exit 0) ([(3, .ref 1 u1 0 0), (4, .str q.label), (5, .str q.key), (6, .ref 2 u2 0 0), (7, .ref 3 u3 0 0), (8, .sl b (vs GX.av W)), (9, .own 4 ga 0 n1), (10, .own 5 gb 0 n2), (11, .own 6 gc 0 n3), (12, .int .i64 g.nodes.length)] ++ tl) ⟨[.arr 0 17 true true [q.av], .arr u1 4 true true [g.av], .arr u2 5 true true [q.lo.av], .arr u3 5 true true [q.hi.av], .arr ga 1 fa true (vs (.int .i64) A), .arr gb 1 fb true (vs (.int .i64) B), .arr gc 1 fc true (vs (.int .i64) C)], c⟩) :
    Run (findFn tab) (.loop l9_0_h l9_0_b) [(3, .ref 1 u1 0 0), (4, .str q.label), (5, .str q.key), (6, .ref 2 u2 0 0), (7, .ref 3 u3 0 0), (8, .sl b (vs GX.av W)), (9, .own 4 x4 0 0), (10, .own 5 x5 0 0), (11, .own 6 x6 0 0), (12, .int .i64 0)] ⟨[.arr 0 17 true true [q.av], .arr u1 4 true true [g.av], .arr u2 5 true true [q.lo.av], .arr u3 5 true true [q.hi.av], .arr x4 1 false true [], .arr x5 1 false true [], .arr x6 1 false true []], c⟩ Q := by
  refine loop_inv (fun z env s => ∃ (i c ga gb gc n1 n2 n3 : Nat) (fa fb fc : Bool) (A B C : List Int), z = g.nodes.length - i ∧ i ≤ g.nodes.length ∧ A = sel q.label q.key (okF q.lo) (g.nodes.take i) ∧ B = sel q.label q.key (okW q.lo q.hi) (g.nodes.take i) ∧ C = sel q.label q.key okA (g.nodes.take i) ∧ n1 = A.length ∧ n2 = B.length ∧ n3 = C.length ∧ A.length ≤ i ∧ B.length ≤ i ∧ C.length ≤ i ∧
    env = [(3, .ref 1 u1 0 0), (4, .str q.label), (5, .str q.key), (6, .ref 2 u2 0 0), (7, .ref 3 u3 0 0), (8, .sl b (vs GX.av W)), (9, .own 4 ga 0 n1), (10, .own 5 gb 0 n2), (11, .own 6 gc 0 n3), (12, .int .i64 i)] ∧ s = ⟨[.arr 0 17 true true [q.av], .arr u1 4 true true [g.av], .arr u2 5 true true [q.lo.av], .arr u3 5 true true [q.hi.av], .arr ga 1 fa true (vs (.int .i64) A), .arr gb 1 fb true (vs (.int .i64) B), .arr gc 1 fc true (vs (.int .i64) C)], c⟩) ?_ _ _ _ ⟨0, _, x4, x5, x6, _, _, _, _, _, _, [], [], [], rfl, by omega, rfl, rfl, rfl, rfl, rfl, rfl, by simp, by simp, by simp, rfl, rfl⟩
  rintro _ _ _ ⟨i, c, ga, gb, gc, n1, n2, n3, fa, fb, fc, A, B, C, rfl, hi, hA, hB, hC, nA, nB, nC, lA, lB, lC, rfl, rfl⟩
  refine ⟨rfl, ?_⟩
  by_cases hlt : i < g.nodes.length
  · have htn := ht g.nodes[i] (List.getElem_mem hlt)
    have hokn := hok g.nodes[i] (List.getElem_mem hlt)
    have pP := propX (l := g.nodes[i].props) (nn := g.nodes[i].pn) (k := q.key) (by have := htn.2.1; omega) (fun p hp => List.eq_nil_of_length_eq_zero (htn.2.2 p hp).2.1)
    have hl := hasLabel1 (n := g.nodes[i]) (s := q.label) (by have := htn.1; omega)
    have sS := sel_snoc (label := q.label) (key := q.key) (ok := okF q.lo) hlt
    have sW := sel_snoc (label := q.label) (key := q.key) (ok := okW q.lo q.hi) hlt
    have sA := sel_snoc (label := q.label) (key := q.key) (ok := okA) hlt
    rw [← hA] at sS
    rw [← hB] at sW
    rw [← hC] at sA
    clear hQ
    cases hfd : g.nodes[i].props.find? (isK q.key) with
    | none =>
      have hv : propV g.nodes[i].props q.key = gv0 := by unfold propV; rw [hfd]; rfl
      have hs0 : ∀ ok, ¬ selc q.label q.key ok g.nodes[i] = true := fun ok => by unfold selc; rw [hfd]; exact Bool.noConfusion
      rw [hv] at pP
      rw [if_neg (hs0 _), List.append_nil] at sS sW sA
      by_cases hlb : q.label ∈ g.nodes[i].labels
      · rw [decide_eq_true hlb] at hl
        (conv => whnf); repeat' (first | (refine callK_of hl ?_; rintro _ rfl; conv => whnf) | (refine callK_of pP ?_; rintro _ rfl; conv => whnf) | ((with_reducible first | apply kN | apply kW | apply kX | apply kG | apply kQ); (· exact sd); conv => whnf) | (refine pcase.mk ?_ ?_ <;> intro hc <;> (try rw [List.length_nil] at hc) <;> first | (exfalso; omega) | (exact absurd rfl hc) | conv => whnf) | (refine bcase_intro ?_ ?_ <;> intro hc <;> conv => whnf))
        all_goals first
          | exact again.mk ⟨_, by omega, i + 1, _, _, _, _, _, _, _, _, _, _, A, B, C, rfl, by omega, sS.symm, sW.symm, sA.symm, nA, nB, nC, by omega, by omega, by omega, rfl, rfl⟩
          | (exfalso; omega)
          | (trace_state; fail "scanA")
      · rw [decide_eq_false hlb] at hl
        (conv => whnf); repeat' (first | (refine callK_of hl ?_; rintro _ rfl; conv => whnf) | (refine callK_of pP ?_; rintro _ rfl; conv => whnf) | ((with_reducible first | apply kN | apply kW | apply kX | apply kG | apply kQ); (· exact sd); conv => whnf) | (refine pcase.mk ?_ ?_ <;> intro hc <;> (try rw [List.length_nil] at hc) <;> first | (exfalso; omega) | (exact absurd rfl hc) | conv => whnf) | (refine bcase_intro ?_ ?_ <;> intro hc <;> conv => whnf))
        all_goals first
          | exact again.mk ⟨_, by omega, i + 1, _, _, _, _, _, _, _, _, _, _, A, B, C, rfl, by omega, sS.symm, sW.symm, sA.symm, nA, nB, nC, by omega, by omega, by omega, rfl, rfl⟩
          | (exfalso; omega)
          | (trace_state; fail "scanB")
    | some p =>
      have hpm := List.mem_of_find?_eq_some hfd
      have hv : propV g.nodes[i].props q.key = p.v := by unfold propV; rw [hfd]
      rw [hv] at pP
      have hk0 := hf.vals _ (List.getElem_mem hlt) p hpm
      have hpo : p.v.ok := (hokn.2.2.2.2.2.2 p hpm).2
      by_cases hlb : q.label ∈ g.nodes[i].labels
      · have hs1 : ∀ ok, selc q.label q.key ok g.nodes[i] = ok p.v := fun ok => by unfold selc; rw [hfd]; show (decide _ && _) = _; rw [decide_eq_true hlb, Bool.true_and]
        rw [decide_eq_true hlb] at hl
        rw [hs1] at sS sW sA
        rw [show okA p.v = true from rfl, if_pos rfl] at sA
        have r1 := eqV_P hpo hlo
        have r2 := lsV_P hlo hpo
        have r3 := eqV_P hlo hpo
        have r4 := lsV_P hpo hhi
        have r5 := eqV_P hpo hhi
        unfold okF at sS
        unfold okW amV at sW
        simp only [Bool.and_eq_true, decide_eq_true_eq] at sS sW
        generalize eqV p.v q.lo = z1 at *
        generalize lsV q.lo p.v = z2 at *
        generalize eqV q.lo p.v = z3 at *
        generalize lsV p.v q.hi = z4 at *
        generalize eqV p.v q.hi = z5 at *
        by_cases e1 : z1 = 2
        · by_cases e2 : (z2 = 2 ∨ z3 = 2) ∧ (z4 = 2 ∨ z5 = 2)
          ·
            rw [if_pos e1] at sS
            rw [if_pos e2] at sW
            (conv => whnf); repeat' (first | (refine callK_of hl ?_; rintro _ rfl; conv => whnf) | (refine callK_of pP ?_; rintro _ rfl; conv => whnf) | (refine callK_of r1 ?_; rintro _ rfl; conv => whnf) | (refine callK_of r2 ?_; rintro _ rfl; conv => whnf) | (refine callK_of r3 ?_; rintro _ rfl; conv => whnf) | (refine callK_of r4 ?_; rintro _ rfl; conv => whnf) | (refine callK_of r5 ?_; rintro _ rfl; conv => whnf) | (refine apV1 (f := .int .i64) (l := A) (x := g.nodes[i].id) cellsI nA (by omega) ?_; conv => whnf) | (refine apV1 (f := .int .i64) (l := B) (x := g.nodes[i].id) cellsI nB (by omega) ?_; conv => whnf) | (refine apV1 (f := .int .i64) (l := C) (x := g.nodes[i].id) cellsI nC (by omega) ?_; conv => whnf) | ((with_reducible first | apply kN | apply kW | apply kX | apply kG | apply kQ); (· exact sd); conv => whnf) | (refine pcase.mk ?_ ?_ <;> intro hc <;> (try rw [List.length_nil] at hc) <;> first | (exfalso; omega) | (exact absurd rfl hc) | conv => whnf) | (refine bcase_intro ?_ ?_ <;> intro hc <;> conv => whnf))
            all_goals first
              | exact again.mk ⟨_, by omega, i + 1, _, _, _, _, _, _, _, _, _, _, A ++ [g.nodes[i].id], B ++ [g.nodes[i].id], C ++ [g.nodes[i].id], rfl, by omega, sS.symm, sW.symm, sA.symm, by simp, by simp, by simp, by simp; omega, by simp; omega, by simp; omega, rfl, rfl⟩
              | (exfalso; omega)
              | (trace_state; fail "scan11")
          ·
            rw [if_pos e1] at sS
            rw [if_neg e2, List.append_nil] at sW
            (conv => whnf); repeat' (first | (refine callK_of hl ?_; rintro _ rfl; conv => whnf) | (refine callK_of pP ?_; rintro _ rfl; conv => whnf) | (refine callK_of r1 ?_; rintro _ rfl; conv => whnf) | (refine callK_of r2 ?_; rintro _ rfl; conv => whnf) | (refine callK_of r3 ?_; rintro _ rfl; conv => whnf) | (refine callK_of r4 ?_; rintro _ rfl; conv => whnf) | (refine callK_of r5 ?_; rintro _ rfl; conv => whnf) | (refine apV1 (f := .int .i64) (l := A) (x := g.nodes[i].id) cellsI nA (by omega) ?_; conv => whnf) | (refine apV1 (f := .int .i64) (l := C) (x := g.nodes[i].id) cellsI nC (by omega) ?_; conv => whnf) | ((with_reducible first | apply kN | apply kW | apply kX | apply kG | apply kQ); (· exact sd); conv => whnf) | (refine pcase.mk ?_ ?_ <;> intro hc <;> (try rw [List.length_nil] at hc) <;> first | (exfalso; omega) | (exact absurd rfl hc) | conv => whnf) | (refine bcase_intro ?_ ?_ <;> intro hc <;> conv => whnf))
            all_goals first
              | exact again.mk ⟨_, by omega, i + 1, _, _, _, _, _, _, _, _, _, _, A ++ [g.nodes[i].id], B, C ++ [g.nodes[i].id], rfl, by omega, sS.symm, sW.symm, sA.symm, by simp, nB, by simp, by simp; omega, by omega, by simp; omega, rfl, rfl⟩
              | (exfalso; omega)
              | (trace_state; fail "scan10")
        · by_cases e2 : (z2 = 2 ∨ z3 = 2) ∧ (z4 = 2 ∨ z5 = 2)
          ·
            rw [if_neg e1, List.append_nil] at sS
            rw [if_pos e2] at sW
            (conv => whnf); repeat' (first | (refine callK_of hl ?_; rintro _ rfl; conv => whnf) | (refine callK_of pP ?_; rintro _ rfl; conv => whnf) | (refine callK_of r1 ?_; rintro _ rfl; conv => whnf) | (refine callK_of r2 ?_; rintro _ rfl; conv => whnf) | (refine callK_of r3 ?_; rintro _ rfl; conv => whnf) | (refine callK_of r4 ?_; rintro _ rfl; conv => whnf) | (refine callK_of r5 ?_; rintro _ rfl; conv => whnf) | (refine apV1 (f := .int .i64) (l := B) (x := g.nodes[i].id) cellsI nB (by omega) ?_; conv => whnf) | (refine apV1 (f := .int .i64) (l := C) (x := g.nodes[i].id) cellsI nC (by omega) ?_; conv => whnf) | ((with_reducible first | apply kN | apply kW | apply kX | apply kG | apply kQ); (· exact sd); conv => whnf) | (refine pcase.mk ?_ ?_ <;> intro hc <;> (try rw [List.length_nil] at hc) <;> first | (exfalso; omega) | (exact absurd rfl hc) | conv => whnf) | (refine bcase_intro ?_ ?_ <;> intro hc <;> conv => whnf))
            all_goals first
              | exact again.mk ⟨_, by omega, i + 1, _, _, _, _, _, _, _, _, _, _, A, B ++ [g.nodes[i].id], C ++ [g.nodes[i].id], rfl, by omega, sS.symm, sW.symm, sA.symm, nA, by simp, by simp, by omega, by simp; omega, by simp; omega, rfl, rfl⟩
              | (exfalso; omega)
              | (trace_state; fail "scan01")
          ·
            rw [if_neg e1, List.append_nil] at sS
            rw [if_neg e2, List.append_nil] at sW
            (conv => whnf); repeat' (first | (refine callK_of hl ?_; rintro _ rfl; conv => whnf) | (refine callK_of pP ?_; rintro _ rfl; conv => whnf) | (refine callK_of r1 ?_; rintro _ rfl; conv => whnf) | (refine callK_of r2 ?_; rintro _ rfl; conv => whnf) | (refine callK_of r3 ?_; rintro _ rfl; conv => whnf) | (refine callK_of r4 ?_; rintro _ rfl; conv => whnf) | (refine callK_of r5 ?_; rintro _ rfl; conv => whnf) | (refine apV1 (f := .int .i64) (l := C) (x := g.nodes[i].id) cellsI nC (by omega) ?_; conv => whnf) | ((with_reducible first | apply kN | apply kW | apply kX | apply kG | apply kQ); (· exact sd); conv => whnf) | (refine pcase.mk ?_ ?_ <;> intro hc <;> (try rw [List.length_nil] at hc) <;> first | (exfalso; omega) | (exact absurd rfl hc) | conv => whnf) | (refine bcase_intro ?_ ?_ <;> intro hc <;> conv => whnf))
            all_goals first
              | exact again.mk ⟨_, by omega, i + 1, _, _, _, _, _, _, _, _, _, _, A, B, C ++ [g.nodes[i].id], rfl, by omega, sS.symm, sW.symm, sA.symm, nA, nB, by simp, by omega, by omega, by simp; omega, rfl, rfl⟩
              | (exfalso; omega)
              | (trace_state; fail "scan00")
      · have hs0 : ∀ ok, ¬ selc q.label q.key ok g.nodes[i] = true := fun ok => by unfold selc; rw [hfd]; show ¬ (decide _ && _) = true; rw [decide_eq_false hlb, Bool.false_and]; exact Bool.noConfusion
        rw [if_neg (hs0 _), List.append_nil] at sS sW sA
        rw [decide_eq_false hlb] at hl
        (conv => whnf); repeat' (first | (refine callK_of hl ?_; rintro _ rfl; conv => whnf) | (refine callK_of pP ?_; rintro _ rfl; conv => whnf) | ((with_reducible first | apply kN | apply kW | apply kX | apply kG | apply kQ); (· exact sd); conv => whnf) | (refine pcase.mk ?_ ?_ <;> intro hc <;> (try rw [List.length_nil] at hc) <;> first | (exfalso; omega) | (exact absurd rfl hc) | conv => whnf) | (refine bcase_intro ?_ ?_ <;> intro hc <;> conv => whnf))
        all_goals first
          | exact again.mk ⟨_, by omega, i + 1, _, _, _, _, _, _, _, _, _, _, A, B, C, rfl, by omega, sS.symm, sW.symm, sA.symm, nA, nB, nC, by omega, by omega, by omega, rfl, rfl⟩
          | (exfalso; omega)
          | (trace_state; fail "scanC")
  · rw [List.take_of_length_le (by omega)] at hA hB hC
    obtain rfl : i = g.nodes.length := by omega
    (conv => whnf); repeat' (first  | ((with_reducible first | apply kN | apply kW | apply kX | apply kG | apply kQ); (· exact sd); conv => whnf) | (refine pcase.mk ?_ ?_ <;> intro hc <;> (try rw [List.length_nil] at hc) <;> first | (exfalso; omega) | (exact absurd rfl hc) | conv => whnf) | (refine bcase_intro ?_ ?_ <;> intro hc <;> conv => whnf))
    exact hQ _ _ _ _ _ _ _ _ _ _ A B C _ hA hB hC nA nB nC

end AI
end Go.Proofs.YtbkibamoigmboaaGreatDoor
