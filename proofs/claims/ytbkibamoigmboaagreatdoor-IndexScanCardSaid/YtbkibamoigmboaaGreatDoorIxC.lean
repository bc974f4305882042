/- The graph that is checked; small graphs. -/
import Derived.Test.YtbkibamoigmboaaGreatDoorMK
set_option linter.unusedVariables false
set_option maxRecDepth 4000
namespace Go.Proofs.YtbkibamoigmboaaGreatDoor
namespace AI

/-- what the check leaves of a graph -/
noncomputable def chk (g : GG) : GG := if checkE g = 0 then g else ⟨false, [], false, [], 0, 0⟩
theorem checkedP {g : GG} (hg : g.ok) : PureP (findFn tab) 38 [g.av] (· = (chk g).av) := by
  have h := checkG hg
  by_cases h0 : checkE g = 0
  · have e : chk g = g := if_pos h0
    rw [e]
    rw [h0] at h
    refine pureP_of rfl rfl ?_
    (conv => whnf); repeat' (first | (refine callK_of h ?_; rintro _ rfl; conv => whnf) | ((with_reducible first | apply kN | apply kW | apply kX | apply kG | apply kQ); (· exact sd); conv => whnf) | (refine pcase.mk ?_ ?_ <;> intro hc <;> (try rw [List.length_nil] at hc) <;> first | (exfalso; omega) | (exact absurd rfl hc) | conv => whnf) | (refine bcase_intro ?_ ?_ <;> intro hc <;> conv => whnf))
    all_goals first | rfl | (exfalso; omega) | (trace_state; fail "checked1")
  · have e : chk g = ⟨false, [], false, [], 0, 0⟩ := if_neg h0
    rw [e]
    refine pureP_of rfl rfl ?_
    (conv => whnf); repeat' (first | (refine callK_of h ?_; rintro _ rfl; conv => whnf) | ((with_reducible first | apply kN | apply kW | apply kX | apply kG | apply kQ); (· exact sd); conv => whnf) | (refine pcase.mk ?_ ?_ <;> intro hc <;> (try rw [List.length_nil] at hc) <;> first | (exfalso; omega) | (exact absurd rfl hc) | conv => whnf) | (refine bcase_intro ?_ ?_ <;> intro hc <;> conv => whnf))
    all_goals first | rfl | (exfalso; omega) | (trace_state; fail "checked2")

theorem wrapAnyI {z : Int} {K : AV → Prop} (h : ∀ y, K (.int .i64 y)) : wrapK .i64 z K := wrapK_intro rfl (h _)
theorem smallP {g : GG} (hg : g.ok) : PureP (findFn tab) 10 [g.av] (fun v => ∃ b, v = .bool b ∧ (b = true → g.nodes.length ≤ 40 ∧ g.edges.length ≤ 80)) := by
  have hl : g.nodes.length < 2^63 := hg.1
  have hl2 : g.edges.length < 2^63 := hg.2.2.2.1
  refine pureP_of rfl rfl ?_
  (conv => whnf); repeat' (first  | ((with_reducible first | apply kN | apply kW | apply kX | apply kG | apply kQ); (· exact sd); conv => whnf) | (refine pcase.mk ?_ ?_ <;> intro hc <;> (try rw [List.length_nil] at hc) <;> first | (exfalso; omega) | (exact absurd rfl hc) | conv => whnf) | (refine bcase_intro ?_ ?_ <;> intro hc <;> conv => whnf))
  refine loop_inv (fun m env s => ∃ (i c : Nat) (z : Int), m = g.nodes.length - i ∧ env = [(1, .ref 0 0 0 0), (3, .int .i64 z), (4, .int .i64 i)] ∧ s = ⟨[.arr 0 4 true true [g.av]], c⟩) ?_ _ _ _ ⟨0, _, _, rfl, rfl, rfl⟩
  rintro _ _ _ ⟨i, c, z, rfl, rfl, rfl⟩
  refine ⟨rfl, ?_⟩
  by_cases hlt : i < g.nodes.length
  · (conv => whnf); repeat' (first | (first | refine wrapK_intro (wrap_i64 (by omega) (by omega)) ?_ | refine wrapAnyI (fun y => ?_); conv => whnf) | ((with_reducible first | apply kN | apply kW | apply kX | apply kG | apply kQ); (· exact sd); conv => whnf) | (refine pcase.mk ?_ ?_ <;> intro hc <;> (try rw [List.length_nil] at hc) <;> first | (exfalso; omega) | (exact absurd rfl hc) | conv => whnf) | (refine bcase_intro ?_ ?_ <;> intro hc <;> conv => whnf))
    all_goals first
      | exact again.mk ⟨_, by omega, i + 1, _, _, rfl, rfl, rfl⟩
      | (trace_state; fail "small1")
  · (conv => whnf); repeat' (first  | ((with_reducible first | apply kN | apply kW | apply kX | apply kG | apply kQ); (· exact sd); conv => whnf) | (refine pcase.mk ?_ ?_ <;> intro hc <;> (try rw [List.length_nil] at hc) <;> first | (exfalso; omega) | (exact absurd rfl hc) | conv => whnf) | (refine bcase_intro ?_ ?_ <;> intro hc <;> conv => whnf))
    all_goals first
      | exact ⟨_, rfl, fun h => ⟨by omega, by omega⟩⟩
      | exact ⟨_, rfl, fun h => Bool.noConfusion h⟩
      | (trace_state; fail "small2")

end AI
end Go.Proofs.YtbkibamoigmboaaGreatDoor
