/- Strings in a list. The reference's HasLabel. HasLabel. Two lists of the same numbers, compared by the reference. -/
import Derived.Test.YtbkibamoigmboaaGreatDoorMT
import Derived.Test.YtbkibamoigmboaaGreatDoorMV
set_option linter.unusedVariables false
set_option maxRecDepth 4000
namespace Go.Proofs.YtbkibamoigmboaaGreatDoor
namespace AI

/-- the first place of a string -/
theorem idxS {l : List (List UInt8)} {x : List UInt8} {nn : Bool} (hl : l.length < 2^63) : PureP (findFn tab) 110 [.sl nn (vs .str l), .str x] (fun v => ∃ z, v = .int .i64 z ∧ (0 ≤ z ↔ x ∈ l)) := by
  refine pureP_of rfl rfl ?_
  (conv => whnf); repeat' (first | ((with_reducible first | apply kN | apply kW | apply kX | apply kG | apply kQ); (· exact sd); conv => whnf) | (refine pcase.mk ?_ ?_ <;> intro hc <;> (try rw [List.length_nil] at hc) <;> first | (exfalso; omega) | (exact absurd rfl hc) | conv => whnf)  | (refine bcase_intro ?_ ?_ <;> intro hc <;> conv => whnf))
  refine loop_inv (fun m env s => ∃ i : Nat, m = l.length - i ∧ env = [(0, .sl nn (vs .str l)), (1, .str x), (7, .int .i64 l.length), (8, .int .i64 i)] ∧ s = ⟨[], 0⟩ ∧ x ∉ l.take i) ?_ _ _ _ ⟨0, rfl, by simp, rfl, by simp⟩
  rintro _ _ _ ⟨i, rfl, rfl, rfl, hx⟩
  refine ⟨rfl, ?_⟩
  (conv => whnf); repeat' (first | ((with_reducible first | apply kN | apply kW | apply kX | apply kG | apply kQ); (· exact sd); conv => whnf) | (refine pcase.mk ?_ ?_ <;> intro hc <;> (try rw [List.length_nil] at hc) <;> first | (exfalso; omega) | (exact absurd rfl hc) | conv => whnf)  | (refine bcase_intro ?_ ?_ <;> intro hc <;> conv => whnf))
  · subst hc; exact ⟨_, rfl, by simp⟩
  · exact again.mk ⟨_, by omega, i + 1, rfl, rfl, rfl, nms (by omega) hx (fun h => hc h.symm)⟩
  · rw [take_all hc] at hx; exact ⟨_, rfl, by simp [hx]⟩

theorem contS {l : List (List UInt8)} {x : List UInt8} {nn : Bool} (hl : l.length < 2^63) : PureP (findFn tab) 70 [.sl nn (vs .str l), .str x] (· = .bool (decide (x ∈ l))) := by
  refine pureP_of rfl rfl ?_
  (conv => whnf); repeat' (first | ((with_reducible first | apply kN | apply kW | apply kX | apply kG | apply kQ); (· exact sd); conv => whnf) | (refine pcase.mk ?_ ?_ <;> intro hc <;> (try rw [List.length_nil] at hc) <;> first | (exfalso; omega) | (exact absurd rfl hc) | conv => whnf)  | (refine bcase_intro ?_ ?_ <;> intro hc <;> conv => whnf))
  refine callK_of (idxS hl) ?_
  rintro _ ⟨z, rfl, hz⟩
  (conv => whnf); repeat' (first | ((with_reducible first | apply kN | apply kW | apply kX | apply kG | apply kQ); (· exact sd); conv => whnf) | (refine pcase.mk ?_ ?_ <;> intro hc <;> (try rw [List.length_nil] at hc) <;> first | (exfalso; omega) | (exact absurd rfl hc) | conv => whnf)  | (refine bcase_intro ?_ ?_ <;> intro hc <;> conv => whnf))
  · exact bool_t (hz.1 hc)
  · exact bool_f (mt hz.2 hc)

theorem hasS {l : List (List UInt8)} {x : List UInt8} {nn : Bool} (hl : l.length < 2^63) : PureP (findFn tab) 77 [.sl nn (vs .str l), .str x] (· = .bool (decide (x ∈ l))) := by
  refine pureP_of rfl rfl ?_
  (conv => whnf); repeat' (first | ((with_reducible first | apply kN | apply kW | apply kX | apply kG | apply kQ); (· exact sd); conv => whnf) | (refine pcase.mk ?_ ?_ <;> intro hc <;> (try rw [List.length_nil] at hc) <;> first | (exfalso; omega) | (exact absurd rfl hc) | conv => whnf)  | (refine bcase_intro ?_ ?_ <;> intro hc <;> conv => whnf))
  refine loop_inv (fun m env s => ∃ i : Nat, m = l.length - i ∧ env = [(0, .sl nn (vs .str l)), (1, .str x), (5, .int .i64 i)] ∧ s = ⟨[], 0⟩ ∧ x ∉ l.take i) ?_ _ _ _ ⟨0, rfl, rfl, rfl, by simp⟩
  rintro _ _ _ ⟨i, rfl, rfl, rfl, hx⟩
  refine ⟨rfl, ?_⟩
  (conv => whnf); repeat' (first | ((with_reducible first | apply kN | apply kW | apply kX | apply kG | apply kQ); (· exact sd); conv => whnf) | (refine pcase.mk ?_ ?_ <;> intro hc <;> (try rw [List.length_nil] at hc) <;> first | (exfalso; omega) | (exact absurd rfl hc) | conv => whnf)  | (refine bcase_intro ?_ ?_ <;> intro hc <;> conv => whnf))
  · subst hc; exact bool_t (by simp)
  · exact again.mk ⟨_, by omega, i + 1, rfl, rfl, rfl, nms (by omega) hx hc⟩
  · rw [take_all hc] at hx; exact bool_f hx

end AI
end Go.Proofs.YtbkibamoigmboaaGreatDoor
set_option linter.unusedVariables false
namespace Go.Proofs.YtbkibamoigmboaaGreatDoor
namespace AI
theorem hasLabel2 {n : GN} {s : List UInt8} (hl : n.labels.length < 2^63) : PureP (findFn tab) 40 [n.av, .str s] (· = .bool (decide (s ∈ n.labels))) := by
  refine pureP_of rfl rfl ?_
  (conv => whnf); repeat' (first | ((with_reducible first | apply kN | apply kW | apply kX | apply kG | apply kQ); (· exact sd); conv => whnf) | (refine pcase.mk ?_ ?_ <;> intro hc <;> (try rw [List.length_nil] at hc) <;> first | (exfalso; omega) | (exact absurd rfl hc) | conv => whnf) | (refine callB (hasS hl) (fun hc => ?_) (fun hc => ?_) <;> conv => whnf) | (refine bcase_intro ?_ ?_ <;> intro hc <;> conv => whnf))
  all_goals first | exact bool_t (by assumption) | exact bool_f (by assumption)


end AI
end Go.Proofs.YtbkibamoigmboaaGreatDoor
set_option linter.unusedVariables false
namespace Go.Proofs.YtbkibamoigmboaaGreatDoor
namespace AI

theorem hasLabel1 {n : GN} {s : List UInt8} (hl : n.labels.length < 2^63) : PureP (findFn tab) 34 [n.av, .str s] (· = .bool (decide (s ∈ n.labels))) := by
  refine pureP_of rfl rfl ?_
  (conv => whnf); repeat' (first | ((with_reducible first | apply kN | apply kW | apply kX | apply kG | apply kQ); (· exact sd); conv => whnf) | (refine pcase.mk ?_ ?_ <;> intro hc <;> (try rw [List.length_nil] at hc) <;> first | (exfalso; omega) | (exact absurd rfl hc) | conv => whnf) | (refine callB (contS hl) (fun hc => ?_) (fun hc => ?_) <;> conv => whnf) | (refine bcase_intro ?_ ?_ <;> intro hc <;> conv => whnf))
  all_goals first | exact bool_t (by assumption) | exact bool_f (by assumption)

end AI
end Go.Proofs.YtbkibamoigmboaaGreatDoor
set_option linter.unusedVariables false
namespace Go.Proofs.YtbkibamoigmboaaGreatDoor
namespace AI

/-- two lists of the same numbers -/
theorem intsSame {L : List Int} {n1 n2 : Bool} (hl : L.length < 2^61) : PureP (findFn tab) 12 [.sl n1 (vs (.int .i64) L), .sl n2 (vs (.int .i64) L)] (· = .bool true) := by
  refine pureP_of rfl rfl ?_
  (conv => whnf); repeat' (first  | ((with_reducible first | apply kN | apply kW | apply kX | apply kG | apply kQ); (· exact sd); conv => whnf) | (refine pcase.mk ?_ ?_ <;> intro hc <;> (try rw [List.length_nil] at hc) <;> first | (exfalso; omega) | (exact absurd rfl hc) | conv => whnf) | (refine bcase_intro ?_ ?_ <;> intro hc <;> conv => whnf))
  all_goals first | (exfalso; omega) | skip
  refine loop_inv (fun m env s => ∃ i : Nat, m = L.length - i ∧ env = [(0, .sl n1 (vs (.int .i64) L)), (1, .sl n2 (vs (.int .i64) L)), (5, .int .i64 i)] ∧ s = ⟨[], 0⟩) ?_ _ _ _ ⟨0, rfl, rfl, rfl⟩
  rintro _ _ _ ⟨i, rfl, rfl, rfl⟩
  refine ⟨rfl, ?_⟩
  by_cases hlt : i < L.length
  · (conv => whnf); repeat' (first  | ((with_reducible first | apply kN | apply kW | apply kX | apply kG | apply kQ); (· exact sd); conv => whnf) | (refine pcase.mk ?_ ?_ <;> intro hc <;> (try rw [List.length_nil] at hc) <;> first | (exfalso; omega) | (exact absurd rfl hc) | conv => whnf) | (refine bcase_intro ?_ ?_ <;> intro hc <;> conv => whnf))
    all_goals first
      | exact again.mk ⟨_, by omega, i + 1, rfl, rfl, rfl⟩
      | (exfalso; simp_all; done)
      | (trace_state; fail "intsSame")
  · (conv => whnf); repeat' (first  | ((with_reducible first | apply kN | apply kW | apply kX | apply kG | apply kQ); (· exact sd); conv => whnf) | (refine pcase.mk ?_ ?_ <;> intro hc <;> (try rw [List.length_nil] at hc) <;> first | (exfalso; omega) | (exact absurd rfl hc) | conv => whnf) | (refine bcase_intro ?_ ?_ <;> intro hc <;> conv => whnf))
    all_goals first | rfl | (trace_state; fail "intsSame2")

end AI
end Go.Proofs.YtbkibamoigmboaaGreatDoor
