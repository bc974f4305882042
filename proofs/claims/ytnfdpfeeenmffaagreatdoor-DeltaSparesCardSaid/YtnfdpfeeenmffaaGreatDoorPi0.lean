/- Sorting numbers in place: the order. -/
import Derived.Test.YtnfdpfeeenmffaaGreatDoorMP
set_option linter.unusedVariables false
set_option maxRecDepth 4000
namespace Go.Proofs.YtnfdpfeeenmffaaGreatDoor
namespace AI
open Go.Sort

def ltI (x y : Int) : Bool := decide (x < y)
theorem ltI_iff {x y : Int} : ltI x y = true ↔ x < y := by unfold ltI; rw [decide_eq_true_eq]
theorem ltI_no {x y : Int} : ltI x y = false ↔ ¬ x < y := by rw [← ltI_iff]; simp
theorem ltI_swo : SWO ltI where
  irrefl x := ltI_no.2 (by omega)
  trans x y z h1 h2 := ltI_iff.2 (by have := ltI_iff.1 h1; have := ltI_iff.1 h2; omega)
  ntrans x y z h1 h2 := ltI_no.2 (by have := ltI_no.1 h1; have := ltI_no.1 h2; omega)

theorem cellsI (x : Int) : (AV.int .i64 x).cells.length = 1 := rfl

theorem nanI {x : Int} : PureP (findFn tab) 117 [.int .i64 x] (· = .bool (decide False)) := by
  refine pureP_of rfl rfl ?_
  (conv => whnf); repeat' (first  | ((with_reducible first | apply kN | apply kW | apply kX | apply kG | apply kQ); (· exact sd); conv => whnf) | (refine pcase.mk ?_ ?_ <;> intro hc <;> (try rw [List.length_nil] at hc) <;> first | (exfalso; omega) | (exact absurd rfl hc) | conv => whnf) | (refine bcase_intro ?_ ?_ <;> intro hc <;> conv => whnf))
  all_goals first | exact absurd rfl hc | rfl

theorem lessI {x y : Int} : PureP (findFn tab) 77 [.int .i64 x, .int .i64 y] (· = .bool (ltI x y)) := by
  refine pureP_of rfl rfl ?_
  (conv => whnf); repeat' (first | (refine callB nanI (fun hc => absurd hc id) (fun _ => ?_); conv => whnf) | ((with_reducible first | apply kN | apply kW | apply kX | apply kG | apply kQ); (· exact sd); conv => whnf) | (refine pcase.mk ?_ ?_ <;> intro hc <;> (try rw [List.length_nil] at hc) <;> first | (exfalso; omega) | (exact absurd rfl hc) | conv => whnf) | (refine bcase_intro ?_ ?_ <;> intro hc <;> conv => whnf))
  all_goals first | exact bool_t (by first | assumption | omega) | exact bool_f (by first | assumption | omega)

attribute [irreducible] ltI

end AI
end Go.Proofs.YtnfdpfeeenmffaaGreatDoor
