/- Comparing two numbers. -/
import Derived.Test.YtbkibamoigmboaaGreatDoorGrCode
import Derived.Test.YtbkibamoigmboaaGreatDoorMV
set_option linter.unusedVariables false
set_option maxRecDepth 4000
namespace Go.Proofs.YtbkibamoigmboaaGreatDoor
namespace AI

theorem nan {x : Int} : PureP (findFn tab) 97 [.int .i64 x] (· = .bool (decide False)) := by
  refine pureP_of rfl rfl ?_
  (conv => whnf); repeat' (first  | ((with_reducible first | apply kN | apply kW | apply kX | apply kG | apply kQ); (· exact sd); conv => whnf) | (refine pcase.mk ?_ ?_ <;> intro hc <;> (try rw [List.length_nil] at hc) <;> first | (exfalso; omega) | (exact absurd rfl hc) | conv => whnf) | (refine bcase_intro ?_ ?_ <;> intro hc <;> conv => whnf))
  all_goals first | exact absurd rfl hc | rfl

/-- comparing two numbers -/
def cmpI (x y : Int) : Int := if x < y then -1 else if y < x then 1 else 0

theorem compare {x y : Int} : PureP (findFn tab) 61 [.int .i64 x, .int .i64 y] (· = .int .i64 (cmpI x y)) := by
  refine pureP_of rfl rfl ?_
  (conv => whnf); repeat' (first | (refine callB nan (fun hc => absurd hc id) (fun _ => ?_); conv => whnf) | ((with_reducible first | apply kN | apply kW | apply kX | apply kG | apply kQ); (· exact sd); conv => whnf) | (refine pcase.mk ?_ ?_ <;> intro hc <;> (try rw [List.length_nil] at hc) <;> first | (exfalso; omega) | (exact absurd rfl hc) | conv => whnf) | (refine bcase_intro ?_ ?_ <;> intro hc <;> conv => whnf))
  all_goals unfold cmpI; first | (rw [if_pos (by omega)]; rfl) | (rw [if_neg (by omega), if_pos (by omega)]; rfl) | (rw [if_neg (by omega), if_neg (by omega)]; rfl)

theorem cmpI_neg {x y : Int} : cmpI x y < 0 ↔ x < y := by unfold cmpI; split <;> (try split) <;> omega
theorem cmpI_zero {x y : Int} : cmpI x y = 0 ↔ x = y := by unfold cmpI; split <;> (try split) <;> omega

end AI
end Go.Proofs.YtbkibamoigmboaaGreatDoor
