/- Sorting (slices.SortFunc[[]graphdb/api.Entry,graphdb/api.Entry]), leaving out what repeats (none). -/
import Derived.Test.YtbkibamoigmboaaGreatDoorPqD
import Derived.Test.YtbkibamoigmboaaGreatDoorMP
set_option linter.unusedVariables false
set_option maxRecDepth 4000
namespace Go.Proofs.YtbkibamoigmboaaGreatDoor
namespace AI
open Go.Sort

theorem pqsort {ob0 : Obj} {g len c : Nat} {nn cl : Bool} {L : List GX} (hl : L.length = len) (hs : len < 2^61) :
    Calls1 (findFn tab) 46 [.own 1 g 0 len, .fn 29 []] ⟨[ob0, .arr g 8 nn cl (vs GX.av L)], c⟩ fun out s' => ∃ c' W, out = .ok (.tup []) ∧ s' = ⟨[ob0, .arr g 8 nn cl (vs GX.av W)], c'⟩ ∧ W.Perm L ∧ W.Pairwise (fun x y => ltT y x = false) := by
  have hb : bitsLen len ≤ 62 := (bitsLen_le_iff len 62).2 (by omega)
  refine calls1_of rfl rfl ?_
  (conv => whnf); repeat' (first | (refine wrapN len rfl rfl (by show _ < 2^64; omega) ?_; conv => whnf) | (refine callK_of (bitsLenP (n := len) (by omega)) ?_; rintro _ rfl; conv => whnf) | ((with_reducible first | apply kN | apply kW | apply kX | apply kG | apply kQ); (· exact sd); conv => whnf) | (refine pcase.mk ?_ ?_ <;> intro hc <;> (try rw [List.length_nil] at hc) <;> first | (exfalso; omega) | (exact absurd rfl hc) | conv => whnf) | (refine bcase_intro ?_ ?_ <;> intro hc <;> conv => whnf))
  refine (pqsortQ hl hs (by omega) (by omega)).mono ?_
  rintro _ _ ⟨c', W, rfl, rfl, h1, h2⟩
  conv => whnf
  apply getK_intro rfl
  (conv => whnf); repeat' (first  | ((with_reducible first | apply kN | apply kW | apply kX | apply kG | apply kQ); (· exact sd); conv => whnf) | (refine pcase.mk ?_ ?_ <;> intro hc <;> (try rw [List.length_nil] at hc) <;> first | (exfalso; omega) | (exact absurd rfl hc) | conv => whnf) | (refine bcase_intro ?_ ?_ <;> intro hc <;> conv => whnf))
  exact ⟨_, W, rfl, rfl, h1, h2⟩

end AI
end Go.Proofs.YtbkibamoigmboaaGreatDoor
