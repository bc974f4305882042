/- Sorting (slices.Sort[[]int,int]), leaving out what repeats (slices.Compact[[]int,int]). Leaving out what repeats (slices.Compact[[]int,int]). -/
import Derived.Test.YtbkibamoigmboaaGreatDoorPkD
import Derived.Test.YtbkibamoigmboaaGreatDoorMP
import Derived.Test.YtbkibamoigmboaaGreatDoorPO1
set_option linter.unusedVariables false
set_option maxRecDepth 4000
namespace Go.Proofs.YtbkibamoigmboaaGreatDoor
namespace AI
open Go.Sort

theorem pksort  {g len c : Nat} {nn cl : Bool} {L : List Int} (hl : L.length = len) (hs : len < 2^61) :
    Calls1 (findFn tab) 87 [.own 0 g 0 len] ⟨[.arr g 1 nn cl (vs (.int .i64) L)], c⟩ fun out s' => ∃ c' W, out = .ok (.tup []) ∧ s' = ⟨[.arr g 1 nn cl (vs (.int .i64) W)], c'⟩ ∧ W.Perm L ∧ W.Pairwise (fun x y => ltI y x = false) := by
  have hb : bitsLen len ≤ 62 := (bitsLen_le_iff len 62).2 (by omega)
  refine calls1_of rfl rfl ?_
  (conv => whnf); repeat' (first | (refine wrapN len rfl rfl (by show _ < 2^64; omega) ?_; conv => whnf) | (refine callK_of (bitsLenP (n := len) (by omega)) ?_; rintro _ rfl; conv => whnf) | ((with_reducible first | apply kN | apply kW | apply kX | apply kG | apply kQ); (· exact sd); conv => whnf) | (refine pcase.mk ?_ ?_ <;> intro hc <;> (try rw [List.length_nil] at hc) <;> first | (exfalso; omega) | (exact absurd rfl hc) | conv => whnf) | (refine bcase_intro ?_ ?_ <;> intro hc <;> conv => whnf))
  refine (pksortQ hl hs (by omega) (by omega)).mono ?_
  rintro _ _ ⟨c', W, rfl, rfl, h1, h2⟩
  conv => whnf
  apply getK_intro rfl
  (conv => whnf); repeat' (first  | ((with_reducible first | apply kN | apply kW | apply kX | apply kG | apply kQ); (· exact sd); conv => whnf) | (refine pcase.mk ?_ ?_ <;> intro hc <;> (try rw [List.length_nil] at hc) <;> first | (exfalso; omega) | (exact absurd rfl hc) | conv => whnf) | (refine bcase_intro ?_ ?_ <;> intro hc <;> conv => whnf))
  exact ⟨_, W, rfl, rfl, h1, h2⟩

end AI
end Go.Proofs.YtbkibamoigmboaaGreatDoor
set_option linter.unusedVariables false
namespace Go.Proofs.YtbkibamoigmboaaGreatDoor
namespace AI
open Go.Sort

theorem pkcpt  {g len c : Nat} {nn cl : Bool} {d : Array Int} (hl : d.size = len) (hs : len < 2^61) :
    Calls1 (findFn tab) 88 [.own 0 g 0 len] ⟨[.arr g 1 nn cl (vs (.int .i64) d.toList)], c⟩ fun out s' => ∃ c' T, out = .ok (.own 0 g 0 (cpn d len).length) ∧ s' = ⟨[.arr g 1 nn cl (vs (.int .i64) (cpn d len ++ T))], c'⟩ := by
  have hend : (∀ j, 0 < j → j < len → ¬ d[j]! = d[j - 1]!) → cpn d len = d.toList := fun h => by
    rw [cpn_all len (by omega) h, List.take_of_length_le (by simp [hl])]
  refine calls1_of rfl rfl ?_
  (conv => whnf); repeat' (first  | ((with_reducible first | apply kN | apply kW | apply kX | apply kG | apply kQ); (· exact sd); conv => whnf) | (refine pcase.mk ?_ ?_ <;> intro hc <;> (try rw [List.length_nil] at hc) <;> first | (exfalso; omega) | (exact absurd rfl hc) | conv => whnf) | (refine bcase_intro ?_ ?_ <;> intro hc <;> conv => whnf))
  · have e := hend (fun j h0 hj => absurd h0 (by omega))
    rw [e, Array.length_toList, hl]
    exact ⟨_, [], rfl, by rw [List.append_nil]⟩
  refine loop_inv (fun m env s => ∃ (k c : Nat), m = len - k ∧ 0 < k ∧ (∀ j, 0 < j → j < k → ¬ d[j]! = d[j - 1]!) ∧ env = [(0, .own 0 g 0 len), (3, .int .i64 k)] ∧ s = ⟨[.arr g 1 nn cl (vs (.int .i64) d.toList)], c⟩) ?_ _ _ _ ⟨1, c, rfl, by omega, fun j h0 h1 => absurd h0 (by omega), rfl, rfl⟩
  rintro _ _ _ ⟨k, c, rfl, hk0, hk, rfl, rfl⟩
  refine ⟨rfl, ?_⟩
  (conv => whnf); repeat' (first | ((with_reducible show nthK _ _ _); refine nPK (k) ?_; conv => whnf) | ((with_reducible show nthK _ _ _); refine nPK (k - 1) ?_; conv => whnf) | ((with_reducible first | apply kN | apply kW | apply kX | apply kG | apply kQ); (· exact sd); conv => whnf) | (refine pcase.mk ?_ ?_ <;> intro hc <;> (try rw [List.length_nil] at hc) <;> first | (exfalso; omega) | (exact absurd rfl hc) | conv => whnf) | (refine bcase_intro ?_ ?_ <;> intro hc <;> conv => whnf))
  · have h1 : cpn d (k + 1) = cpn d k := cpn_same hk0 (by assumption)
    have h2 : cpn d k = d.toList.take k := cpn_all k (by omega) hk
    obtain ⟨k, rfl⟩ : ∃ k', k = k' + 1 := ⟨k - 1, by omega⟩
    refine loop_inv (fun m env s => ∃ (k2 c w : Nat) (E : Array Int), m = len - (k + 1) - k2 ∧ 0 < k2 ∧ k + 1 + k2 ≤ len ∧ E.size = len ∧ w = (cpn d (k + 1 + k2)).length ∧ w < k + 1 + k2 ∧ E.toList.take w = cpn d (k + 1 + k2) ∧ (∀ j, k + 1 + k2 ≤ j + 1 → j < len → E[j]! = d[j]!) ∧ env = [(0, .own 0 g 0 len), (3, .int .i64 w), (4, .own 0 g (k + 1) (len - (k + 1))), (5, .int .i64 k2)] ∧ s = ⟨[.arr g 1 nn cl (vs (.int .i64) E.toList)], c⟩) ?_ _ _ _ ⟨1, _, k + 1, d, rfl, by omega, by omega, hl, by rw [h1, h2]; simp; omega, by omega, by rw [h1, h2], fun j _ _ => rfl, rfl, rfl⟩
    rintro _ _ _ ⟨k2, c, w, E, rfl, hk2, hkl, hE, hw, hwk, hW, hej, rfl, rfl⟩
    refine ⟨rfl, ?_⟩
    (conv => whnf); repeat' (first | (apply nthK_intro; (· exact nPn (k + 1 + k2) (by omega) (by first | omega | (simp; omega))); conv => whnf) | (apply nthK_intro; (· exact nPn (k + 1 + k2 - 1) (by omega) (by first | omega | (simp; omega))); conv => whnf) | ((with_reducible show nthK _ _ _); refine nPK (w) ?_; conv => whnf) | ((with_reducible show eqK _ _); refine tPK cellsI (w) ?_; conv => whnf) | ((with_reducible first | apply kN | apply kW | apply kX | apply kG | apply kQ); (· exact sd); conv => whnf) | (refine pcase.mk ?_ ?_ <;> intro hc <;> (try rw [List.length_nil] at hc) <;> first | (exfalso; omega) | (exact absurd rfl hc) | conv => whnf) | (refine bcase_intro ?_ ?_ <;> intro hc <;> conv => whnf))
    · have e1 := hej (k + 1 + k2) (by omega) (by omega)
      have e2 := hej (k + 1 + k2 - 1) (by omega) (by omega)
      rw [e1, e2] at hc
      exact again.mk ⟨_, by omega, k2 + 1, _, w, E, rfl, by omega, by omega, hE, by rw [hw, ← cpn_same (d := d) (n := k + 1 + k2) (by omega) hc]; rfl, by omega, by rw [hW, ← cpn_same (d := d) (n := k + 1 + k2) (by omega) hc]; rfl, fun j h1 h2 => hej j (by omega) h2, rfl, rfl⟩
    · have e1 := hej (k + 1 + k2) (by omega) (by omega)
      have e2 := hej (k + 1 + k2 - 1) (by omega) (by omega)
      rw [e1, e2] at hc
      have e3 : cpn d (k + 1 + (k2 + 1)) = cpn d (k + 1 + k2) ++ [d[k + 1 + k2]!] := cpn_more fun _ => hc
      refine again.mk ⟨_, by omega, k2 + 1, _, w + 1, E.setIfInBounds w E[k + 1 + k2]!, rfl, by omega, by omega, by simpa using hE, by rw [e3, List.length_append, ← hw]; rfl, by omega, ?_, fun j h1 h2 => ?_, rfl, rfl⟩
      · rw [Array.toList_setIfInBounds, List.take_succ_eq_append_getElem (by simp; omega), e3, ← hW, e1]
        simp [List.take_set_of_le]
      · rw [← hej j (by omega) h2, getElem!_pos _ j (by simp; omega), getElem!_pos E j (by omega), Array.getElem_setIfInBounds_ne (by omega) (by omega)]
    · have hk2e : k + 1 + k2 = len := by omega
      rw [hk2e] at hW hw hwk
      refine getK_intro (clr (n := len - w) rfl rfl (by simp; omega) (by omega)) ?_
      have e4 : List.take (Int.toNat (w : Int)) (vs (.int .i64) E.toList) = vs (.int .i64) (cpn d len ++ []) := by
        rw [List.append_nil, ← hW]; simp [vs, List.map_take]
      (conv => whnf); repeat' (first  | ((with_reducible first | apply kN | apply kW | apply kX | apply kG | apply kQ); (· exact sd); conv => whnf) | (refine pcase.mk ?_ ?_ <;> intro hc <;> (try rw [List.length_nil] at hc) <;> first | (exfalso; omega) | (exact absurd rfl hc) | conv => whnf) | (refine bcase_intro ?_ ?_ <;> intro hc <;> conv => whnf))
      refine ⟨c, [], by rw [← hw]; rfl, ?_⟩
      rw [← e4]
      rfl
  · exact again.mk ⟨_, by omega, k + 1, _, rfl, by omega, fun j h0 hj => by
      rcases Nat.lt_or_ge j k with h | h
      · exact hk j h0 h
      · obtain rfl : j = k := by omega
        first | exact hc | assumption, rfl, rfl⟩
  · have e := hend (fun j h0 hj => hk j h0 (by omega))
    rw [e, Array.length_toList, hl]
    exact ⟨_, [], rfl, by rw [List.append_nil]⟩

end AI
end Go.Proofs.YtbkibamoigmboaaGreatDoor
