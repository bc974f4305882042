/- Rows of up to three numbers: their order and equality. -/
import Derived.Test.YtbkibamoigmboaaGreatDoorPo0
set_option linter.unusedVariables false
set_option maxRecDepth 4000
namespace Go.Proofs.YtbkibamoigmboaaGreatDoor
namespace AI
open Go.Sort

/-- a row -/
structure GW where
  l : List Int
  h : l.length ≤ 3
def GW.av (x : GW) : AV := .sl true (ints x.l)
instance : Inhabited GW := ⟨⟨[], by simp⟩⟩
theorem GW.eq {x y : GW} (h : x.l = y.l) : x = y := by cases x; cases y; simp only at h; subst h; rfl
instance : DecidableEq GW := fun x y => if h : x.l = y.l then .isTrue (GW.eq h) else .isFalse (by rintro rfl; exact h rfl)
theorem cellsW (x : GW) : x.av.cells.length = 1 := rfl

def cmpL : List Int → List Int → Int
  | [], [] => 0
  | [], _ :: _ => -1
  | _ :: _, [] => 1
  | a :: x, b :: y => fst0 (cmpI a b) (cmpL x y)
theorem cmpL_anti : ∀ x y, cmpL y x = - cmpL x y
  | [], [] => rfl
  | [], _ :: _ => rfl
  | _ :: _, [] => rfl
  | a :: x, b :: y => by
    have h1 := pc_int.anti a b
    have h2 := cmpL_anti x y
    simp only [cmpL, fst0]
    split <;> split <;> omega
theorem cmpL_trans : ∀ x y z, cmpL x y ≤ 0 → cmpL y z ≤ 0 → cmpL x z ≤ 0
  | [], _, [], _, _ => Int.le_refl 0
  | [], _, _ :: _, _, _ => by show (-1 : Int) ≤ 0; omega
  | _ :: _, [], _, h, _ => absurd h (by show ¬ (1 : Int) ≤ 0; omega)
  | _ :: _, _ :: _, [], _, h => absurd h (by show ¬ (1 : Int) ≤ 0; omega)
  | a :: x, b :: y, c :: z, h1, h2 => by
    have ih := cmpL_trans x y z
    have a1 := pc_int.trans a b c
    have a2 := pc_int.trans b c a
    have a3 := pc_int.trans c a b
    have b1 := pc_int.anti a b
    have b2 := pc_int.anti b c
    have b3 := pc_int.anti a c
    simp only [cmpL, fst0] at *
    split at h1 <;> split at h2 <;> split <;> omega
theorem cmpL_zero : ∀ {x y : List Int}, cmpL x y = 0 ↔ x = y
  | [], [] => by simp [cmpL]
  | [], _ :: _ => by simp [cmpL]
  | _ :: _, [] => by simp [cmpL]
  | a :: x, b :: y => by
    have ih := cmpL_zero (x := x) (y := y)
    have h := cmpI_zero (x := a) (y := b)
    simp only [cmpL, fst0_zero, List.cons.injEq, ih, h]
theorem pc_row : PC cmpL := ⟨cmpL_anti, cmpL_trans⟩
def ltW (x y : GW) : Bool := decide (cmpL x.l y.l < 0)
theorem ltW_swo : SWO ltW := (pc_row.on GW.l).swo
theorem ltW_iff {x y : GW} : ltW x y = true ↔ cmpL x.l y.l < 0 := by unfold ltW; rw [decide_eq_true_eq]
theorem ltW_tot (x y : GW) (h1 : ltW x y = false) (h2 : ltW y x = false) : x = y := by
  unfold ltW at h1 h2
  have a := of_decide_eq_false h1
  have b := of_decide_eq_false h2
  have := cmpL_anti x.l y.l
  exact GW.eq (cmpL_zero.1 (by omega))
theorem pcaseW {x y : GW} {A B : Prop} (h1 : ltW x y = true → A) (h2 : ltW x y = false → B) : pcase (cmpL x.l y.l < 0) A B :=
  ⟨fun h => h1 (decide_eq_true h), fun h => h2 (decide_eq_false h)⟩

theorem compareL {x y : List Int} (hx : x.length ≤ 3) (hy : y.length ≤ 3) : PureP (findFn tab) 79 [.sl true (ints x), .sl true (ints y)] (· = .int .i64 (cmpL x y)) := by
  refine pureP_of rfl rfl ?_
  (conv => whnf); repeat' (first  | ((with_reducible first | apply kN | apply kW | apply kX | apply kG | apply kQ); (· exact sd); conv => whnf) | (refine pcase.mk ?_ ?_ <;> intro hc <;> (try rw [List.length_nil] at hc) <;> first | (exfalso; omega) | (exact absurd rfl hc) | conv => whnf) | (refine bcase_intro ?_ ?_ <;> intro hc <;> conv => whnf))
  refine loop_inv (fun m env s => ∃ i : Nat, m = x.length - i ∧ i ≤ x.length ∧ i ≤ y.length ∧ cmpL (x.drop i) (y.drop i) = cmpL x y ∧ env = [(0, .sl true (ints x)), (1, .sl true (ints y)), (9, .sl true (ints x)), (10, .int .i64 x.length), (11, .int .i64 i)] ∧ s = ⟨[], 0⟩) ?_ _ _ _ ⟨0, rfl, by omega, by omega, by simp, by first | rfl | (rw [← lI x]; rfl), rfl⟩
  rintro _ _ _ ⟨i, rfl, hi, hj, hc0, rfl, rfl⟩
  refine ⟨rfl, ?_⟩
  by_cases hlt : i < x.length
  · by_cases hly : i < y.length
    · rw [List.drop_eq_getElem_cons hlt, List.drop_eq_getElem_cons hly, cmpL, fst0] at hc0
      (conv => whnf); repeat' (first | (refine callK_of compare ?_; rintro _ rfl; conv => whnf) | ((with_reducible first | apply kN | apply kW | apply kX | apply kG | apply kQ); (· exact sd); conv => whnf) | (refine pcase.mk ?_ ?_ <;> intro hc <;> (try rw [List.length_nil] at hc) <;> first | (exfalso; omega) | (exact absurd rfl hc) | conv => whnf) | (refine bcase_intro ?_ ?_ <;> intro hc <;> conv => whnf))
      all_goals first
        | (rw [if_neg (by assumption)] at hc0; rw [← hc0]; rfl)
        | (rw [if_pos (by assumption)] at hc0; exact again.mk ⟨_, by omega, i + 1, rfl, by omega, by omega, hc0, rfl, rfl⟩)
        | (trace_state; fail "cmpL1")
    · rw [List.drop_eq_getElem_cons hlt, (List.drop_eq_nil_of_le (by omega) : y.drop i = []), cmpL] at hc0
      (conv => whnf); repeat' (first  | ((with_reducible first | apply kN | apply kW | apply kX | apply kG | apply kQ); (· exact sd); conv => whnf) | (refine pcase.mk ?_ ?_ <;> intro hc <;> (try rw [List.length_nil] at hc) <;> first | (exfalso; omega) | (exact absurd rfl hc) | conv => whnf) | (refine bcase_intro ?_ ?_ <;> intro hc <;> conv => whnf))
      all_goals first | (rw [← hc0]; rfl) | (trace_state; fail "cmpL2")
  · rw [(List.drop_eq_nil_of_le (by omega) : x.drop i = [])] at hc0
    by_cases hly : i < y.length
    · rw [List.drop_eq_getElem_cons hly, cmpL] at hc0
      (conv => whnf); repeat' (first  | ((with_reducible first | apply kN | apply kW | apply kX | apply kG | apply kQ); (· exact sd); conv => whnf) | (refine pcase.mk ?_ ?_ <;> intro hc <;> (try rw [List.length_nil] at hc) <;> first | (exfalso; omega) | (exact absurd rfl hc) | conv => whnf) | (refine bcase_intro ?_ ?_ <;> intro hc <;> conv => whnf))
      all_goals first | (rw [← hc0]; rfl) | (exfalso; omega) | (trace_state; fail "cmpL3")
    · rw [(List.drop_eq_nil_of_le (by omega) : y.drop i = []), cmpL] at hc0
      (conv => whnf); repeat' (first  | ((with_reducible first | apply kN | apply kW | apply kX | apply kG | apply kQ); (· exact sd); conv => whnf) | (refine pcase.mk ?_ ?_ <;> intro hc <;> (try rw [List.length_nil] at hc) <;> first | (exfalso; omega) | (exact absurd rfl hc) | conv => whnf) | (refine bcase_intro ?_ ?_ <;> intro hc <;> conv => whnf))
      all_goals first | (rw [← hc0]; rfl) | (exfalso; omega) | (trace_state; fail "cmpL4")
theorem compareW {x y : GW} : PureP (findFn tab) 79 [x.av, y.av] (· = .int .i64 (cmpL x.l y.l)) := compareL x.h y.h

theorem take_ext {x y : List Int} {i : Nat} (hx : i < x.length) (hy : i < y.length) (h : x.take i = y.take i) (h2 : x[i] = y[i]) : x.take (i + 1) = y.take (i + 1) := by
  rw [List.take_succ_eq_append_getElem hx, List.take_succ_eq_append_getElem hy, h, h2]
theorem equalRows {x y : List Int} (hx : x.length ≤ 3) (hy : y.length ≤ 3) : PureP (findFn tab) 81 [.sl true (ints x), .sl true (ints y)] (· = .bool (decide (x = y))) := by
  by_cases hl : x.length = y.length
  case neg =>
    refine pureP_of rfl rfl ?_
    (conv => whnf); repeat' (first  | ((with_reducible first | apply kN | apply kW | apply kX | apply kG | apply kQ); (· exact sd); conv => whnf) | (refine pcase.mk ?_ ?_ <;> intro hc <;> (try rw [List.length_nil] at hc) <;> first | (exfalso; omega) | (exact absurd rfl hc) | conv => whnf) | (refine bcase_intro ?_ ?_ <;> intro hc <;> conv => whnf))
    all_goals first | exact bool_f (fun h => hl (by rw [h])) | (exfalso; omega) | (trace_state; fail "eqW0")
  refine pureP_of rfl rfl ?_
  (conv => whnf); repeat' (first  | ((with_reducible first | apply kN | apply kW | apply kX | apply kG | apply kQ); (· exact sd); conv => whnf) | (refine pcase.mk ?_ ?_ <;> intro hc <;> (try rw [List.length_nil] at hc) <;> first | (exfalso; omega) | (exact absurd rfl hc) | conv => whnf) | (refine bcase_intro ?_ ?_ <;> intro hc <;> conv => whnf))
  all_goals first | (exfalso; omega) | skip
  refine loop_inv (fun m env s => ∃ i : Nat, m = x.length - i ∧ i ≤ x.length ∧ x.take i = y.take i ∧ env = [(0, .sl true (ints x)), (1, .sl true (ints y)), (12, .int .i64 x.length), (13, .int .i64 i)] ∧ s = ⟨[], 0⟩) ?_ _ _ _ ⟨0, rfl, by omega, by simp, by first | rfl | (rw [← lI x]; rfl), rfl⟩
  rintro _ _ _ ⟨i, rfl, hi, ht, rfl, rfl⟩
  refine ⟨rfl, ?_⟩
  by_cases hlt : i < x.length
  · have hly : i < y.length := by omega
    (conv => whnf); repeat' (first  | ((with_reducible first | apply kN | apply kW | apply kX | apply kG | apply kQ); (· exact sd); conv => whnf) | (refine pcase.mk ?_ ?_ <;> intro hc <;> (try rw [List.length_nil] at hc) <;> first | (exfalso; omega) | (exact absurd rfl hc) | conv => whnf) | (refine bcase_intro ?_ ?_ <;> intro hc <;> conv => whnf))
    all_goals first
      | exact again.mk ⟨_, by omega, i + 1, rfl, by omega, take_ext hlt hly ht (by assumption), rfl, rfl⟩
      | exact bool_f (fun h => by subst h; omega)
      | (trace_state; fail "eqW1")
  · rw [List.take_of_length_le (by omega), List.take_of_length_le (by omega)] at ht
    (conv => whnf); repeat' (first  | ((with_reducible first | apply kN | apply kW | apply kX | apply kG | apply kQ); (· exact sd); conv => whnf) | (refine pcase.mk ?_ ?_ <;> intro hc <;> (try rw [List.length_nil] at hc) <;> first | (exfalso; omega) | (exact absurd rfl hc) | conv => whnf) | (refine bcase_intro ?_ ?_ <;> intro hc <;> conv => whnf))
    all_goals first | exact bool_t ht | (trace_state; fail "eqW2")
theorem eqW {x y : GW} : PureP (findFn tab) 81 [x.av, y.av] (· = .bool (decide (x = y))) := by
  have h := equalRows x.h y.h
  have e : decide (x.l = y.l) = decide (x = y) := by
    rw [decide_eq_decide]
    exact ⟨GW.eq, fun h => by rw [h]⟩
  rw [e] at h
  exact h

attribute [irreducible] ltW

end AI
end Go.Proofs.YtbkibamoigmboaaGreatDoor
