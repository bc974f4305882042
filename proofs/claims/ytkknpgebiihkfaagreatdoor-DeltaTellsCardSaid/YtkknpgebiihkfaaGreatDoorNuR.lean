/- The reference's order of a value and null. -/
import Derived.Test.YtkknpgebiihkfaaGreatDoorFR1
import Derived.Test.YtkknpgebiihkfaaGreatDoorOV1
import Derived.Test.YtkknpgebiihkfaaGreatDoorNu0
set_option linter.unusedVariables false
set_option maxRecDepth 4000
namespace Go.Proofs.YtkknpgebiihkfaaGreatDoor
namespace AI

/-- the class of a kind -/
def clsR (k : Int) : Int := if k = 0 then 0 else if k = 1 then 1 else if k = 2 ∨ k = 3 then 2 else if k = 4 then 3 else if k = 5 then 4 else if k = 6 then 5 else if k = 8 then 6 else 7
theorem clsR0 {k : Int} : clsR k = 0 ↔ k = 0 := by
  unfold clsR
  constructor
  · intro h
    repeat' split at h
    all_goals first | assumption | (exfalso; omega)
  · intro h; rw [if_pos h]
theorem classR {k : Int} : PureP (findFn tab) 84 [.int .i64 k] (· = .int .i64 (clsR k)) := by
  refine pureP_of rfl rfl ?_
  (conv => whnf); repeat' (first  | ((with_reducible first | apply kN | apply kW | apply kX | apply kG | apply kQ); (· exact sd); conv => whnf) | (refine pcase.mk ?_ ?_ <;> intro hc <;> (try rw [List.length_nil] at hc) <;> first | (exfalso; omega) | (exact absurd rfl hc) | conv => whnf) | (refine bcase_intro ?_ ?_ <;> intro hc <;> conv => whnf))
  all_goals first
    | rfl
    | (unfold clsR; repeat' split
       all_goals first | rfl | (exfalso; omega))

theorem validK0 {v : GV} (hv : v.ok) (hk : v.k = 0) {n : Int} : PureP (findFn tab) 114 [v.av, .int .i64 n] (· = .bool (decide (isNull v))) := by
  have hl := hv.2.2.2.2.1
  unfold Ln at hl
  refine pureP_of rfl rfl ?_
  (conv => whnf); repeat' (first | (refine callB (bareE (v := v) (n := false) (d := false) (s := false) (l := false) hl) (fun hb => ?_) (fun hb => ?_) <;> conv => whnf) | ((with_reducible first | apply kN | apply kW | apply kX | apply kG | apply kQ); (· exact sd); conv => whnf) | (refine pcase.mk ?_ ?_ <;> intro hc <;> (try rw [List.length_nil] at hc) <;> first | (exfalso; omega) | (exact absurd rfl hc) | conv => whnf) | (refine bcase_intro ?_ ?_ <;> intro hc <;> conv => whnf))
  · unfold bareP at hb
    exact bool_t ⟨hk, hb.1.resolve_left (by decide), hb.2.1.resolve_left (by decide), hb.2.2.1.resolve_left (by decide), hb.2.2.2.resolve_left (by decide)⟩
  · unfold bareP at hb
    exact bool_f fun h => hb ⟨.inr h.2.1, .inr h.2.2.1, .inr h.2.2.2.1, .inr h.2.2.2.2⟩

theorem validRN {v : GV} (hv : v.ok) : PureP (findFn tab) 80 [v.av] (fun w => ∃ b, w = .bool b ∧ (isNull v → b = true) ∧ (b = true → v.k = 0 → isNull v)) := by
  by_cases hk : v.k = 0
  · refine pureP_of rfl rfl ?_
    (conv => whnf); repeat' (first | (refine callB (validK0 hv hk) (fun hb => ?_) (fun hb => ?_) <;> conv => whnf) | ((with_reducible first | apply kN | apply kW | apply kX | apply kG | apply kQ); (· exact sd); conv => whnf) | (refine pcase.mk ?_ ?_ <;> intro hc <;> (try rw [List.length_nil] at hc) <;> first | (exfalso; omega) | (exact absurd rfl hc) | conv => whnf) | (refine bcase_intro ?_ ?_ <;> intro hc <;> conv => whnf))
    · exact ⟨_, rfl, fun _ => rfl, fun _ _ => hb⟩
    · exact ⟨_, rfl, fun h => absurd h hb, fun h => Bool.noConfusion h⟩
  · obtain ⟨_, ⟨b, rfl⟩, h⟩ := (Valid hv).det
    refine pureP_of rfl rfl ?_
    (conv => whnf); repeat' (first | (refine callK_of (valid (n := 8) (by omega) hv) ?_; rintro _ ⟨b, rfl⟩; conv => whnf) | ((with_reducible first | apply kN | apply kW | apply kX | apply kG | apply kQ); (· exact sd); conv => whnf) | (refine pcase.mk ?_ ?_ <;> intro hc <;> (try rw [List.length_nil] at hc) <;> first | (exfalso; omega) | (exact absurd rfl hc) | conv => whnf) | (refine bcase_intro ?_ ?_ <;> intro hc <;> conv => whnf))
    all_goals exact ⟨_, rfl, fun h => absurd h.1 hk, fun _ h => absurd h hk⟩

theorem intsR {a b : Int} : PureP (findFn tab) 83 [.int .i64 a, .int .i64 b] (fun v => ∃ z, v = .int .i64 z ∧ (z = 0 ↔ a = b)) := by
  refine pureP_of rfl rfl ?_
  (conv => whnf); repeat' (first  | ((with_reducible first | apply kN | apply kW | apply kX | apply kG | apply kQ); (· exact sd); conv => whnf) | (refine pcase.mk ?_ ?_ <;> intro hc <;> (try rw [List.length_nil] at hc) <;> first | (exfalso; omega) | (exact absurd rfl hc) | conv => whnf) | (refine bcase_intro ?_ ?_ <;> intro hc <;> conv => whnf))
  all_goals exact ⟨_, rfl, by omega⟩

theorem fieldsZ {v : GV} (h : isNull v) : PureP (findFn tab) 82 [v.av, gv0.av] (· = .int .i64 0) := by
  obtain ⟨k, n, d, s, nn, l⟩ := v
  obtain ⟨h1, h2, h3, h4, h5⟩ := h
  dsimp only at h1 h2 h3 h4 h5
  subst h1 h2 h3 h4
  obtain rfl : l = [] := List.eq_nil_of_length_eq_zero h5
  have hl : PureP (findFn tab) 116 [.sl nn [], .sl false []] (· = .int .i64 0) := by
    refine pureP_of rfl rfl ?_
    (conv => whnf); repeat' (first  | ((with_reducible first | apply kN | apply kW | apply kX | apply kG | apply kQ); (· exact sd); conv => whnf) | (refine pcase.mk ?_ ?_ <;> intro hc <;> (try rw [List.length_nil] at hc) <;> first | (exfalso; omega) | (exact absurd rfl hc) | conv => whnf) | (refine bcase_intro ?_ ?_ <;> intro hc <;> conv => whnf))
    refine loop_inv (fun m env s => m = 0 ∧ env = [(0, .sl nn []), (1, .sl false []), (5, .int .i64 0)] ∧ s = ⟨[], 0⟩) ?_ _ _ _ ⟨rfl, rfl, rfl⟩
    rintro _ _ _ ⟨rfl, rfl, rfl⟩
    refine ⟨rfl, ?_⟩
    (conv => whnf); repeat' (first | (refine callK_of ints0 ?_; rintro _ rfl; conv => whnf) | ((with_reducible first | apply kN | apply kW | apply kX | apply kG | apply kQ); (· exact sd); conv => whnf) | (refine pcase.mk ?_ ?_ <;> intro hc <;> (try rw [List.length_nil] at hc) <;> first | (exfalso; omega) | (exact absurd rfl hc) | conv => whnf) | (refine bcase_intro ?_ ?_ <;> intro hc <;> conv => whnf))
    all_goals rfl
  refine pureP_of rfl rfl ?_
  (conv => whnf); repeat' (first | (refine callK_of ints0 ?_; rintro _ rfl; conv => whnf) | (refine callK_of strs0 ?_; rintro _ rfl; conv => whnf) | (refine callK_of hl ?_; rintro _ rfl; conv => whnf) | ((with_reducible first | apply kN | apply kW | apply kX | apply kG | apply kQ); (· exact sd); conv => whnf) | (refine pcase.mk ?_ ?_ <;> intro hc <;> (try rw [List.length_nil] at hc) <;> first | (exfalso; omega) | (exact absurd rfl hc) | conv => whnf) | (refine bcase_intro ?_ ?_ <;> intro hc <;> conv => whnf))
  all_goals rfl

theorem numberR {g : GV} (hg : g.ok) : PureP (findFn tab) 85 [g.av] (fun v => ∃ n d b, v = .tup [.agg [.int .i64 n, .int .i64 d], .bool b] ∧ (b = true → g.k = 2 ∨ g.k = 3)) := by
  refine pureP_of rfl rfl ?_
  (conv => whnf); repeat' (first | (refine callK_of (Valid hg) ?_; rintro _ ⟨b, rfl⟩; conv => whnf) | ((with_reducible first | apply kN | apply kW | apply kX | apply kG | apply kQ); (· exact sd); conv => whnf) | (refine pcase.mk ?_ ?_ <;> intro hc <;> (try rw [List.length_nil] at hc) <;> first | (exfalso; omega) | (exact absurd rfl hc) | conv => whnf) | (refine bcase_intro ?_ ?_ <;> intro hc <;> conv => whnf))
  all_goals first | exact ⟨_, _, _, rfl, fun h => Bool.noConfusion h⟩ | exact ⟨_, _, _, rfl, fun _ => by omega⟩

theorem yesF : PureP (findFn tab) 81 [.bool false] (· = .int .i64 0) := by
  refine pureP_of rfl rfl ?_
  (conv => whnf); repeat' (first  | ((with_reducible first | apply kN | apply kW | apply kX | apply kG | apply kQ); (· exact sd); conv => whnf) | (refine pcase.mk ?_ ?_ <;> intro hc <;> (try rw [List.length_nil] at hc) <;> first | (exfalso; omega) | (exact absurd rfl hc) | conv => whnf) | (refine bcase_intro ?_ ?_ <;> intro hc <;> conv => whnf))
  rfl

/-- a value is like null where it is null -/
theorem orderRN {v : GV} (hv : v.ok) : PureP (findFn tab) 53 [v.av, gv0.av] (fun w => ∃ z, w = .int .i64 z ∧ (z = 0 ↔ isNull v)) := by
  obtain ⟨_, ⟨b, rfl, v1, v2⟩, hV⟩ := (validRN hv).det
  obtain ⟨_, ⟨b0, rfl, w1, _⟩, hV0⟩ := (validRN gv0_ok).det
  obtain rfl := w1 null_gv0
  obtain ⟨_, ⟨n, d, b2, rfl, h2⟩, hN⟩ := (numberR hv).det
  obtain ⟨_, ⟨n0, d0, b3, rfl, h3⟩, hN0⟩ := (numberR gv0_ok).det
  obtain ⟨_, ⟨z, rfl, hz⟩, hI⟩ := (intsR (a := clsR v.k) (b := clsR gv0.k)).det
  have h0 : clsR gv0.k = 0 := rfl
  have hzk : z = 0 ↔ v.k = 0 := by rw [hz, h0]; exact clsR0
  cases b with
  | false =>
    have hnn : ¬ isNull v := fun h => by have := v1 h; cases this
    refine pureP_of rfl rfl ?_
    (conv => whnf); repeat' (first | (refine callK_of hV ?_; rintro _ rfl; conv => whnf) | (refine callK_of hV0 ?_; rintro _ rfl; conv => whnf) | (refine callK_of yesF ?_; rintro _ rfl; conv => whnf) | ((with_reducible first | apply kN | apply kW | apply kX | apply kG | apply kQ); (· exact sd); conv => whnf) | (refine pcase.mk ?_ ?_ <;> intro hc <;> (try rw [List.length_nil] at hc) <;> first | (exfalso; omega) | (exact absurd rfl hc) | conv => whnf) | (refine bcase_intro ?_ ?_ <;> intro hc <;> conv => whnf))
    all_goals exact ⟨_, rfl, fun h => absurd h (by decide), fun h => absurd h hnn⟩
  | true =>
    by_cases hk : v.k = 0
    · have hnl := v2 rfl hk
      have hz0 := hzk.2 hk
      have hb2 : b2 = false := by cases b2 with
        | false => rfl
        | true => have := h2 rfl; omega
      subst hb2
      refine pureP_of rfl rfl ?_
      (conv => whnf); repeat' (first | (refine callK_of hV ?_; rintro _ rfl; conv => whnf) | (refine callK_of hV0 ?_; rintro _ rfl; conv => whnf) | (refine callK_of (classR (k := v.k)) ?_; rintro _ rfl; conv => whnf) | (refine callK_of (classR (k := gv0.k)) ?_; rintro _ rfl; conv => whnf) | (refine callK_of hI ?_; rintro _ rfl; conv => whnf) | (refine callK_of hN ?_; rintro _ rfl; conv => whnf) | (refine callK_of hN0 ?_; rintro _ rfl; conv => whnf) | (refine callK_of (fieldsZ hnl) ?_; rintro _ rfl; conv => whnf) | ((with_reducible first | apply kN | apply kW | apply kX | apply kG | apply kQ); (· exact sd); conv => whnf) | (refine pcase.mk ?_ ?_ <;> intro hc <;> (try rw [List.length_nil] at hc) <;> first | (exfalso; omega) | (exact absurd rfl hc) | conv => whnf) | (refine bcase_intro ?_ ?_ <;> intro hc <;> conv => whnf))
      all_goals exact ⟨_, rfl, fun _ => hnl, fun _ => rfl⟩
    · have hz0 := mt hzk.1 hk
      refine pureP_of rfl rfl ?_
      (conv => whnf); repeat' (first | (refine callK_of hV ?_; rintro _ rfl; conv => whnf) | (refine callK_of hV0 ?_; rintro _ rfl; conv => whnf) | (refine callK_of (classR (k := v.k)) ?_; rintro _ rfl; conv => whnf) | (refine callK_of (classR (k := gv0.k)) ?_; rintro _ rfl; conv => whnf) | (refine callK_of hI ?_; rintro _ rfl; conv => whnf) | ((with_reducible first | apply kN | apply kW | apply kX | apply kG | apply kQ); (· exact sd); conv => whnf) | (refine pcase.mk ?_ ?_ <;> intro hc <;> (try rw [List.length_nil] at hc) <;> first | (exfalso; omega) | (exact absurd rfl hc) | conv => whnf) | (refine bcase_intro ?_ ?_ <;> intro hc <;> conv => whnf))
      all_goals exact ⟨_, rfl, fun h => absurd h hz0, fun h => absurd h.1 hk⟩

end AI
end Go.Proofs.YtkknpgebiihkfaaGreatDoor
