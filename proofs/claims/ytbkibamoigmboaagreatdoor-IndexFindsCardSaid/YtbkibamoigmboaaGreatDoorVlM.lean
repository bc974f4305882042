/- Values compared: less, at most, null: the program's way and the reference's. -/
import Derived.Test.YtbkibamoigmboaaGreatDoorVL1
import Derived.Test.YtbkibamoigmboaaGreatDoorNU1
set_option linter.unusedVariables false
set_option maxRecDepth 4000
namespace Go.Proofs.YtbkibamoigmboaaGreatDoor
namespace AI

theorem less_tvT {x y : List UInt8} (h : Op.bytesLess x y = true) : AV.int .i64 2 = .int .i64 (tv (Op.bytesLess x y = true)) := tvT h
theorem less_tvF {x y : List UInt8} (h : Op.bytesLess x y = false) : AV.int .i64 0 = .int .i64 (tv (Op.bytesLess x y = true)) := tvF (by rw [h]; exact Bool.noConfusion)

/-- Less of any two values -/
theorem LessB {a b : GV} (ha : a.ok) (hb : b.ok) : ∃ e : Int, PureP (findFn tab) 36 [a.av, b.av] (· = .int .i64 e) ∧ PureP (findFn tab) 94 [a.av, b.av] (· = .int .i64 e) := by
  by_cases hn : isN a ∧ isN b
  · have p1 := nP1 ha hn.1
    have p2 := nP1 hb hn.2
    have q1 := nR1 ha hn.1
    have q2 := nR1 hb hn.2
    have r1 := vR ha hn.1.1
    have r2 := vR hb hn.2.1
    have c1 := cmpP (isN_VF hn.1) (isN_VF hn.2)
    have c2 := cmpR3 (isN_VF hn.1) (isN_VF hn.2)
    refine ⟨tv (sgn (a.n * dn b - b.n * dn a) < 0), ?_, ?_⟩
    · refine pureP_of rfl rfl ?_
      (conv => whnf); repeat' (first | (refine callK_of p1 ?_; rintro _ rfl; conv => whnf) | (refine callK_of p2 ?_; rintro _ rfl; conv => whnf) | (refine callK_of c1 ?_; rintro _ rfl; conv => whnf) | (refine callK_of truthT ?_; rintro _ rfl; conv => whnf) | (refine callK_of truthF ?_; rintro _ rfl; conv => whnf) | ((with_reducible first | apply kN | apply kW | apply kX | apply kG | apply kQ); (· exact sd); conv => whnf) | (refine pcase.mk ?_ ?_ <;> intro hc <;> (try rw [List.length_nil] at hc) <;> first | (exfalso; omega) | (exact absurd rfl hc) | conv => whnf) | (refine bcase_intro ?_ ?_ <;> intro hc <;> conv => whnf))
      all_goals first | exact tvT (by assumption) | exact tvF (by assumption) | (trace_state; fail "LeN")
    · refine pureP_of rfl rfl ?_
      (conv => whnf); repeat' (first | (refine callK_of q1 ?_; rintro _ rfl; conv => whnf) | (refine callK_of q2 ?_; rintro _ rfl; conv => whnf) | (refine callK_of r1 ?_; rintro _ rfl; conv => whnf) | (refine callK_of r2 ?_; rintro _ rfl; conv => whnf) | (refine callK_of c2 ?_; rintro _ rfl; conv => whnf) | (refine callK_of yesT ?_; rintro _ rfl; conv => whnf) | (refine callK_of yesF' ?_; rintro _ rfl; conv => whnf) | ((with_reducible first | apply kN | apply kW | apply kX | apply kG | apply kQ); (· exact sd); conv => whnf) | (refine pcase.mk ?_ ?_ <;> intro hc <;> (try rw [List.length_nil] at hc) <;> first | (exfalso; omega) | (exact absurd rfl hc) | conv => whnf) | (refine bcase_intro ?_ ?_ <;> intro hc <;> conv => whnf))
      all_goals first | exact tvT (by assumption) | exact tvF (by assumption) | (trace_state; fail "LeNR")
  obtain ⟨x1, y1, b1, e1, p1⟩ : ∃ x y t, (isN a ↔ t = true) ∧ PureP (findFn tab) 72 [a.av] (· = .tup [.agg [.int .i64 x, .int .i64 y], .bool t]) := by
    by_cases h : isN a
    · exact ⟨_, _, true, by simp [h], nP1 ha h⟩
    · exact ⟨_, _, false, by simp [h], nP0 ha h⟩
  obtain ⟨x2, y2, b2, e2, p2⟩ : ∃ x y t, (isN b ↔ t = true) ∧ PureP (findFn tab) 72 [b.av] (· = .tup [.agg [.int .i64 x, .int .i64 y], .bool t]) := by
    by_cases h : isN b
    · exact ⟨_, _, true, by simp [h], nP1 hb h⟩
    · exact ⟨_, _, false, by simp [h], nP0 hb h⟩
  obtain ⟨x3, y3, b3, e3, q1⟩ : ∃ x y t, (isN a ↔ t = true) ∧ PureP (findFn tab) 90 [a.av] (· = .tup [.agg [.int .i64 x, .int .i64 y], .bool t]) := by
    by_cases h : isN a
    · exact ⟨_, _, true, by simp [h], nR1 ha h⟩
    · exact ⟨_, _, false, by simp [h], nR0 ha h⟩
  obtain ⟨x4, y4, b4, e4, q2⟩ : ∃ x y t, (isN b ↔ t = true) ∧ PureP (findFn tab) 90 [b.av] (· = .tup [.agg [.int .i64 x, .int .i64 y], .bool t]) := by
    by_cases h : isN b
    · exact ⟨_, _, true, by simp [h], nR1 hb h⟩
    · exact ⟨_, _, false, by simp [h], nR0 hb h⟩
  obtain rfl : b1 = b3 := by rw [e1] at e3; exact Bool.eq_iff_iff.2 e3
  obtain rfl : b2 = b4 := by rw [e2] at e4; exact Bool.eq_iff_iff.2 e4
  rw [e1, e2] at hn
  have hnb : b1 = false ∨ b2 = false := by cases b1 <;> cases b2 <;> simp_all
  clear e1 e2 e3 e4 hn
  by_cases va : VV 8 a
  case neg =>
    have v1 := vPn ha va
    have w1 := vRn ha va
    refine ⟨1, ?_, ?_⟩
    · rcases hnb with rfl | rfl
      · refine pureP_of rfl rfl ?_
        (conv => whnf); repeat' (first | (refine callK_of p1 ?_; rintro _ rfl; conv => whnf) | (refine callK_of p2 ?_; rintro _ rfl; conv => whnf) | (refine callK_of v1 ?_; rintro _ rfl; conv => whnf) | ((with_reducible first | apply kN | apply kW | apply kX | apply kG | apply kQ); (· exact sd); conv => whnf) | (refine pcase.mk ?_ ?_ <;> intro hc <;> (try rw [List.length_nil] at hc) <;> first | (exfalso; omega) | (exact absurd rfl hc) | conv => whnf) | (refine bcase_intro ?_ ?_ <;> intro hc <;> conv => whnf))
        all_goals first | rfl | (trace_state; fail "Le1")
      · cases b1
        all_goals
          refine pureP_of rfl rfl ?_
          (conv => whnf); repeat' (first | (refine callK_of p1 ?_; rintro _ rfl; conv => whnf) | (refine callK_of p2 ?_; rintro _ rfl; conv => whnf) | (refine callK_of v1 ?_; rintro _ rfl; conv => whnf) | ((with_reducible first | apply kN | apply kW | apply kX | apply kG | apply kQ); (· exact sd); conv => whnf) | (refine pcase.mk ?_ ?_ <;> intro hc <;> (try rw [List.length_nil] at hc) <;> first | (exfalso; omega) | (exact absurd rfl hc) | conv => whnf) | (refine bcase_intro ?_ ?_ <;> intro hc <;> conv => whnf))
          all_goals first | rfl | (trace_state; fail "Le1b")
    · refine pureP_of rfl rfl ?_
      (conv => whnf); repeat' (first | (refine callK_of w1 ?_; rintro _ rfl; conv => whnf) | ((with_reducible first | apply kN | apply kW | apply kX | apply kG | apply kQ); (· exact sd); conv => whnf) | (refine pcase.mk ?_ ?_ <;> intro hc <;> (try rw [List.length_nil] at hc) <;> first | (exfalso; omega) | (exact absurd rfl hc) | conv => whnf) | (refine bcase_intro ?_ ?_ <;> intro hc <;> conv => whnf))
      all_goals first | rfl | (trace_state; fail "Le1R")
  by_cases vb : VV 8 b
  case neg =>
    have v1 := vP ha va
    have w1 := vR ha va
    have v2 := vPn hb vb
    have w2 := vRn hb vb
    refine ⟨1, ?_, ?_⟩
    · rcases hnb with rfl | rfl
      · refine pureP_of rfl rfl ?_
        (conv => whnf); repeat' (first | (refine callK_of p1 ?_; rintro _ rfl; conv => whnf) | (refine callK_of p2 ?_; rintro _ rfl; conv => whnf) | (refine callK_of v1 ?_; rintro _ rfl; conv => whnf) | (refine callK_of v2 ?_; rintro _ rfl; conv => whnf) | ((with_reducible first | apply kN | apply kW | apply kX | apply kG | apply kQ); (· exact sd); conv => whnf) | (refine pcase.mk ?_ ?_ <;> intro hc <;> (try rw [List.length_nil] at hc) <;> first | (exfalso; omega) | (exact absurd rfl hc) | conv => whnf) | (refine bcase_intro ?_ ?_ <;> intro hc <;> conv => whnf))
        all_goals first | rfl | (trace_state; fail "Le2")
      · cases b1
        all_goals
          refine pureP_of rfl rfl ?_
          (conv => whnf); repeat' (first | (refine callK_of p1 ?_; rintro _ rfl; conv => whnf) | (refine callK_of p2 ?_; rintro _ rfl; conv => whnf) | (refine callK_of v1 ?_; rintro _ rfl; conv => whnf) | (refine callK_of v2 ?_; rintro _ rfl; conv => whnf) | ((with_reducible first | apply kN | apply kW | apply kX | apply kG | apply kQ); (· exact sd); conv => whnf) | (refine pcase.mk ?_ ?_ <;> intro hc <;> (try rw [List.length_nil] at hc) <;> first | (exfalso; omega) | (exact absurd rfl hc) | conv => whnf) | (refine bcase_intro ?_ ?_ <;> intro hc <;> conv => whnf))
          all_goals first | rfl | (trace_state; fail "Le2b")
    · refine pureP_of rfl rfl ?_
      (conv => whnf); repeat' (first | (refine callK_of w1 ?_; rintro _ rfl; conv => whnf) | (refine callK_of w2 ?_; rintro _ rfl; conv => whnf) | ((with_reducible first | apply kN | apply kW | apply kX | apply kG | apply kQ); (· exact sd); conv => whnf) | (refine pcase.mk ?_ ?_ <;> intro hc <;> (try rw [List.length_nil] at hc) <;> first | (exfalso; omega) | (exact absurd rfl hc) | conv => whnf) | (refine bcase_intro ?_ ?_ <;> intro hc <;> conv => whnf))
      all_goals first | rfl | (trace_state; fail "Le2R")
  have v1 := vP ha va
  have w1 := vR ha va
  have v2 := vP hb vb
  have w2 := vR hb vb
  obtain ⟨e, he⟩ : ∃ e, e = if a.k ≠ b.k then 1 else if a.k = 4 then tv (Op.bytesLess a.s b.s = true) else if a.k = 1 then tv (a.n < b.n) else 1 := ⟨_, rfl⟩
  have fin : ∀ x : Int, x = e → AV.int .i64 x = .int .i64 e := fun x h => by rw [h]
  have g0 : a.k ≠ b.k → 1 = e := fun h => by rw [he, if_pos h]
  have g1 : a.k = b.k → a.k = 4 → Op.bytesLess a.s b.s = true → 2 = e := fun h h4 hb => by rw [he, if_neg (by omega), if_pos h4]; unfold tv; rw [if_pos hb]
  have g2 : a.k = b.k → a.k = 4 → Op.bytesLess a.s b.s = false → 0 = e := fun h h4 hb => by rw [he, if_neg (by omega), if_pos h4]; unfold tv; rw [if_neg (by rw [hb]; exact Bool.noConfusion)]
  have g3 : a.k = b.k → a.k = 1 → a.n < b.n → 2 = e := fun h h4 hb => by rw [he, if_neg (by omega), if_neg (by omega), if_pos h4]; unfold tv; rw [if_pos hb]
  have g4 : a.k = b.k → a.k = 1 → ¬ a.n < b.n → 0 = e := fun h h4 hb => by rw [he, if_neg (by omega), if_neg (by omega), if_pos h4]; unfold tv; rw [if_neg hb]
  have g5 : a.k = b.k → a.k ≠ 4 → a.k ≠ 1 → 1 = e := fun h h4 h1 => by rw [he, if_neg (by omega), if_neg (by omega), if_neg (by omega)]
  clear he
  refine ⟨e, ?_, ?_⟩
  · rcases hnb with rfl | rfl
    · refine pureP_of rfl rfl ?_
      (conv => whnf); repeat' (first | (refine callK_of p1 ?_; rintro _ rfl; conv => whnf) | (refine callK_of p2 ?_; rintro _ rfl; conv => whnf) | (refine callK_of v1 ?_; rintro _ rfl; conv => whnf) | (refine callK_of v2 ?_; rintro _ rfl; conv => whnf) | (refine callK_of truthT ?_; rintro _ rfl; conv => whnf) | (refine callK_of truthF ?_; rintro _ rfl; conv => whnf) | ((with_reducible first | apply kN | apply kW | apply kX | apply kG | apply kQ); (· exact sd); conv => whnf) | (refine pcase.mk ?_ ?_ <;> intro hc <;> (try rw [List.length_nil] at hc) <;> first | (exfalso; omega) | (exact absurd rfl hc) | conv => whnf) | (refine bcase_intro ?_ ?_ <;> intro hc <;> conv => whnf))
      all_goals first | exact fin _ (g0 (by omega)) | exact fin _ (g1 (by omega) (by omega) (by assumption)) | exact fin _ (g2 (by omega) (by omega) (by assumption)) | exact fin _ (g3 (by omega) (by omega) (by omega)) | exact fin _ (g4 (by omega) (by omega) (by omega)) | exact fin _ (g5 (by omega) (by omega) (by omega)) | (trace_state; fail "Le3")
    · cases b1
      all_goals
        refine pureP_of rfl rfl ?_
        (conv => whnf); repeat' (first | (refine callK_of p1 ?_; rintro _ rfl; conv => whnf) | (refine callK_of p2 ?_; rintro _ rfl; conv => whnf) | (refine callK_of v1 ?_; rintro _ rfl; conv => whnf) | (refine callK_of v2 ?_; rintro _ rfl; conv => whnf) | (refine callK_of truthT ?_; rintro _ rfl; conv => whnf) | (refine callK_of truthF ?_; rintro _ rfl; conv => whnf) | ((with_reducible first | apply kN | apply kW | apply kX | apply kG | apply kQ); (· exact sd); conv => whnf) | (refine pcase.mk ?_ ?_ <;> intro hc <;> (try rw [List.length_nil] at hc) <;> first | (exfalso; omega) | (exact absurd rfl hc) | conv => whnf) | (refine bcase_intro ?_ ?_ <;> intro hc <;> conv => whnf))
        all_goals first | exact fin _ (g0 (by omega)) | exact fin _ (g1 (by omega) (by omega) (by assumption)) | exact fin _ (g2 (by omega) (by omega) (by assumption)) | exact fin _ (g3 (by omega) (by omega) (by omega)) | exact fin _ (g4 (by omega) (by omega) (by omega)) | exact fin _ (g5 (by omega) (by omega) (by omega)) | (trace_state; fail "Le3b")
  · rcases hnb with rfl | rfl
    · refine pureP_of rfl rfl ?_
      (conv => whnf); repeat' (first | (refine callK_of q1 ?_; rintro _ rfl; conv => whnf) | (refine callK_of q2 ?_; rintro _ rfl; conv => whnf) | (refine callK_of w1 ?_; rintro _ rfl; conv => whnf) | (refine callK_of w2 ?_; rintro _ rfl; conv => whnf) | (refine callK_of yesT ?_; rintro _ rfl; conv => whnf) | (refine callK_of yesF' ?_; rintro _ rfl; conv => whnf) | ((with_reducible first | apply kN | apply kW | apply kX | apply kG | apply kQ); (· exact sd); conv => whnf) | (refine pcase.mk ?_ ?_ <;> intro hc <;> (try rw [List.length_nil] at hc) <;> first | (exfalso; omega) | (exact absurd rfl hc) | conv => whnf) | (refine bcase_intro ?_ ?_ <;> intro hc <;> conv => whnf))
      all_goals first | exact fin _ (g0 (by omega)) | exact fin _ (g1 (by omega) (by omega) (by assumption)) | exact fin _ (g2 (by omega) (by omega) (by assumption)) | exact fin _ (g3 (by omega) (by omega) (by omega)) | exact fin _ (g4 (by omega) (by omega) (by omega)) | exact fin _ (g5 (by omega) (by omega) (by omega)) | (trace_state; fail "Le3R")
    · cases b1
      all_goals
        refine pureP_of rfl rfl ?_
        (conv => whnf); repeat' (first | (refine callK_of q1 ?_; rintro _ rfl; conv => whnf) | (refine callK_of q2 ?_; rintro _ rfl; conv => whnf) | (refine callK_of w1 ?_; rintro _ rfl; conv => whnf) | (refine callK_of w2 ?_; rintro _ rfl; conv => whnf) | (refine callK_of yesT ?_; rintro _ rfl; conv => whnf) | (refine callK_of yesF' ?_; rintro _ rfl; conv => whnf) | ((with_reducible first | apply kN | apply kW | apply kX | apply kG | apply kQ); (· exact sd); conv => whnf) | (refine pcase.mk ?_ ?_ <;> intro hc <;> (try rw [List.length_nil] at hc) <;> first | (exfalso; omega) | (exact absurd rfl hc) | conv => whnf) | (refine bcase_intro ?_ ?_ <;> intro hc <;> conv => whnf))
        all_goals first | exact fin _ (g0 (by omega)) | exact fin _ (g1 (by omega) (by omega) (by assumption)) | exact fin _ (g2 (by omega) (by omega) (by assumption)) | exact fin _ (g3 (by omega) (by omega) (by omega)) | exact fin _ (g4 (by omega) (by omega) (by omega)) | exact fin _ (g5 (by omega) (by omega) (by omega)) | (trace_state; fail "Le3Rb")

/-- at most -/
theorem atMostB {a b : GV} (ha : a.ok) (hb : b.ok) : ∃ t : Bool, PureP (findFn tab) 53 [a.av, b.av] (· = .bool t) ∧ PureP (findFn tab) 55 [a.av, b.av] (· = .bool t) := by
  obtain ⟨e1, h1, h2⟩ := LessB ha hb
  obtain ⟨e2, h3, h4⟩ := EqualB ha hb
  refine ⟨decide (e1 = 2 ∨ e2 = 2), ?_, ?_⟩
  · refine pureP_of rfl rfl ?_
    (conv => whnf); repeat' (first | (refine callK_of h1 ?_; rintro _ rfl; conv => whnf) | (refine callK_of h3 ?_; rintro _ rfl; conv => whnf) | ((with_reducible first | apply kN | apply kW | apply kX | apply kG | apply kQ); (· exact sd); conv => whnf) | (refine pcase.mk ?_ ?_ <;> intro hc <;> (try rw [List.length_nil] at hc) <;> first | (exfalso; omega) | (exact absurd rfl hc) | conv => whnf) | (refine bcase_intro ?_ ?_ <;> intro hc <;> conv => whnf))
    all_goals first | exact bool_t (by omega) | exact bool_f (by omega) | (trace_state; fail "atMost")
  · refine pureP_of rfl rfl ?_
    (conv => whnf); repeat' (first | (refine callK_of h2 ?_; rintro _ rfl; conv => whnf) | (refine callK_of h4 ?_; rintro _ rfl; conv => whnf) | ((with_reducible first | apply kN | apply kW | apply kX | apply kG | apply kQ); (· exact sd); conv => whnf) | (refine pcase.mk ?_ ?_ <;> intro hc <;> (try rw [List.length_nil] at hc) <;> first | (exfalso; omega) | (exact absurd rfl hc) | conv => whnf) | (refine bcase_intro ?_ ?_ <;> intro hc <;> conv => whnf))
    all_goals first | exact bool_t (by omega) | exact bool_f (by omega) | (trace_state; fail "below")

/-- null -/
theorem nullBP {v : GV} (hv : v.ok) : PureP (findFn tab) 52 [v.av] (· = .bool (decide (isNull v))) := by
  obtain ⟨_, ⟨z, rfl, hz⟩, h⟩ := (orderPN hv).det
  refine pureP_of rfl rfl ?_
  (conv => whnf); repeat' (first | (refine callK_of nullP ?_; rintro _ rfl; conv => whnf) | (refine callK_of h ?_; rintro _ rfl; conv => whnf) | ((with_reducible first | apply kN | apply kW | apply kX | apply kG | apply kQ); (· exact sd); conv => whnf) | (refine pcase.mk ?_ ?_ <;> intro hc <;> (try rw [List.length_nil] at hc) <;> first | (exfalso; omega) | (exact absurd rfl hc) | conv => whnf) | (refine bcase_intro ?_ ?_ <;> intro hc <;> conv => whnf))
  all_goals first | exact bool_t (hz.1 (by assumption)) | exact bool_f (fun h => absurd (hz.2 h) (by assumption)) | (trace_state; fail "nullP")
theorem nullBR {v : GV} (hv : v.ok) : PureP (findFn tab) 54 [v.av] (· = .bool (decide (isNull v))) := by
  obtain ⟨_, ⟨z, rfl, hz⟩, h⟩ := (orderRN hv).det
  refine pureP_of rfl rfl ?_
  (conv => whnf); repeat' (first | (refine callK_of h ?_; rintro _ rfl; conv => whnf) | ((with_reducible first | apply kN | apply kW | apply kX | apply kG | apply kQ); (· exact sd); conv => whnf) | (refine pcase.mk ?_ ?_ <;> intro hc <;> (try rw [List.length_nil] at hc) <;> first | (exfalso; omega) | (exact absurd rfl hc) | conv => whnf) | (refine bcase_intro ?_ ?_ <;> intro hc <;> conv => whnf))
  all_goals first | exact bool_t (hz.1 (by assumption)) | exact bool_f (fun h => absurd (hz.2 h) (by assumption)) | (trace_state; fail "nullR")

end AI
end Go.Proofs.YtbkibamoigmboaaGreatDoor
