/- The law EvolveRules, about the evaluator. -/
import Derived.Test.YtdlkcancogpafaaGreatDoorRU3
import Derived.Test.YtdlkcancogpafaaGreatDoorEvLives
import Derived.Test.YtdlkcancogpafaaGreatDoorGrA
set_option linter.unusedVariables false
set_option maxRecDepth 4000
namespace Go.Proofs.YtdlkcancogpafaaGreatDoor
namespace AI

theorem sameRules {L : List GR} {n1 n2 : Bool} (hl : L.length < 2^61) : PureP (findFn tab) 9 [.sl n1 (vs GR.av L), .sl n2 (vs GR.av L)] (· = .bool (decide True)) := by
  refine pureP_of rfl rfl ?_
  (conv => whnf); repeat' (first  | ((with_reducible first | apply kN | apply kW | apply kX | apply kG | apply kQ); (· exact sd); conv => whnf) | (refine pcase.mk ?_ ?_ <;> intro hc <;> (try rw [List.length_nil] at hc) <;> first | (exfalso; omega) | (exact absurd rfl hc) | conv => whnf) | (refine bcase_intro ?_ ?_ <;> intro hc <;> conv => whnf))
  all_goals first | (exfalso; omega) | skip
  refine loop_inv (fun m env s => ∃ i : Nat, m = L.length - i ∧ env = [(0, .sl n1 (vs GR.av L)), (1, .sl n2 (vs GR.av L)), (5, .int .i64 i)] ∧ s = ⟨[], 0⟩) ?_ _ _ _ ⟨0, rfl, rfl, rfl⟩
  rintro _ _ _ ⟨i, rfl, rfl, rfl⟩
  refine ⟨rfl, ?_⟩
  by_cases hlt : i < L.length
  · (conv => whnf); repeat' (first | (refine getK_intro (neR _ _) ?_; conv => whnf) | (refine bcaseN (fun hc => ?_) (fun hc => ?_) <;> conv => whnf) | ((with_reducible first | apply kN | apply kW | apply kX | apply kG | apply kQ); (· exact sd); conv => whnf) | (refine pcase.mk ?_ ?_ <;> intro hc <;> (try rw [List.length_nil] at hc) <;> first | (exfalso; omega) | (exact absurd rfl hc) | conv => whnf) | (refine bcase_intro ?_ ?_ <;> intro hc <;> conv => whnf))
    all_goals first
      | exact again.mk ⟨_, by omega, i + 1, rfl, rfl, rfl⟩
      | (exfalso; simp_all; done)
      | (trace_state; fail "sameRules")
  · (conv => whnf); repeat' (first  | ((with_reducible first | apply kN | apply kW | apply kX | apply kG | apply kQ); (· exact sd); conv => whnf) | (refine pcase.mk ?_ ?_ <;> intro hc <;> (try rw [List.length_nil] at hc) <;> first | (exfalso; omega) | (exact absurd rfl hc) | conv => whnf) | (refine bcase_intro ?_ ?_ <;> intro hc <;> conv => whnf))
    all_goals first | rfl | (trace_state; fail "sameRules2")

theorem lightRr {v : GV} (hv : v.ok) : PureP (findFn tab) 18 [.sl true [.sl true [v.av]], .int .i64 60] (fun w => ∃ b, w = .bool b) := by
  refine pureP_of rfl rfl ?_
  (conv => whnf); repeat' (first  | ((with_reducible first | apply kN | apply kW | apply kX | apply kG | apply kQ); (· exact sd); conv => whnf) | (refine pcase.mk ?_ ?_ <;> intro hc <;> (try rw [List.length_nil] at hc) <;> first | (exfalso; omega) | (exact absurd rfl hc) | conv => whnf) | (refine bcase_intro ?_ ?_ <;> intro hc <;> conv => whnf))
  refine loop_step ?_ rfl
  (conv => whnf); repeat' (first  | ((with_reducible first | apply kN | apply kW | apply kX | apply kG | apply kQ); (· exact sd); conv => whnf) | (refine pcase.mk ?_ ?_ <;> intro hc <;> (try rw [List.length_nil] at hc) <;> first | (exfalso; omega) | (exact absurd rfl hc) | conv => whnf) | (refine bcase_intro ?_ ?_ <;> intro hc <;> conv => whnf))
  all_goals first | (exfalso; simp_all; done) | skip
  refine loop_step ?_ rfl
  (conv => whnf); repeat' (first | (refine callK_of (wei 12 (by omega) hv (by omega) (by omega)) ?_; rintro _ ⟨r, rfl, r1, r2, r3⟩; conv => whnf) | ((with_reducible first | apply kN | apply kW | apply kX | apply kG | apply kQ); (· exact sd); conv => whnf) | (refine pcase.mk ?_ ?_ <;> intro hc <;> (try rw [List.length_nil] at hc) <;> first | (exfalso; omega) | (exact absurd rfl hc) | conv => whnf) | (refine bcase_intro ?_ ?_ <;> intro hc <;> conv => whnf))
  all_goals first | (exfalso; simp_all; done) | skip
  refine loop_step ?_ rfl
  (conv => whnf); repeat' (first  | ((with_reducible first | apply kN | apply kW | apply kX | apply kG | apply kQ); (· exact sd); conv => whnf) | (refine pcase.mk ?_ ?_ <;> intro hc <;> (try rw [List.length_nil] at hc) <;> first | (exfalso; omega) | (exact absurd rfl hc) | conv => whnf) | (refine bcase_intro ?_ ?_ <;> intro hc <;> conv => whnf))
  all_goals first | (exfalso; simp_all; done) | skip
  refine loop_step ?_ rfl
  (conv => whnf); repeat' (first  | ((with_reducible first | apply kN | apply kW | apply kX | apply kG | apply kQ); (· exact sd); conv => whnf) | (refine pcase.mk ?_ ?_ <;> intro hc <;> (try rw [List.length_nil] at hc) <;> first | (exfalso; omega) | (exact absurd rfl hc) | conv => whnf) | (refine bcase_intro ?_ ?_ <;> intro hc <;> conv => whnf))
  all_goals first
    | (exfalso; simp_all; done)
    | exact ⟨_, rfl⟩
    | (trace_state; fail "lightRr")
theorem wrapAnyR {z : Int} {K : AV → Prop} (h : ∀ y, K (.int .i64 y)) : wrapK .i64 z K := wrapK_intro rfl (h _)
theorem lightMr {m : GM} (hm : m.ok) : PureP (findFn tab) 5 [m.av] (fun v => ∃ b, v = .bool b) := by
  obtain ⟨_, ⟨b, rfl⟩, hp⟩ := (lightRr hm.2.2.2.2.1).det
  cases b
  all_goals
    refine pureP_of rfl rfl ?_
    (conv => whnf); repeat' (first | (refine callK_of hp ?_; rintro _ rfl; conv => whnf) | (refine wrapAnyR (fun y => ?_); conv => whnf) | ((with_reducible first | apply kN | apply kW | apply kX | apply kG | apply kQ); (· exact sd); conv => whnf) | (refine pcase.mk ?_ ?_ <;> intro hc <;> (try rw [List.length_nil] at hc) <;> first | (exfalso; omega) | (exact absurd rfl hc) | conv => whnf) | (refine bcase_intro ?_ ?_ <;> intro hc <;> conv => whnf))
  all_goals first | exact ⟨_, rfl⟩ | (trace_state; fail "lightMr")

theorem aliveRu : PureP (findFn tab) 6 [] (· = .bool (decide True)) := ⟨.bool true, ⟨80, alive_call⟩, rfl⟩

theorem outR_eq {e : Int} {M : GR → Prop} {v w : AV} (h1 : outR e M v) (h2 : outR e M w) : ∃ b1 b2 W, W.length < 2^61 ∧ v = .tup [.sl b1 (vs GR.av W), .int .i64 e] ∧ w = .tup [.sl b2 (vs GR.av W), .int .i64 e] := by
  by_cases h0 : e = 0
  · obtain ⟨b1, W1, rfl, s1, l1, m1⟩ := h1.2 h0
    obtain ⟨b2, W2, rfl, s2, l2, m2⟩ := h2.2 h0
    obtain rfl := strict_unique ltR_swo s1 s2 fun y => (m1 y).trans (m2 y).symm
    exact ⟨b1, b2, W1, l1, by rw [h0], by rw [h0]⟩
  · exact ⟨false, false, [], by simp, h1.1 h0, h2.1 h0⟩

set_option maxRecDepth 10000 in
theorem law_rules : ∀ xs, likes Tryz.prog [22, 29] xs → Calls1 (findFn tab) 3 xs ⟨[], 0⟩ fun out _ => out = .ok (.bool true) := by
  intro xs h
  match xs, h with
  | [a, b], h =>
    obtain ⟨h1, h2, _⟩ := h
    obtain ⟨nn, l, rfl, hn, hl, hok⟩ := like_rules h1
    obtain ⟨m, rfl, hm⟩ := like_migration h2
    unfold Ln at hl
    obtain ⟨_, ⟨b2, rfl⟩, p2⟩ := (lightMr hm).det
    refine calls1_of rfl rfl ?_
    by_cases hc : 44 < l.length
    · (conv => whnf); repeat' (first | (refine callB aliveRu (fun _ => ?_) (fun h => absurd trivial h); conv => whnf) | ((with_reducible first | apply kN | apply kW | apply kX | apply kG | apply kQ); (· exact sd); conv => whnf) | (refine pcase.mk ?_ ?_ <;> intro hc <;> (try rw [List.length_nil] at hc) <;> first | (exfalso; omega) | (exact absurd rfl hc) | conv => whnf) | (refine bcase_intro ?_ ?_ <;> intro hc <;> conv => whnf))
      all_goals first | rfl | (exfalso; omega) | (trace_state; fail "law1")
    cases b2 with
    | false =>
      (conv => whnf); repeat' (first | (refine callK_of p2 ?_; rintro _ rfl; conv => whnf) | (refine callB aliveRu (fun _ => ?_) (fun h => absurd trivial h); conv => whnf) | ((with_reducible first | apply kN | apply kW | apply kX | apply kG | apply kQ); (· exact sd); conv => whnf) | (refine pcase.mk ?_ ?_ <;> intro hc <;> (try rw [List.length_nil] at hc) <;> first | (exfalso; omega) | (exact absurd rfl hc) | conv => whnf) | (refine bcase_intro ?_ ?_ <;> intro hc <;> conv => whnf))
      all_goals first | rfl | (exfalso; omega) | (trace_state; fail "law2")
    | true =>
      obtain ⟨v, hv, cv⟩ := (rulesP hn (l := l) (m := m) (by omega) hok hm).det
      obtain ⟨w, hw, cw⟩ := (rulesQ (nn := nn) (l := l) (m := m) (by omega) hok hm).det
      obtain ⟨b1, b2, W, hWl, rfl, rfl⟩ := outR_eq hv hw
      (conv => whnf); repeat' (first | (refine callK_of p2 ?_; rintro _ rfl; conv => whnf) | (refine callK_of cv ?_; rintro _ rfl; conv => whnf) | (refine callK_of cw ?_; rintro _ rfl; conv => whnf) | (refine callB (sameRules (n1 := b1) (n2 := b2) hWl) (fun _ => ?_) (fun h => absurd trivial h); conv => whnf) | (refine callB aliveRu (fun _ => ?_) (fun h => absurd trivial h); conv => whnf) | ((with_reducible first | apply kN | apply kW | apply kX | apply kG | apply kQ); (· exact sd); conv => whnf) | (refine pcase.mk ?_ ?_ <;> intro hc <;> (try rw [List.length_nil] at hc) <;> first | (exfalso; omega) | (exact absurd rfl hc) | conv => whnf) | (refine bcase_intro ?_ ?_ <;> intro hc <;> conv => whnf))
      all_goals first | rfl | exact absurd rfl (by assumption) | (exfalso; omega) | (exfalso; simp_all; done) | (trace_state; fail "law")

end AI
end Go.Proofs.YtdlkcancogpafaaGreatDoor
