/- The program's order of a value and null. -/
import Derived.Test.YtdlkcancogpafaaGreatDoorMO
import Derived.Test.YtdlkcancogpafaaGreatDoorCmI
import Derived.Test.YtdlkcancogpafaaGreatDoorNuR
set_option linter.unusedVariables false
set_option maxRecDepth 4000
namespace Go.Proofs.YtdlkcancogpafaaGreatDoor
namespace AI

theorem vv_null {v : GV} (hk : v.k = 0) : VV 8 v ↔ isNull v := by
  rw [VV_b (by omega) (by omega)]
  unfold VB isNull
  constructor
  · rintro ⟨h1, h⟩
    rcases h with h | h | h | h | h | h <;> first | exact ⟨hk, h.2.1, h.2.2.1, h.2.2.2, h1⟩ | (exfalso; omega)
  · rintro ⟨_, h1, h2, h3, h4⟩
    exact ⟨h4, .inl ⟨hk, h1, h2, h3⟩⟩

def clsP (k : Int) : Int := if k = 3 then 2 else if k = 7 then 9 else k
theorem classP {v : GV} : PureP (findFn tab) 131 [v.av] (· = .int .i64 (clsP v.k)) := by
  refine pureP_of rfl rfl ?_
  (conv => whnf); repeat' (first  | ((with_reducible first | apply kN | apply kW | apply kX | apply kG | apply kQ); (· exact sd); conv => whnf) | (refine pcase.mk ?_ ?_ <;> intro hc <;> (try rw [List.length_nil] at hc) <;> first | (exfalso; omega) | (exact absurd rfl hc) | conv => whnf) | (refine bcase_intro ?_ ?_ <;> intro hc <;> conv => whnf))
  all_goals first | (unfold clsP; rw [if_pos (by assumption)]; rfl) | (unfold clsP; rw [if_neg (by assumption), if_pos (by assumption)]; rfl) | (unfold clsP; rw [if_neg (by assumption), if_neg (by assumption)]; rfl) | (trace_state; fail "classP")
theorem clsP0 {k : Int} : clsP k = 0 ↔ k = 0 := by unfold clsP; split <;> (try split) <;> omega

theorem nullP : PureP (findFn tab) 44 [] (· = gv0.av) := by
  refine pureP_of rfl rfl ?_
  (conv => whnf); repeat' (first  | ((with_reducible first | apply kN | apply kW | apply kX | apply kG | apply kQ); (· exact sd); conv => whnf) | (refine pcase.mk ?_ ?_ <;> intro hc <;> (try rw [List.length_nil] at hc) <;> first | (exfalso; omega) | (exact absurd rfl hc) | conv => whnf) | (refine bcase_intro ?_ ?_ <;> intro hc <;> conv => whnf))
  rfl

theorem nanSC {x : List UInt8} : PureP (findFn tab) 115 [.str x] (· = .bool false) := by
  refine pureP_of rfl rfl ?_
  (conv => whnf); repeat' (first  | ((with_reducible first | apply kN | apply kW | apply kX | apply kG | apply kQ); (· exact sd); conv => whnf) | (refine pcase.mk ?_ ?_ <;> intro hc <;> (try rw [List.length_nil] at hc) <;> first | (exfalso; omega) | (exact absurd rfl hc) | conv => whnf) | (refine bcase_intro ?_ ?_ <;> intro hc <;> conv => whnf))
  all_goals first | rfl | (exfalso; simp_all) | (trace_state; fail "nanSC")
theorem cmpS0 : PureP (findFn tab) 68 [.str [], .str []] (· = .int .i64 0) := ⟨_, ⟨20, by kernel_rfl⟩, rfl⟩
theorem or3 {nn : Bool} : PureP (findFn tab) 66 [.sl nn [.int .i64 0, .int .i64 0, .int .i64 0]] (· = .int .i64 0) := by
  cases nn
  · exact ⟨_, ⟨20, by kernel_rfl⟩, rfl⟩
  · exact ⟨_, ⟨20, by kernel_rfl⟩, rfl⟩
theorem cmpF0 {nn : Bool} {f : Nat} : PureP (findFn tab) 91 [.sl nn [], .sl false [], .fn f []] (· = .int .i64 0) := by
  refine pureP_of rfl rfl ?_
  (conv => whnf); repeat' (first  | ((with_reducible first | apply kN | apply kW | apply kX | apply kG | apply kQ); (· exact sd); conv => whnf) | (refine pcase.mk ?_ ?_ <;> intro hc <;> (try rw [List.length_nil] at hc) <;> first | (exfalso; omega) | (exact absurd rfl hc) | conv => whnf) | (refine bcase_intro ?_ ?_ <;> intro hc <;> conv => whnf))
  refine loop_inv (fun m env s => m = 0 ∧ env = [(0, .sl nn []), (1, .sl false []), (2, .fn f []), (11, .sl nn []), (12, .int .i64 0), (13, .int .i64 0)] ∧ s = ⟨[], 0⟩) ?_ _ _ _ ⟨rfl, rfl, rfl⟩
  rintro _ _ _ ⟨rfl, rfl, rfl⟩
  refine ⟨rfl, ?_⟩
  (conv => whnf); repeat' (first  | ((with_reducible first | apply kN | apply kW | apply kX | apply kG | apply kQ); (· exact sd); conv => whnf) | (refine pcase.mk ?_ ?_ <;> intro hc <;> (try rw [List.length_nil] at hc) <;> first | (exfalso; omega) | (exact absurd rfl hc) | conv => whnf) | (refine bcase_intro ?_ ?_ <;> intro hc <;> conv => whnf))
  all_goals first | rfl | (exfalso; simp_all) | (trace_state; fail "cmpF0")

/-- of a null value -/
theorem orderZ {v : GV} (h : isNull v) : PureP (findFn tab) 90 [v.av, gv0.av] (· = .int .i64 0) := by
  obtain ⟨k, n, d, s, nn, l⟩ := v
  obtain ⟨h1, h2, h3, h4, h5⟩ := h
  dsimp only at h1 h2 h3 h4 h5
  subst h1 h2 h3 h4
  obtain rfl : l = [] := List.eq_nil_of_length_eq_zero h5
  have hc1 : PureP (findFn tab) 131 [GV.av ⟨0, 0, 0, [], nn, []⟩] (· = .int .i64 0) := classP (v := ⟨0, 0, 0, [], nn, []⟩)
  have hc2 : PureP (findFn tab) 131 [gv0.av] (· = .int .i64 0) := classP (v := gv0)
  have hc3 : PureP (findFn tab) 67 [.int .i64 0, .int .i64 0] (· = .int .i64 0) := compare
  refine pureP_of rfl rfl ?_
  (conv => whnf); repeat' (first | (refine callK_of hc1 ?_; rintro _ rfl; conv => whnf) | (refine callK_of hc2 ?_; rintro _ rfl; conv => whnf) | (refine callK_of hc3 ?_; rintro _ rfl; conv => whnf) | (refine callK_of cmpS0 ?_; rintro _ rfl; conv => whnf) | (refine callK_of cmpF0 ?_; rintro _ rfl; conv => whnf) | (refine callK_of or3 ?_; rintro _ rfl; conv => whnf) | ((with_reducible first | apply kN | apply kW | apply kX | apply kG | apply kQ); (· exact sd); conv => whnf) | (refine pcase.mk ?_ ?_ <;> intro hc <;> (try rw [List.length_nil] at hc) <;> first | (exfalso; omega) | (exact absurd rfl hc) | conv => whnf) | (refine bcase_intro ?_ ?_ <;> intro hc <;> conv => whnf))
  all_goals first | rfl | (exfalso; simp_all) | (trace_state; fail "orderZ")

/-- of a valid value that is not null -/
theorem orderNZ {v : GV} (h : v.k ≠ 0) : PureP (findFn tab) 90 [v.av, gv0.av] (fun w => ∃ z, w = .int .i64 z ∧ z ≠ 0) := by
  have hc2 : PureP (findFn tab) 131 [gv0.av] (· = .int .i64 0) := classP (v := gv0)
  obtain ⟨z, hz, hz0⟩ : ∃ z, cmpI (clsP v.k) 0 = z ∧ z ≠ 0 := ⟨_, rfl, fun h0 => h (clsP0.1 (cmpI_zero.1 h0))⟩
  have hc3 : PureP (findFn tab) 67 [.int .i64 (clsP v.k), .int .i64 0] (· = .int .i64 z) := hz ▸ compare
  refine pureP_of rfl rfl ?_
  (conv => whnf); repeat' (first | (refine callK_of (classP (v := v)) ?_; rintro _ rfl; conv => whnf) | (refine callK_of hc2 ?_; rintro _ rfl; conv => whnf) | (refine callK_of hc3 ?_; rintro _ rfl; conv => whnf) | ((with_reducible first | apply kN | apply kW | apply kX | apply kG | apply kQ); (· exact sd); conv => whnf) | (refine pcase.mk ?_ ?_ <;> intro hc <;> (try rw [List.length_nil] at hc) <;> first | (exfalso; omega) | (exact absurd rfl hc) | conv => whnf) | (refine bcase_intro ?_ ?_ <;> intro hc <;> conv => whnf))
  all_goals first | exact ⟨_, rfl, hz0⟩ | (exfalso; omega) | (trace_state; fail "orderNZ")

/-- a value is like null where it is null -/
theorem orderPN {v : GV} (hv : v.ok) : PureP (findFn tab) 43 [v.av, gv0.av] (fun w => ∃ z, w = .int .i64 z ∧ (z = 0 ↔ isNull v)) := by
  have hq : PureP (findFn tab) 89 [gv0.av] (· = .bool true) := by
    have := ValidP gv0_ok; rwa [decide_eq_true ((vv_null rfl).2 null_gv0)] at this
  have hp := ValidP hv
  by_cases hVV : VV 8 v
  · rw [decide_eq_true hVV] at hp
    by_cases hk : v.k = 0
    · have hn := (vv_null hk).1 hVV
      refine pureP_of rfl rfl ?_
      (conv => whnf); repeat' (first | (refine callK_of hp ?_; rintro _ rfl; conv => whnf) | (refine callK_of hq ?_; rintro _ rfl; conv => whnf) | (refine callK_of (orderZ hn) ?_; rintro _ rfl; conv => whnf) | ((with_reducible first | apply kN | apply kW | apply kX | apply kG | apply kQ); (· exact sd); conv => whnf) | (refine pcase.mk ?_ ?_ <;> intro hc <;> (try rw [List.length_nil] at hc) <;> first | (exfalso; omega) | (exact absurd rfl hc) | conv => whnf) | (refine bcase_intro ?_ ?_ <;> intro hc <;> conv => whnf))
      all_goals first | exact ⟨_, rfl, fun _ => hn, fun _ => rfl⟩ | (trace_state; fail "orderPN1")
    · refine pureP_of rfl rfl ?_
      (conv => whnf); repeat' (first | (refine callK_of hp ?_; rintro _ rfl; conv => whnf) | (refine callK_of hq ?_; rintro _ rfl; conv => whnf) | (refine callK_of (orderNZ hk) ?_; rintro _ ⟨z, rfl, hz⟩; conv => whnf) | ((with_reducible first | apply kN | apply kW | apply kX | apply kG | apply kQ); (· exact sd); conv => whnf) | (refine pcase.mk ?_ ?_ <;> intro hc <;> (try rw [List.length_nil] at hc) <;> first | (exfalso; omega) | (exact absurd rfl hc) | conv => whnf) | (refine bcase_intro ?_ ?_ <;> intro hc <;> conv => whnf))
      all_goals first | exact ⟨_, rfl, fun h => absurd h hz, fun h => absurd h.1 hk⟩ | (trace_state; fail "orderPN2")
  · rw [decide_eq_false hVV] at hp
    have hn : ¬ isNull v := fun h => hVV ((vv_null h.1).2 h)
    refine pureP_of rfl rfl ?_
    (conv => whnf); repeat' (first | (refine callK_of hp ?_; rintro _ rfl; conv => whnf) | (refine callK_of hq ?_; rintro _ rfl; conv => whnf) | ((with_reducible first | apply kN | apply kW | apply kX | apply kG | apply kQ); (· exact sd); conv => whnf) | (refine pcase.mk ?_ ?_ <;> intro hc <;> (try rw [List.length_nil] at hc) <;> first | (exfalso; omega) | (exact absurd rfl hc) | conv => whnf) | (refine bcase_intro ?_ ?_ <;> intro hc <;> conv => whnf))
    all_goals first | exact ⟨_, rfl, fun h => absurd h (by decide), fun h => absurd h hn⟩ | (trace_state; fail "orderPN3")

end AI
end Go.Proofs.YtdlkcancogpafaaGreatDoor
