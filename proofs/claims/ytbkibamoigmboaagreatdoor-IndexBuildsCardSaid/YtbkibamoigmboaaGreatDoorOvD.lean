/- Valid values, exactly: the reference's. -/
import Derived.Test.YtbkibamoigmboaaGreatDoorMO
import Derived.Test.YtbkibamoigmboaaGreatDoorMG
set_option linter.unusedVariables false
set_option maxRecDepth 4000
namespace Go.Proofs.YtbkibamoigmboaaGreatDoor
namespace AI

set_option maxHeartbeats 1000000 in
theorem vbR {g : GV} (hg : g.ok) (h7 : g.k ≠ 7) (h8 : g.k ≠ 8) {n : Int} : PureP (findFn tab) 134 [g.av, .int .i64 n] (· = .bool (decide (VB g))) := by
  obtain ⟨g1, g2, g3, g4, g5, g6, g7⟩ := hg
  unfold Ln at g4 g5
  refine pureP_of rfl rfl ?_
  (conv => whnf); repeat' (first | (refine callB (bareE (v := g) g5) (fun hb => ?_) (fun hb => ?_) <;> conv => whnf) | (refine callB (inP2 (n := g.n)) (fun hr => ?_) (fun hr => ?_) <;> conv => whnf) | (refine callB (fvR (n := g.n) (d := g.d)) (fun hr => ?_) (fun hr => ?_) <;> conv => whnf) | (refine callB (strE (s := g.s) g4) (fun hr => ?_) (fun hr => ?_) <;> conv => whnf) | ((with_reducible first | apply kN | apply kW | apply kX | apply kG | apply kQ); (· exact sd); conv => whnf) | (refine pcase.mk ?_ ?_ <;> intro hc <;> (try rw [List.length_nil] at hc) <;> first | (exfalso; omega) | (exact absurd rfl hc) | conv => whnf) | (refine bcase_intro ?_ ?_ <;> intro hc <;> conv => whnf))
  all_goals clear g7 g6
  all_goals try unfold bareP at hb
  all_goals try simp only [Bool.false_eq_true, false_or, true_or] at hb
  all_goals first
    | (refine bool_t ?_; unfold VB; first | (simp_all; done) | (simp_all; omega))
    | (refine bool_f fun h => hb ?_; obtain ⟨h0, h⟩ := h; rcases h with h | h | h | h | h | h <;> first | (exfalso; omega) | (simp_all; done) | (simp_all; omega) | (refine ⟨?_, ?_, ?_, ?_⟩ <;> first | omega | simp_all))
    | (refine bool_f ?_; unfold VB; first | (simp_all; done) | (simp_all; omega))
    | trace_state

set_option maxHeartbeats 1000000 in
theorem pathRf {l : List AV} {nn : Bool} (hl : l.length < 2^63) (h : ∀ x ∈ l, Like Tryz.prog 43 x) : PureP (findFn tab) 199 [.sl nn l] (· = .bool (decide (VPa l))) := by
  have htm : (l.length : Int).tmod 2 = (l.length : Int) % 2 := Int.tmod_eq_emod_of_nonneg (by omega)
  by_cases hlen : l.length % 2 = 1 ∧ l.length ≤ 25
  · obtain ⟨hl1, hl2⟩ := hlen
    refine pureP_of rfl rfl ?_
    (conv => whnf); repeat' (first  | ((with_reducible first | apply kN | apply kW | apply kX | apply kG | apply kQ); (· exact sd); conv => whnf) | (refine pcase.mk ?_ ?_ <;> intro hc <;> (try rw [List.length_nil] at hc) <;> first | (exfalso; omega) | (exact absurd rfl hc) | conv => whnf) | (refine bcase_intro ?_ ?_ <;> intro hc <;> conv => whnf))
    refine loop_inv (fun m env s => ∃ i : Nat, m = l.length - i ∧ i ≤ l.length ∧ (∀ j (hj : j < l.length), j < i → ∃ x : GV, l[j] = x.av ∧ x.k = 5 + (j : Int) % 2 ∧ VB x) ∧ env = [(0, .sl nn l), (3, .int .i64 i)] ∧ s = ⟨[], 0⟩) ?_ _ _ _ ⟨0, rfl, by omega, fun j _ hj => absurd hj (by omega), rfl, rfl⟩
    rintro _ _ _ ⟨i, rfl, hi, hx, rfl, rfl⟩
    refine ⟨rfl, ?_⟩
    by_cases hlt : i < l.length
    · obtain ⟨gx, hgx⟩ := like_at h i
      obtain ⟨hn, he, hok⟩ := hgx hlt
      have hno : ¬ (gx.k = 5 + (i : Int) % 2 ∧ VB gx) → ¬ VPa l := fun hh hv => by
        obtain ⟨x, e, hx2⟩ := hv.2.2 i hlt
        rw [he] at e
        rw [GV.av_inj e] at hh
        exact hh hx2
      have h2 : (i : Int).tmod 2 = (i : Int) % 2 := Int.tmod_eq_emod_of_nonneg (by omega)
      (conv => whnf); repeat' (first | (apply nthK_intro; (· exact hn); conv => whnf) | (refine callB (vbR (g := gx) hok (by omega) (by omega) (n := 0)) (fun hr => ?_) (fun hr => ?_) <;> conv => whnf) | ((with_reducible first | apply kN | apply kW | apply kX | apply kG | apply kQ); (· exact sd); conv => whnf) | (refine pcase.mk ?_ ?_ <;> intro hc <;> (try rw [List.length_nil] at hc) <;> first | (exfalso; omega) | (exact absurd rfl hc) | conv => whnf) | (refine bcase_intro ?_ ?_ <;> intro hc <;> conv => whnf))
      all_goals first
        | exact again.mk ⟨_, by omega, i + 1, rfl, by omega, VPa_take hlt he (by omega) hr hx, rfl, rfl⟩
        | exact bool_f (hno fun hh => by have := hh.1; omega)
        | exact bool_f (hno fun hh => hr hh.2)
        | trace_state
    · rw [show i = l.length by omega] at hx
      (conv => whnf); repeat' (first  | ((with_reducible first | apply kN | apply kW | apply kX | apply kG | apply kQ); (· exact sd); conv => whnf) | (refine pcase.mk ?_ ?_ <;> intro hc <;> (try rw [List.length_nil] at hc) <;> first | (exfalso; omega) | (exact absurd rfl hc) | conv => whnf) | (refine bcase_intro ?_ ?_ <;> intro hc <;> conv => whnf))
      exact bool_t ⟨hl1, hl2, fun j hj => hx j hj hj⟩
  · have hno : ¬ VPa l := fun hv => hlen ⟨hv.1, hv.2.1⟩
    refine pureP_of rfl rfl ?_
    (conv => whnf); repeat' (first  | ((with_reducible first | apply kN | apply kW | apply kX | apply kG | apply kQ); (· exact sd); conv => whnf) | (refine pcase.mk ?_ ?_ <;> intro hc <;> (try rw [List.length_nil] at hc) <;> first | (exfalso; omega) | (exact absurd rfl hc) | conv => whnf) | (refine bcase_intro ?_ ?_ <;> intro hc <;> conv => whnf))
    all_goals first | exact bool_f hno | (exfalso; omega) | trace_state

theorem v7R {g : GV} (hg : g.ok) (hk : g.k = 7) {n : Int} : PureP (findFn tab) 134 [g.av, .int .i64 n] (· = .bool (decide (g.n = 0 ∧ g.d = 0 ∧ g.s = [] ∧ VPa g.l))) := by
  obtain ⟨g1, g2, g3, g4, g5, g6, g7⟩ := hg
  unfold Ln at g4 g5
  refine pureP_of rfl rfl ?_
  (conv => whnf); repeat' (first | (refine callB (bareE (v := g) g5) (fun hb => ?_) (fun hb => ?_) <;> conv => whnf) | (refine callB (pathRf (l := g.l) (nn := g.nn) g5 g7) (fun hr => ?_) (fun hr => ?_) <;> conv => whnf) | ((with_reducible first | apply kN | apply kW | apply kX | apply kG | apply kQ); (· exact sd); conv => whnf) | (refine pcase.mk ?_ ?_ <;> intro hc <;> (try rw [List.length_nil] at hc) <;> first | (exfalso; omega) | (exact absurd rfl hc) | conv => whnf) | (refine bcase_intro ?_ ?_ <;> intro hc <;> conv => whnf))
  all_goals try unfold bareP at hb
  all_goals try simp only [Bool.false_eq_true, false_or, true_or] at hb
  all_goals first
    | exact bool_t ⟨hb.1, hb.2.1, hb.2.2.1, hr⟩
    | exact bool_t ⟨hb.1, hb.2.1, hb.2.2, hr⟩
    | exact bool_f fun h => hr h.2.2.2
    | exact bool_f fun h => hb ⟨h.1, h.2.1, h.2.2.1, trivial⟩
    | exact bool_f fun h => hb ⟨h.1, h.2.1, h.2.2.1⟩
    | trace_state

set_option maxHeartbeats 1000000 in
theorem listRf {g : GV} (hg : g.ok) {z : Int} (hz : 1 ≤ z ∧ z ≤ 8) {m : Nat} (ih : ∀ {x : GV}, x.ok → PureP (findFn tab) 134 [x.av, .int .i64 (z - 1)] (· = .bool (decide (VV m x)))) :
    PureP (findFn tab) 200 [.sl g.nn g.l, .int .i64 z] (· = .bool (decide (g.l.length ≤ 64 ∧ VLi m g.l))) := by
  obtain ⟨g1, g2, g3, g4, g5, g6, g7⟩ := hg
  unfold Ln at g4 g5
  refine pureP_of rfl rfl ?_
  (conv => whnf); repeat' (first  | ((with_reducible first | apply kN | apply kW | apply kX | apply kG | apply kQ); (· exact sd); conv => whnf) | (refine pcase.mk ?_ ?_ <;> intro hc <;> (try rw [List.length_nil] at hc) <;> first | (exfalso; omega) | (exact absurd rfl hc) | conv => whnf) | (refine bcase_intro ?_ ?_ <;> intro hc <;> conv => whnf))
  all_goals first
    | exact bool_f fun h => by have := h.1; omega
    | (exfalso; omega)
    | skip
  have hl0 : g.l.length ≤ 64 := by omega
  refine loop_inv (fun mm env s => ∃ i : Nat, mm = g.l.length - i ∧ i ≤ g.l.length ∧ (∀ j (hj : j < g.l.length), j < i → ∃ x : GV, g.l[j] = x.av ∧ VV m x) ∧ env = [(0, .sl g.nn g.l), (1, .int .i64 z), (5, .int .i64 i)] ∧ s = ⟨[], 0⟩) ?_ _ _ _ ⟨0, rfl, by omega, fun j _ hj => absurd hj (by omega), rfl, rfl⟩
  rintro _ _ _ ⟨i, rfl, hi, hx, rfl, rfl⟩
  refine ⟨rfl, ?_⟩
  by_cases hlt : i < g.l.length
  · obtain ⟨gx, hgx⟩ := like_at g7 i
    obtain ⟨hn, he, hok⟩ := hgx hlt
    (conv => whnf); repeat' (first | (apply nthK_intro; (· exact hn); conv => whnf) | (refine callB (ih hok) (fun hr => ?_) (fun hr => ?_) <;> conv => whnf) | ((with_reducible first | apply kN | apply kW | apply kX | apply kG | apply kQ); (· exact sd); conv => whnf) | (refine pcase.mk ?_ ?_ <;> intro hc <;> (try rw [List.length_nil] at hc) <;> first | (exfalso; omega) | (exact absurd rfl hc) | conv => whnf) | (refine bcase_intro ?_ ?_ <;> intro hc <;> conv => whnf))
    all_goals first
      | exact again.mk ⟨_, by omega, i + 1, rfl, by omega, VL_take hlt he hr hx, rfl, rfl⟩
      | exact bool_f fun hh => by
          obtain ⟨x, e, hv⟩ := hh.2 i hlt
          rw [he] at e
          rw [GV.av_inj e] at hr
          exact hr hv
      | trace_state
  · rw [show i = g.l.length by omega] at hx
    (conv => whnf); repeat' (first  | ((with_reducible first | apply kN | apply kW | apply kX | apply kG | apply kQ); (· exact sd); conv => whnf) | (refine pcase.mk ?_ ?_ <;> intro hc <;> (try rw [List.length_nil] at hc) <;> first | (exfalso; omega) | (exact absurd rfl hc) | conv => whnf) | (refine bcase_intro ?_ ?_ <;> intro hc <;> conv => whnf))
    exact bool_t ⟨hl0, fun j hj => hx j hj hj⟩

theorem v8R {g : GV} (hg : g.ok) (hk : g.k = 8) {z : Int} {p : Prop} [Decidable p] (hlist : PureP (findFn tab) 200 [.sl g.nn g.l, .int .i64 z] (· = .bool (decide p))) :
    PureP (findFn tab) 134 [g.av, .int .i64 z] (· = .bool (decide (g.n = 0 ∧ g.d = 0 ∧ g.s = [] ∧ p))) := by
  obtain ⟨g1, g2, g3, g4, g5, g6, g7⟩ := hg
  unfold Ln at g4 g5
  refine pureP_of rfl rfl ?_
  (conv => whnf); repeat' (first | (refine callB (bareE (v := g) g5) (fun hb => ?_) (fun hb => ?_) <;> conv => whnf) | (refine callB hlist (fun hr => ?_) (fun hr => ?_) <;> conv => whnf) | ((with_reducible first | apply kN | apply kW | apply kX | apply kG | apply kQ); (· exact sd); conv => whnf) | (refine pcase.mk ?_ ?_ <;> intro hc <;> (try rw [List.length_nil] at hc) <;> first | (exfalso; omega) | (exact absurd rfl hc) | conv => whnf) | (refine bcase_intro ?_ ?_ <;> intro hc <;> conv => whnf))
  all_goals try unfold bareP at hb
  all_goals try simp only [Bool.false_eq_true, false_or, true_or] at hb
  all_goals first
    | exact bool_t ⟨hb.1, hb.2.1, hb.2.2.1, hr⟩
    | exact bool_t ⟨hb.1, hb.2.1, hb.2.2, hr⟩
    | exact bool_f fun h => hr h.2.2.2
    | exact bool_f fun h => hb ⟨h.1, h.2.1, h.2.2.1, trivial⟩
    | exact bool_f fun h => hb ⟨h.1, h.2.1, h.2.2.1⟩
    | trace_state

theorem list0R {l : List AV} {nn : Bool} (hl : l.length < 2^63) : PureP (findFn tab) 200 [.sl nn l, .int .i64 0] (· = .bool (decide False)) := by
  refine pureP_of rfl rfl ?_
  (conv => whnf); repeat' (first  | ((with_reducible first | apply kN | apply kW | apply kX | apply kG | apply kQ); (· exact sd); conv => whnf) | (refine pcase.mk ?_ ?_ <;> intro hc <;> (try rw [List.length_nil] at hc) <;> first | (exfalso; omega) | (exact absurd rfl hc) | conv => whnf) | (refine bcase_intro ?_ ?_ <;> intro hc <;> conv => whnf))
  all_goals rfl

theorem validRf : ∀ (m : Nat), m ≤ 8 → ∀ {g : GV}, g.ok → PureP (findFn tab) 134 [g.av, .int .i64 (m : Int)] (· = .bool (decide (VV m g))) := by
  intro m
  induction m with
  | zero =>
    intro _ g hg
    by_cases h7 : g.k = 7
    · rw [show AV.bool (decide (VV 0 g)) = _ from dec_iff (VV_7 h7)]
      exact v7R hg h7
    by_cases h8 : g.k = 8
    · rw [show AV.bool (decide (VV 0 g)) = AV.bool (decide (g.n = 0 ∧ g.d = 0 ∧ g.s = [] ∧ False)) from dec_iff ⟨fun h => absurd h (VV0_8 h8), fun h => h.2.2.2.elim⟩]
      exact v8R hg h8 (list0R hg.2.2.2.2.1)
    rw [show AV.bool (decide (VV 0 g)) = AV.bool (decide (VB g)) from dec_iff (VV_b h7 h8)]
    exact vbR hg h7 h8
  | succ m ih =>
    intro hm g hg
    by_cases h7 : g.k = 7
    · rw [show AV.bool (decide (VV (m + 1) g)) = _ from dec_iff (VV_7 h7)]
      exact v7R hg h7
    by_cases h8 : g.k = 8
    · rw [show AV.bool (decide (VV (m + 1) g)) = _ from dec_iff (VV_8 h8)]
      exact v8R hg h8 (listRf hg (by omega) fun {x} hx => by
        rw [show ((m + 1 : Nat) : Int) - 1 = (m : Int) by omega]
        exact ih (by omega) hx)
    rw [show AV.bool (decide (VV (m + 1) g)) = AV.bool (decide (VB g)) from dec_iff (VV_b h7 h8)]
    exact vbR hg h7 h8

/-- the reference's Valid, exactly -/
theorem ValidR {g : GV} (hg : g.ok) : PureP (findFn tab) 89 [g.av] (· = .bool (decide (VV 8 g))) := by
  have h := validRf 8 (by omega) hg
  refine pureP_of rfl rfl ?_
  (conv => whnf); repeat' (first | (refine callB h (fun hr => ?_) (fun hr => ?_) <;> conv => whnf) | ((with_reducible first | apply kN | apply kW | apply kX | apply kG | apply kQ); (· exact sd); conv => whnf) | (refine pcase.mk ?_ ?_ <;> intro hc <;> (try rw [List.length_nil] at hc) <;> first | (exfalso; omega) | (exact absurd rfl hc) | conv => whnf) | (refine bcase_intro ?_ ?_ <;> intro hc <;> conv => whnf))
  all_goals first | exact bool_t hr | exact bool_f hr

end AI
end Go.Proofs.YtbkibamoigmboaaGreatDoor
