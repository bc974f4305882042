/- Valid values, exactly: the reference's. Numbers among values; values equal: the program's way and the reference's. Lists of values equal, and values compared: the program's way and the reference's. -/
import Derived.Test.YtbkibamoigmboaaGreatDoorMO
import Derived.Test.YtbkibamoigmboaaGreatDoorMG
import Derived.Test.YtbkibamoigmboaaGreatDoorFR1
import Derived.Test.YtbkibamoigmboaaGreatDoorMT
set_option linter.unusedVariables false
set_option maxRecDepth 4000
namespace Go.Proofs.YtbkibamoigmboaaGreatDoor
namespace AI

set_option maxHeartbeats 1000000 in
theorem vbR {g : GV} (hg : g.ok) (h7 : g.k ≠ 7) (h8 : g.k ≠ 8) {n : Int} : PureP (findFn tab) 134 [g.av, .int .i64 n] (· = .bool (decide (VB g))) := by
  obtain ⟨g1, g2, g3, g4, g5, g6, g7⟩ := hg
  unfold Ln at g4 g5
  refine pureP_of rfl rfl ?_
  (conv => whnf); repeat' (first | (refine callB (bareE (v := g) g5) (fun hb => ?_) (fun hb => ?_) <;> conv => whnf) | (refine callB (inP2 (n := g.n)) (fun hr => ?_) (fun hr => ?_) <;> conv => whnf) | (refine callB (fvR (n := g.n) (d := g.d)) (fun hr => ?_) (fun hr => ?_) <;> conv => whnf) | (refine callB (strE (s := g.s) g4) (fun hr => ?_) (fun hr => ?_) <;> conv => whnf) | ((with_reducible first | apply kN | apply kW | apply kX | apply kG | apply kQ); (· exact sd); conv => whnf) | (refine pcase.mk ?_ ?_ <;> intro hc <;> (try rw [List.length_nil] at hc) <;> first | (exfalso; omega) | (exact absurd rfl hc) | conv => whnf) | (refine bcase_intro ?_ ?_ <;> intro hc <;> conv => whnf))
  all_goals clear g7 g6
  all_goals try unfold bareP at hb
  all_goals try simp only [Bool.false_eq_true, false_or, true_or] at hb
  all_goals first
    | (refine bool_t ?_; unfold VB; first | (simp_all; done) | (simp_all; omega))
    | (refine bool_f fun h => hb ?_; obtain ⟨h0, h⟩ := h; rcases h with h | h | h | h | h | h <;> first | (exfalso; omega) | (simp_all; done) | (simp_all; omega) | (refine ⟨?_, ?_, ?_, ?_⟩ <;> first | omega | simp_all))
    | (refine bool_f ?_; unfold VB; first | (simp_all; done) | (simp_all; omega))
    | trace_state

set_option maxHeartbeats 1000000 in
theorem pathRf {l : List AV} {nn : Bool} (hl : l.length < 2^63) (h : ∀ x ∈ l, Like Tryz.prog 43 x) : PureP (findFn tab) 199 [.sl nn l] (· = .bool (decide (VPa l))) := by
  have htm : (l.length : Int).tmod 2 = (l.length : Int) % 2 := Int.tmod_eq_emod_of_nonneg (by omega)
  by_cases hlen : l.length % 2 = 1 ∧ l.length ≤ 25
  · obtain ⟨hl1, hl2⟩ := hlen
    refine pureP_of rfl rfl ?_
    (conv => whnf); repeat' (first  | ((with_reducible first | apply kN | apply kW | apply kX | apply kG | apply kQ); (· exact sd); conv => whnf) | (refine pcase.mk ?_ ?_ <;> intro hc <;> (try rw [List.length_nil] at hc) <;> first | (exfalso; omega) | (exact absurd rfl hc) | conv => whnf) | (refine bcase_intro ?_ ?_ <;> intro hc <;> conv => whnf))
    refine loop_inv (fun m env s => ∃ i : Nat, m = l.length - i ∧ i ≤ l.length ∧ (∀ j (hj : j < l.length), j < i → ∃ x : GV, l[j] = x.av ∧ x.k = 5 + (j : Int) % 2 ∧ VB x) ∧ env = [(0, .sl nn l), (3, .int .i64 i)] ∧ s = ⟨[], 0⟩) ?_ _ _ _ ⟨0, rfl, by omega, fun j _ hj => absurd hj (by omega), rfl, rfl⟩
    rintro _ _ _ ⟨i, rfl, hi, hx, rfl, rfl⟩
    refine ⟨rfl, ?_⟩
    by_cases hlt : i < l.length
    · obtain ⟨gx, hgx⟩ := like_at h i
      obtain ⟨hn, he, hok⟩ := hgx hlt
      have hno : ¬ (gx.k = 5 + (i : Int) % 2 ∧ VB gx) → ¬ VPa l := fun hh hv => by
        obtain ⟨x, e, hx2⟩ := hv.2.2 i hlt
        rw [he] at e
        rw [GV.av_inj e] at hh
        exact hh hx2
      have h2 : (i : Int).tmod 2 = (i : Int) % 2 := Int.tmod_eq_emod_of_nonneg (by omega)
      (conv => whnf); repeat' (first | (apply nthK_intro; (· exact hn); conv => whnf) | (refine callB (vbR (g := gx) hok (by omega) (by omega) (n := 0)) (fun hr => ?_) (fun hr => ?_) <;> conv => whnf) | ((with_reducible first | apply kN | apply kW | apply kX | apply kG | apply kQ); (· exact sd); conv => whnf) | (refine pcase.mk ?_ ?_ <;> intro hc <;> (try rw [List.length_nil] at hc) <;> first | (exfalso; omega) | (exact absurd rfl hc) | conv => whnf) | (refine bcase_intro ?_ ?_ <;> intro hc <;> conv => whnf))
      all_goals first
        | exact again.mk ⟨_, by omega, i + 1, rfl, by omega, VPa_take hlt he (by omega) hr hx, rfl, rfl⟩
        | exact bool_f (hno fun hh => by have := hh.1; omega)
        | exact bool_f (hno fun hh => hr hh.2)
        | trace_state
    · rw [show i = l.length by omega] at hx
      (conv => whnf); repeat' (first  | ((with_reducible first | apply kN | apply kW | apply kX | apply kG | apply kQ); (· exact sd); conv => whnf) | (refine pcase.mk ?_ ?_ <;> intro hc <;> (try rw [List.length_nil] at hc) <;> first | (exfalso; omega) | (exact absurd rfl hc) | conv => whnf) | (refine bcase_intro ?_ ?_ <;> intro hc <;> conv => whnf))
      exact bool_t ⟨hl1, hl2, fun j hj => hx j hj hj⟩
  · have hno : ¬ VPa l := fun hv => hlen ⟨hv.1, hv.2.1⟩
    refine pureP_of rfl rfl ?_
    (conv => whnf); repeat' (first  | ((with_reducible first | apply kN | apply kW | apply kX | apply kG | apply kQ); (· exact sd); conv => whnf) | (refine pcase.mk ?_ ?_ <;> intro hc <;> (try rw [List.length_nil] at hc) <;> first | (exfalso; omega) | (exact absurd rfl hc) | conv => whnf) | (refine bcase_intro ?_ ?_ <;> intro hc <;> conv => whnf))
    all_goals first | exact bool_f hno | (exfalso; omega) | trace_state

theorem v7R {g : GV} (hg : g.ok) (hk : g.k = 7) {n : Int} : PureP (findFn tab) 134 [g.av, .int .i64 n] (· = .bool (decide (g.n = 0 ∧ g.d = 0 ∧ g.s = [] ∧ VPa g.l))) := by
  obtain ⟨g1, g2, g3, g4, g5, g6, g7⟩ := hg
  unfold Ln at g4 g5
  refine pureP_of rfl rfl ?_
  (conv => whnf); repeat' (first | (refine callB (bareE (v := g) g5) (fun hb => ?_) (fun hb => ?_) <;> conv => whnf) | (refine callB (pathRf (l := g.l) (nn := g.nn) g5 g7) (fun hr => ?_) (fun hr => ?_) <;> conv => whnf) | ((with_reducible first | apply kN | apply kW | apply kX | apply kG | apply kQ); (· exact sd); conv => whnf) | (refine pcase.mk ?_ ?_ <;> intro hc <;> (try rw [List.length_nil] at hc) <;> first | (exfalso; omega) | (exact absurd rfl hc) | conv => whnf) | (refine bcase_intro ?_ ?_ <;> intro hc <;> conv => whnf))
  all_goals try unfold bareP at hb
  all_goals try simp only [Bool.false_eq_true, false_or, true_or] at hb
  all_goals first
    | exact bool_t ⟨hb.1, hb.2.1, hb.2.2.1, hr⟩
    | exact bool_t ⟨hb.1, hb.2.1, hb.2.2, hr⟩
    | exact bool_f fun h => hr h.2.2.2
    | exact bool_f fun h => hb ⟨h.1, h.2.1, h.2.2.1, trivial⟩
    | exact bool_f fun h => hb ⟨h.1, h.2.1, h.2.2.1⟩
    | trace_state

set_option maxHeartbeats 1000000 in
theorem listRf {g : GV} (hg : g.ok) {z : Int} (hz : 1 ≤ z ∧ z ≤ 8) {m : Nat} (ih : ∀ {x : GV}, x.ok → PureP (findFn tab) 134 [x.av, .int .i64 (z - 1)] (· = .bool (decide (VV m x)))) :
    PureP (findFn tab) 200 [.sl g.nn g.l, .int .i64 z] (· = .bool (decide (g.l.length ≤ 64 ∧ VLi m g.l))) := by
  obtain ⟨g1, g2, g3, g4, g5, g6, g7⟩ := hg
  unfold Ln at g4 g5
  refine pureP_of rfl rfl ?_
  (conv => whnf); repeat' (first  | ((with_reducible first | apply kN | apply kW | apply kX | apply kG | apply kQ); (· exact sd); conv => whnf) | (refine pcase.mk ?_ ?_ <;> intro hc <;> (try rw [List.length_nil] at hc) <;> first | (exfalso; omega) | (exact absurd rfl hc) | conv => whnf) | (refine bcase_intro ?_ ?_ <;> intro hc <;> conv => whnf))
  all_goals first
    | exact bool_f fun h => by have := h.1; omega
    | (exfalso; omega)
    | skip
  have hl0 : g.l.length ≤ 64 := by omega
  refine loop_inv (fun mm env s => ∃ i : Nat, mm = g.l.length - i ∧ i ≤ g.l.length ∧ (∀ j (hj : j < g.l.length), j < i → ∃ x : GV, g.l[j] = x.av ∧ VV m x) ∧ env = [(0, .sl g.nn g.l), (1, .int .i64 z), (5, .int .i64 i)] ∧ s = ⟨[], 0⟩) ?_ _ _ _ ⟨0, rfl, by omega, fun j _ hj => absurd hj (by omega), rfl, rfl⟩
  rintro _ _ _ ⟨i, rfl, hi, hx, rfl, rfl⟩
  refine ⟨rfl, ?_⟩
  by_cases hlt : i < g.l.length
  · obtain ⟨gx, hgx⟩ := like_at g7 i
    obtain ⟨hn, he, hok⟩ := hgx hlt
    (conv => whnf); repeat' (first | (apply nthK_intro; (· exact hn); conv => whnf) | (refine callB (ih hok) (fun hr => ?_) (fun hr => ?_) <;> conv => whnf) | ((with_reducible first | apply kN | apply kW | apply kX | apply kG | apply kQ); (· exact sd); conv => whnf) | (refine pcase.mk ?_ ?_ <;> intro hc <;> (try rw [List.length_nil] at hc) <;> first | (exfalso; omega) | (exact absurd rfl hc) | conv => whnf) | (refine bcase_intro ?_ ?_ <;> intro hc <;> conv => whnf))
    all_goals first
      | exact again.mk ⟨_, by omega, i + 1, rfl, by omega, VL_take hlt he hr hx, rfl, rfl⟩
      | exact bool_f fun hh => by
          obtain ⟨x, e, hv⟩ := hh.2 i hlt
          rw [he] at e
          rw [GV.av_inj e] at hr
          exact hr hv
      | trace_state
  · rw [show i = g.l.length by omega] at hx
    (conv => whnf); repeat' (first  | ((with_reducible first | apply kN | apply kW | apply kX | apply kG | apply kQ); (· exact sd); conv => whnf) | (refine pcase.mk ?_ ?_ <;> intro hc <;> (try rw [List.length_nil] at hc) <;> first | (exfalso; omega) | (exact absurd rfl hc) | conv => whnf) | (refine bcase_intro ?_ ?_ <;> intro hc <;> conv => whnf))
    exact bool_t ⟨hl0, fun j hj => hx j hj hj⟩

theorem v8R {g : GV} (hg : g.ok) (hk : g.k = 8) {z : Int} {p : Prop} [Decidable p] (hlist : PureP (findFn tab) 200 [.sl g.nn g.l, .int .i64 z] (· = .bool (decide p))) :
    PureP (findFn tab) 134 [g.av, .int .i64 z] (· = .bool (decide (g.n = 0 ∧ g.d = 0 ∧ g.s = [] ∧ p))) := by
  obtain ⟨g1, g2, g3, g4, g5, g6, g7⟩ := hg
  unfold Ln at g4 g5
  refine pureP_of rfl rfl ?_
  (conv => whnf); repeat' (first | (refine callB (bareE (v := g) g5) (fun hb => ?_) (fun hb => ?_) <;> conv => whnf) | (refine callB hlist (fun hr => ?_) (fun hr => ?_) <;> conv => whnf) | ((with_reducible first | apply kN | apply kW | apply kX | apply kG | apply kQ); (· exact sd); conv => whnf) | (refine pcase.mk ?_ ?_ <;> intro hc <;> (try rw [List.length_nil] at hc) <;> first | (exfalso; omega) | (exact absurd rfl hc) | conv => whnf) | (refine bcase_intro ?_ ?_ <;> intro hc <;> conv => whnf))
  all_goals try unfold bareP at hb
  all_goals try simp only [Bool.false_eq_true, false_or, true_or] at hb
  all_goals first
    | exact bool_t ⟨hb.1, hb.2.1, hb.2.2.1, hr⟩
    | exact bool_t ⟨hb.1, hb.2.1, hb.2.2, hr⟩
    | exact bool_f fun h => hr h.2.2.2
    | exact bool_f fun h => hb ⟨h.1, h.2.1, h.2.2.1, trivial⟩
    | exact bool_f fun h => hb ⟨h.1, h.2.1, h.2.2.1⟩
    | trace_state

theorem list0R {l : List AV} {nn : Bool} (hl : l.length < 2^63) : PureP (findFn tab) 200 [.sl nn l, .int .i64 0] (· = .bool (decide False)) := by
  refine pureP_of rfl rfl ?_
  (conv => whnf); repeat' (first  | ((with_reducible first | apply kN | apply kW | apply kX | apply kG | apply kQ); (· exact sd); conv => whnf) | (refine pcase.mk ?_ ?_ <;> intro hc <;> (try rw [List.length_nil] at hc) <;> first | (exfalso; omega) | (exact absurd rfl hc) | conv => whnf) | (refine bcase_intro ?_ ?_ <;> intro hc <;> conv => whnf))
  all_goals rfl

theorem validRf : ∀ (m : Nat), m ≤ 8 → ∀ {g : GV}, g.ok → PureP (findFn tab) 134 [g.av, .int .i64 (m : Int)] (· = .bool (decide (VV m g))) := by
  intro m
  induction m with
  | zero =>
    intro _ g hg
    by_cases h7 : g.k = 7
    · rw [show AV.bool (decide (VV 0 g)) = _ from dec_iff (VV_7 h7)]
      exact v7R hg h7
    by_cases h8 : g.k = 8
    · rw [show AV.bool (decide (VV 0 g)) = AV.bool (decide (g.n = 0 ∧ g.d = 0 ∧ g.s = [] ∧ False)) from dec_iff ⟨fun h => absurd h (VV0_8 h8), fun h => h.2.2.2.elim⟩]
      exact v8R hg h8 (list0R hg.2.2.2.2.1)
    rw [show AV.bool (decide (VV 0 g)) = AV.bool (decide (VB g)) from dec_iff (VV_b h7 h8)]
    exact vbR hg h7 h8
  | succ m ih =>
    intro hm g hg
    by_cases h7 : g.k = 7
    · rw [show AV.bool (decide (VV (m + 1) g)) = _ from dec_iff (VV_7 h7)]
      exact v7R hg h7
    by_cases h8 : g.k = 8
    · rw [show AV.bool (decide (VV (m + 1) g)) = _ from dec_iff (VV_8 h8)]
      exact v8R hg h8 (listRf hg (by omega) fun {x} hx => by
        rw [show ((m + 1 : Nat) : Int) - 1 = (m : Int) by omega]
        exact ih (by omega) hx)
    rw [show AV.bool (decide (VV (m + 1) g)) = AV.bool (decide (VB g)) from dec_iff (VV_b h7 h8)]
    exact vbR hg h7 h8

/-- the reference's Valid, exactly -/
theorem ValidR {g : GV} (hg : g.ok) : PureP (findFn tab) 89 [g.av] (· = .bool (decide (VV 8 g))) := by
  have h := validRf 8 (by omega) hg
  refine pureP_of rfl rfl ?_
  (conv => whnf); repeat' (first | (refine callB h (fun hr => ?_) (fun hr => ?_) <;> conv => whnf) | ((with_reducible first | apply kN | apply kW | apply kX | apply kG | apply kQ); (· exact sd); conv => whnf) | (refine pcase.mk ?_ ?_ <;> intro hc <;> (try rw [List.length_nil] at hc) <;> first | (exfalso; omega) | (exact absurd rfl hc) | conv => whnf) | (refine bcase_intro ?_ ?_ <;> intro hc <;> conv => whnf))
  all_goals first | exact bool_t hr | exact bool_f hr

end AI
end Go.Proofs.YtbkibamoigmboaaGreatDoor
set_option linter.unusedVariables false
namespace Go.Proofs.YtbkibamoigmboaaGreatDoor
namespace AI

/-- a valid number -/
def isN (g : GV) : Prop := VV 8 g ∧ (g.k = 2 ∨ g.k = 3)
noncomputable instance (g : GV) : Decidable (isN g) := by unfold isN; infer_instance
/-- its denominator -/
def dn (g : GV) : Int := if g.k = 2 then 1 else g.d
theorem isN_VF {g : GV} (h : isN g) : VF g.n (dn g) := by
  obtain ⟨hv, hk⟩ := h
  rw [VV_b (by omega) (by omega)] at hv
  obtain ⟨h1, h2⟩ := hv
  unfold dn
  rcases hk with hk | hk
  · rw [if_pos hk]
    rcases h2 with h | h | h | h | h | h <;> first | (exfalso; omega) | exact ⟨by omega, by omega, h.2.1, by simp⟩
  · rw [if_neg (by omega)]
    rcases h2 with h | h | h | h | h | h <;> first | (exfalso; omega) | exact h.2.2.1
theorem vP {g : GV} (hg : g.ok) (h : VV 8 g) : PureP (findFn tab) 62 [g.av] (· = .bool true) := by have := ValidP hg; rwa [decide_eq_true h] at this
theorem vPn {g : GV} (hg : g.ok) (h : ¬ VV 8 g) : PureP (findFn tab) 62 [g.av] (· = .bool false) := by have := ValidP hg; rwa [decide_eq_false h] at this
theorem vR {g : GV} (hg : g.ok) (h : VV 8 g) : PureP (findFn tab) 89 [g.av] (· = .bool true) := by have := ValidR hg; rwa [decide_eq_true h] at this
theorem vRn {g : GV} (hg : g.ok) (h : ¬ VV 8 g) : PureP (findFn tab) 89 [g.av] (· = .bool false) := by have := ValidR hg; rwa [decide_eq_false h] at this

theorem nP1 {g : GV} (hg : g.ok) (h : isN g) : PureP (findFn tab) 72 [g.av] (· = .tup [.agg [.int .i64 g.n, .int .i64 (dn g)], .bool true]) := by
  have hv := vP hg h.1
  rcases h.2 with hk | hk
  · have e : dn g = 1 := if_pos hk
    rw [e]
    refine pureP_of rfl rfl ?_
    (conv => whnf); repeat' (first | (refine callK_of hv ?_; rintro _ rfl; conv => whnf) | ((with_reducible first | apply kN | apply kW | apply kX | apply kG | apply kQ); (· exact sd); conv => whnf) | (refine pcase.mk ?_ ?_ <;> intro hc <;> (try rw [List.length_nil] at hc) <;> first | (exfalso; omega) | (exact absurd rfl hc) | conv => whnf) | (refine bcase_intro ?_ ?_ <;> intro hc <;> conv => whnf))
    all_goals first | rfl | (trace_state; fail "nP1")
  · have e : dn g = g.d := if_neg (by omega)
    rw [e]
    refine pureP_of rfl rfl ?_
    (conv => whnf); repeat' (first | (refine callK_of hv ?_; rintro _ rfl; conv => whnf) | ((with_reducible first | apply kN | apply kW | apply kX | apply kG | apply kQ); (· exact sd); conv => whnf) | (refine pcase.mk ?_ ?_ <;> intro hc <;> (try rw [List.length_nil] at hc) <;> first | (exfalso; omega) | (exact absurd rfl hc) | conv => whnf) | (refine bcase_intro ?_ ?_ <;> intro hc <;> conv => whnf))
    all_goals first | rfl | (trace_state; fail "nP1")
theorem nP0 {g : GV} (hg : g.ok) (h : ¬ isN g) : PureP (findFn tab) 72 [g.av] (· = .tup [.agg [.int .i64 0, .int .i64 0], .bool false]) := by
  by_cases hk : g.k = 2 ∨ g.k = 3
  · have hv := vPn hg (fun hv => h ⟨hv, hk⟩)
    refine pureP_of rfl rfl ?_
    (conv => whnf); repeat' (first | (refine callK_of hv ?_; rintro _ rfl; conv => whnf) | ((with_reducible first | apply kN | apply kW | apply kX | apply kG | apply kQ); (· exact sd); conv => whnf) | (refine pcase.mk ?_ ?_ <;> intro hc <;> (try rw [List.length_nil] at hc) <;> first | (exfalso; omega) | (exact absurd rfl hc) | conv => whnf) | (refine bcase_intro ?_ ?_ <;> intro hc <;> conv => whnf))
    all_goals first | rfl | (trace_state; fail "nP0")
  · refine pureP_of rfl rfl ?_
    (conv => whnf); repeat' (first  | ((with_reducible first | apply kN | apply kW | apply kX | apply kG | apply kQ); (· exact sd); conv => whnf) | (refine pcase.mk ?_ ?_ <;> intro hc <;> (try rw [List.length_nil] at hc) <;> first | (exfalso; omega) | (exact absurd rfl hc) | conv => whnf) | (refine bcase_intro ?_ ?_ <;> intro hc <;> conv => whnf))
    all_goals first | rfl | (trace_state; fail "nP0")
theorem nR1 {g : GV} (hg : g.ok) (h : isN g) : PureP (findFn tab) 90 [g.av] (· = .tup [.agg [.int .i64 g.n, .int .i64 (dn g)], .bool true]) := by
  have hv := vR hg h.1
  rcases h.2 with hk | hk
  · have e : dn g = 1 := if_pos hk
    rw [e]
    refine pureP_of rfl rfl ?_
    (conv => whnf); repeat' (first | (refine callK_of hv ?_; rintro _ rfl; conv => whnf) | ((with_reducible first | apply kN | apply kW | apply kX | apply kG | apply kQ); (· exact sd); conv => whnf) | (refine pcase.mk ?_ ?_ <;> intro hc <;> (try rw [List.length_nil] at hc) <;> first | (exfalso; omega) | (exact absurd rfl hc) | conv => whnf) | (refine bcase_intro ?_ ?_ <;> intro hc <;> conv => whnf))
    all_goals first | rfl | (trace_state; fail "nR1")
  · have e : dn g = g.d := if_neg (by omega)
    rw [e]
    refine pureP_of rfl rfl ?_
    (conv => whnf); repeat' (first | (refine callK_of hv ?_; rintro _ rfl; conv => whnf) | ((with_reducible first | apply kN | apply kW | apply kX | apply kG | apply kQ); (· exact sd); conv => whnf) | (refine pcase.mk ?_ ?_ <;> intro hc <;> (try rw [List.length_nil] at hc) <;> first | (exfalso; omega) | (exact absurd rfl hc) | conv => whnf) | (refine bcase_intro ?_ ?_ <;> intro hc <;> conv => whnf))
    all_goals first | rfl | (trace_state; fail "nR1")
theorem nR0 {g : GV} (hg : g.ok) (h : ¬ isN g) : PureP (findFn tab) 90 [g.av] (· = .tup [.agg [.int .i64 0, .int .i64 0], .bool false]) := by
  by_cases hV : VV 8 g
  · have hv := vR hg hV
    have hk : ¬ (g.k = 2 ∨ g.k = 3) := fun hk => h ⟨hV, hk⟩
    refine pureP_of rfl rfl ?_
    (conv => whnf); repeat' (first | (refine callK_of hv ?_; rintro _ rfl; conv => whnf) | ((with_reducible first | apply kN | apply kW | apply kX | apply kG | apply kQ); (· exact sd); conv => whnf) | (refine pcase.mk ?_ ?_ <;> intro hc <;> (try rw [List.length_nil] at hc) <;> first | (exfalso; omega) | (exact absurd rfl hc) | conv => whnf) | (refine bcase_intro ?_ ?_ <;> intro hc <;> conv => whnf))
    all_goals first | rfl | (trace_state; fail "nR0")
  · have hv := vRn hg hV
    refine pureP_of rfl rfl ?_
    (conv => whnf); repeat' (first | (refine callK_of hv ?_; rintro _ rfl; conv => whnf) | ((with_reducible first | apply kN | apply kW | apply kX | apply kG | apply kQ); (· exact sd); conv => whnf) | (refine pcase.mk ?_ ?_ <;> intro hc <;> (try rw [List.length_nil] at hc) <;> first | (exfalso; omega) | (exact absurd rfl hc) | conv => whnf) | (refine bcase_intro ?_ ?_ <;> intro hc <;> conv => whnf))
    all_goals first | rfl | (trace_state; fail "nR0")

/-- the truth of a statement -/
def tv (p : Prop) [Decidable p] : Int := if p then 2 else 0
theorem tv_le (p : Prop) [Decidable p] : 0 ≤ tv p ∧ tv p ≤ 2 := by unfold tv; split <;> omega
theorem tv_iff {p q : Prop} [Decidable p] [Decidable q] (h : p ↔ q) : tv p = tv q := by
  unfold tv
  by_cases hp : p
  · rw [if_pos hp, if_pos (h.1 hp)]
  · rw [if_neg hp, if_neg (fun hq => hp (h.2 hq))]
theorem tvT {p : Prop} [Decidable p] (h : p) : AV.int .i64 2 = .int .i64 (tv p) := by unfold tv; rw [if_pos h]
theorem tvF {p : Prop} [Decidable p] (h : ¬ p) : AV.int .i64 0 = .int .i64 (tv p) := by unfold tv; rw [if_neg h]
theorem truthT : PureP (findFn tab) 73 [.bool true] (· = .int .i64 2) := ⟨_, ⟨20, by kernel_rfl⟩, rfl⟩
theorem truthF : PureP (findFn tab) 73 [.bool false] (· = .int .i64 0) := ⟨_, ⟨20, by kernel_rfl⟩, rfl⟩
theorem yesT : PureP (findFn tab) 91 [.bool true] (· = .int .i64 2) := ⟨_, ⟨20, by kernel_rfl⟩, rfl⟩
theorem yesF' : PureP (findFn tab) 91 [.bool false] (· = .int .i64 0) := ⟨_, ⟨20, by kernel_rfl⟩, rfl⟩
theorem truthD {p : Prop} [Decidable p] : PureP (findFn tab) 73 [.bool (decide p)] (· = .int .i64 (tv p)) := by
  unfold tv
  by_cases h : p
  · rw [decide_eq_true h, if_pos h]; exact truthT
  · rw [decide_eq_false h, if_neg h]; exact truthF

theorem eqF2 {a b c d : Int} : eqAV (.flat [.int, .int]) (.agg [.int .i64 a, .int .i64 b]) (.agg [.int .i64 c, .int .i64 d]) = some (decide (a = c ∧ b = d)) := by
  have e : ∀ z z' : Int, (z == z') = decide (z = z') := fun z z' => by by_cases h : z = z' <;> simp [h]
  by_cases h1 : a = c <;> by_cases h2 : b = d <;> simp [eqAV, eqFlat, eqLeaf, e, h1, h2]

theorem kindR {a : GV} (h : VV 8 a) (h7 : a.k ≠ 7) (h8 : a.k ≠ 8) : (a.k = 4 → a.n = 0) ∧ (a.k ≠ 4 → a.s = []) := by
  rw [VV_b h7 h8] at h
  obtain ⟨_, h⟩ := h
  rcases h with h | h | h | h | h | h <;> exact ⟨fun hk => by first | omega | exact h.2.1, fun hk => by first | exact h.2.2.2 | exact h.2.2.2.2 | (exfalso; omega)⟩

/-- values without lists, or of two kinds -/
theorem equalLeaf {a b : GV} (ha : a.ok) (hb : b.ok) (va : VV 8 a) (vb : VV 8 b) (hab : a.k = b.k → a.k ≠ 7 ∧ a.k ≠ 8) :
    ∃ e : Int, (0 ≤ e ∧ e ≤ 2) ∧ PureP (findFn tab) 71 [a.av, b.av] (· = .int .i64 e) ∧ PureP (findFn tab) 49 [a.av, b.av] (· = .int .i64 e) := by
  have r1 := vR ha va
  have r2 := vR hb vb
  by_cases h0 : a.k = 0 ∨ b.k = 0
  · refine ⟨1, by omega, ?_, ?_⟩
    · refine pureP_of rfl rfl ?_
      (conv => whnf); repeat' (first  | ((with_reducible first | apply kN | apply kW | apply kX | apply kG | apply kQ); (· exact sd); conv => whnf) | (refine pcase.mk ?_ ?_ <;> intro hc <;> (try rw [List.length_nil] at hc) <;> first | (exfalso; omega) | (exact absurd rfl hc) | conv => whnf) | (refine bcase_intro ?_ ?_ <;> intro hc <;> conv => whnf))
      all_goals first | rfl | (trace_state; fail "eq0")
    · refine pureP_of rfl rfl ?_
      (conv => whnf); repeat' (first  | ((with_reducible first | apply kN | apply kW | apply kX | apply kG | apply kQ); (· exact sd); conv => whnf) | (refine pcase.mk ?_ ?_ <;> intro hc <;> (try rw [List.length_nil] at hc) <;> first | (exfalso; omega) | (exact absurd rfl hc) | conv => whnf) | (refine bcase_intro ?_ ?_ <;> intro hc <;> conv => whnf))
      all_goals first | rfl | (trace_state; fail "eq0")
  by_cases hn : isN a ∧ isN b
  · refine ⟨tv (a.n = b.n ∧ dn a = dn b), tv_le _, ?_, ?_⟩
    · have p1 := nP1 ha hn.1
      have p2 := nP1 hb hn.2
      refine pureP_of rfl rfl ?_
      (conv => whnf); repeat' (first | (refine callK_of p1 ?_; rintro _ rfl; conv => whnf) | (refine callK_of p2 ?_; rintro _ rfl; conv => whnf) | (refine callK_of truthT ?_; rintro _ rfl; conv => whnf) | (refine callK_of truthF ?_; rintro _ rfl; conv => whnf) | (refine getK_intro (congrArg (Option.map AV.bool) eqF2) ?_; conv => whnf) | ((with_reducible first | apply kN | apply kW | apply kX | apply kG | apply kQ); (· exact sd); conv => whnf) | (refine pcase.mk ?_ ?_ <;> intro hc <;> (try rw [List.length_nil] at hc) <;> first | (exfalso; omega) | (exact absurd rfl hc) | conv => whnf) | (refine bcase_intro ?_ ?_ <;> intro hc <;> conv => whnf))
      all_goals first | exact tvT (of_decide_eq_true (by assumption)) | exact tvF (of_decide_eq_false (by assumption)) | (trace_state; fail "eqN")
    · have p1 := nR1 ha hn.1
      have p2 := nR1 hb hn.2
      have p3 := cmpR3 (isN_VF hn.1) (isN_VF hn.2)
      have hf := frac_eqI (isN_VF hn.1) (isN_VF hn.2)
      refine pureP_of rfl rfl ?_
      (conv => whnf); repeat' (first | (refine callK_of p1 ?_; rintro _ rfl; conv => whnf) | (refine callK_of p2 ?_; rintro _ rfl; conv => whnf) | (refine callK_of p3 ?_; rintro _ rfl; conv => whnf) | (refine callK_of r1 ?_; rintro _ rfl; conv => whnf) | (refine callK_of r2 ?_; rintro _ rfl; conv => whnf) | (refine callK_of yesT ?_; rintro _ rfl; conv => whnf) | (refine callK_of yesF' ?_; rintro _ rfl; conv => whnf) | ((with_reducible first | apply kN | apply kW | apply kX | apply kG | apply kQ); (· exact sd); conv => whnf) | (refine pcase.mk ?_ ?_ <;> intro hc <;> (try rw [List.length_nil] at hc) <;> first | (exfalso; omega) | (exact absurd rfl hc) | conv => whnf) | (refine bcase_intro ?_ ?_ <;> intro hc <;> conv => whnf))
      all_goals first | exact tvT (hf.1 (by assumption)) | exact tvF (fun h => absurd (hf.2 h) (by assumption)) | (trace_state; fail "eqNR")
  by_cases hk : a.k = b.k
  · obtain ⟨h7, h8⟩ := hab hk
    have n1 : ¬ isN a := fun h => hn ⟨h, vb, by have := h.2; omega⟩
    have n2 : ¬ isN b := fun h => hn ⟨⟨va, by have := h.2; omega⟩, h⟩
    have h23 : a.k ≠ 2 ∧ a.k ≠ 3 := ⟨fun h => n1 ⟨va, .inl h⟩, fun h => n1 ⟨va, .inr h⟩⟩
    obtain ⟨ka1, ka2⟩ := kindR va h7 h8
    obtain ⟨kb1, kb2⟩ := kindR vb (by omega) (by omega)
    refine ⟨tv (a.n = b.n ∧ a.s = b.s), tv_le _, ?_, ?_⟩
    · have p1 := nP0 ha n1
      have p2 := nP0 hb n2
      refine pureP_of rfl rfl ?_
      (conv => whnf); repeat' (first | (refine callK_of p1 ?_; rintro _ rfl; conv => whnf) | (refine callK_of p2 ?_; rintro _ rfl; conv => whnf) | (refine callK_of truthT ?_; rintro _ rfl; conv => whnf) | (refine callK_of truthF ?_; rintro _ rfl; conv => whnf) | ((with_reducible first | apply kN | apply kW | apply kX | apply kG | apply kQ); (· exact sd); conv => whnf) | (refine pcase.mk ?_ ?_ <;> intro hc <;> (try rw [List.length_nil] at hc) <;> first | (exfalso; omega) | (exact absurd rfl hc) | conv => whnf) | (refine bcase_intro ?_ ?_ <;> intro hc <;> conv => whnf))
      all_goals first | exact tvT ⟨by assumption, by assumption⟩ | exact tvF (fun h => absurd h.1 (by assumption)) | exact tvF (fun h => absurd h.2 (by assumption)) | (trace_state; fail "eqS")
    · have p1 := nR0 ha n1
      have p2 := nR0 hb n2
      by_cases h4 : a.k = 4
      · rw [tv_iff (q := a.s = b.s) ⟨fun h => h.2, fun h => ⟨by rw [ka1 h4, kb1 (by omega)], h⟩⟩]
        refine pureP_of rfl rfl ?_
        (conv => whnf); repeat' (first | (refine callK_of p1 ?_; rintro _ rfl; conv => whnf) | (refine callK_of p2 ?_; rintro _ rfl; conv => whnf) | (refine callK_of r1 ?_; rintro _ rfl; conv => whnf) | (refine callK_of r2 ?_; rintro _ rfl; conv => whnf) | (refine callK_of yesT ?_; rintro _ rfl; conv => whnf) | (refine callK_of yesF' ?_; rintro _ rfl; conv => whnf) | ((with_reducible first | apply kN | apply kW | apply kX | apply kG | apply kQ); (· exact sd); conv => whnf) | (refine pcase.mk ?_ ?_ <;> intro hc <;> (try rw [List.length_nil] at hc) <;> first | (exfalso; omega) | (exact absurd rfl hc) | conv => whnf) | (refine bcase_intro ?_ ?_ <;> intro hc <;> conv => whnf))
        all_goals first | exact tvT (by assumption) | exact tvF (by assumption) | (trace_state; fail "eqSR4")
      · rw [tv_iff (q := a.n = b.n) ⟨fun h => h.1, fun h => ⟨h, by rw [ka2 h4, kb2 (by omega)]⟩⟩]
        refine pureP_of rfl rfl ?_
        (conv => whnf); repeat' (first | (refine callK_of p1 ?_; rintro _ rfl; conv => whnf) | (refine callK_of p2 ?_; rintro _ rfl; conv => whnf) | (refine callK_of r1 ?_; rintro _ rfl; conv => whnf) | (refine callK_of r2 ?_; rintro _ rfl; conv => whnf) | (refine callK_of yesT ?_; rintro _ rfl; conv => whnf) | (refine callK_of yesF' ?_; rintro _ rfl; conv => whnf) | ((with_reducible first | apply kN | apply kW | apply kX | apply kG | apply kQ); (· exact sd); conv => whnf) | (refine pcase.mk ?_ ?_ <;> intro hc <;> (try rw [List.length_nil] at hc) <;> first | (exfalso; omega) | (exact absurd rfl hc) | conv => whnf) | (refine bcase_intro ?_ ?_ <;> intro hc <;> conv => whnf))
        all_goals first | exact tvT (by assumption) | exact tvF (by assumption) | (trace_state; fail "eqSRn")
  · refine ⟨0, by omega, ?_, ?_⟩
    · obtain ⟨x1, y1, b1, e1, p1⟩ : ∃ x y t, (isN a ↔ t = true) ∧ PureP (findFn tab) 72 [a.av] (· = .tup [.agg [.int .i64 x, .int .i64 y], .bool t]) := by
        by_cases h : isN a
        · exact ⟨_, _, true, by simp [h], nP1 ha h⟩
        · exact ⟨_, _, false, by simp [h], nP0 ha h⟩
      obtain ⟨x2, y2, b2, e2, p2⟩ : ∃ x y t, (isN b ↔ t = true) ∧ PureP (findFn tab) 72 [b.av] (· = .tup [.agg [.int .i64 x, .int .i64 y], .bool t]) := by
        by_cases h : isN b
        · exact ⟨_, _, true, by simp [h], nP1 hb h⟩
        · exact ⟨_, _, false, by simp [h], nP0 hb h⟩
      rw [e1, e2] at hn
      cases b1 <;> cases b2 <;> (try exact absurd ⟨rfl, rfl⟩ hn)
      all_goals
        refine pureP_of rfl rfl ?_
        (conv => whnf); repeat' (first | (refine callK_of p1 ?_; rintro _ rfl; conv => whnf) | (refine callK_of p2 ?_; rintro _ rfl; conv => whnf) | ((with_reducible first | apply kN | apply kW | apply kX | apply kG | apply kQ); (· exact sd); conv => whnf) | (refine pcase.mk ?_ ?_ <;> intro hc <;> (try rw [List.length_nil] at hc) <;> first | (exfalso; omega) | (exact absurd rfl hc) | conv => whnf) | (refine bcase_intro ?_ ?_ <;> intro hc <;> conv => whnf))
        all_goals first | rfl | (trace_state; fail "eqD")
    · obtain ⟨x1, y1, b1, e1, p1⟩ : ∃ x y t, (isN a ↔ t = true) ∧ PureP (findFn tab) 90 [a.av] (· = .tup [.agg [.int .i64 x, .int .i64 y], .bool t]) := by
        by_cases h : isN a
        · exact ⟨_, _, true, by simp [h], nR1 ha h⟩
        · exact ⟨_, _, false, by simp [h], nR0 ha h⟩
      obtain ⟨x2, y2, b2, e2, p2⟩ : ∃ x y t, (isN b ↔ t = true) ∧ PureP (findFn tab) 90 [b.av] (· = .tup [.agg [.int .i64 x, .int .i64 y], .bool t]) := by
        by_cases h : isN b
        · exact ⟨_, _, true, by simp [h], nR1 hb h⟩
        · exact ⟨_, _, false, by simp [h], nR0 hb h⟩
      rw [e1, e2] at hn
      cases b1 <;> cases b2 <;> (try exact absurd ⟨rfl, rfl⟩ hn)
      all_goals
        refine pureP_of rfl rfl ?_
        (conv => whnf); repeat' (first | (refine callK_of p1 ?_; rintro _ rfl; conv => whnf) | (refine callK_of p2 ?_; rintro _ rfl; conv => whnf) | (refine callK_of r1 ?_; rintro _ rfl; conv => whnf) | (refine callK_of r2 ?_; rintro _ rfl; conv => whnf) | ((with_reducible first | apply kN | apply kW | apply kX | apply kG | apply kQ); (· exact sd); conv => whnf) | (refine pcase.mk ?_ ?_ <;> intro hc <;> (try rw [List.length_nil] at hc) <;> first | (exfalso; omega) | (exact absurd rfl hc) | conv => whnf) | (refine bcase_intro ?_ ?_ <;> intro hc <;> conv => whnf))
        all_goals first | rfl | (trace_state; fail "eqDR")

end AI
end Go.Proofs.YtbkibamoigmboaaGreatDoor
set_option linter.unusedVariables false
namespace Go.Proofs.YtbkibamoigmboaaGreatDoor
namespace AI

def mn (a b : Int) : Int := if a ≤ b then a else b
theorem mn_le {a b : Int} (ha : 0 ≤ a ∧ a ≤ 2) (hb : 0 ≤ b ∧ b ≤ 2) : 0 ≤ mn a b ∧ mn a b ≤ 2 := by unfold mn; split <;> omega
theorem knownP {a : Int} (ha : 0 ≤ a ∧ a ≤ 2) : PureP (findFn tab) 160 [.int .i64 a] (· = .int .i64 a) := by
  refine pureP_of rfl rfl ?_
  (conv => whnf); repeat' (first  | ((with_reducible first | apply kN | apply kW | apply kX | apply kG | apply kQ); (· exact sd); conv => whnf) | (refine pcase.mk ?_ ?_ <;> intro hc <;> (try rw [List.length_nil] at hc) <;> first | (exfalso; omega) | (exact absurd rfl hc) | conv => whnf) | (refine bcase_intro ?_ ?_ <;> intro hc <;> conv => whnf))
  all_goals first | rfl | exact congrArg (AV.int .i64) (by omega) | (trace_state; fail "known")
theorem triR {a : Int} (ha : 0 ≤ a ∧ a ≤ 2) : PureP (findFn tab) 140 [.int .i64 a] (· = .int .i64 a) := by
  refine pureP_of rfl rfl ?_
  (conv => whnf); repeat' (first  | ((with_reducible first | apply kN | apply kW | apply kX | apply kG | apply kQ); (· exact sd); conv => whnf) | (refine pcase.mk ?_ ?_ <;> intro hc <;> (try rw [List.length_nil] at hc) <;> first | (exfalso; omega) | (exact absurd rfl hc) | conv => whnf) | (refine bcase_intro ?_ ?_ <;> intro hc <;> conv => whnf))
  all_goals first | rfl | exact congrArg (AV.int .i64) (by omega) | (trace_state; fail "tri")
theorem andP {a b : Int} (ha : 0 ≤ a ∧ a ≤ 2) (hb : 0 ≤ b ∧ b ≤ 2) : PureP (findFn tab) 111 [.int .i64 a, .int .i64 b] (· = .int .i64 (mn a b)) := by
  refine pureP_of rfl rfl ?_
  (conv => whnf); repeat' (first | (refine callK_of (knownP ha) ?_; rintro _ rfl; conv => whnf) | (refine callK_of (knownP hb) ?_; rintro _ rfl; conv => whnf) | ((with_reducible first | apply kN | apply kW | apply kX | apply kG | apply kQ); (· exact sd); conv => whnf) | (refine pcase.mk ?_ ?_ <;> intro hc <;> (try rw [List.length_nil] at hc) <;> first | (exfalso; omega) | (exact absurd rfl hc) | conv => whnf) | (refine bcase_intro ?_ ?_ <;> intro hc <;> conv => whnf))
  all_goals first | rfl | exact congrArg (AV.int .i64) (by unfold mn; split <;> omega) | (trace_state; fail "andP")
theorem andR {a b : Int} (ha : 0 ≤ a ∧ a ≤ 2) (hb : 0 ≤ b ∧ b ≤ 2) : PureP (findFn tab) 93 [.int .i64 a, .int .i64 b] (· = .int .i64 (mn a b)) := by
  refine pureP_of rfl rfl ?_
  (conv => whnf); repeat' (first | (refine callK_of (triR ha) ?_; rintro _ rfl; conv => whnf) | (refine callK_of (triR hb) ?_; rintro _ rfl; conv => whnf) | ((with_reducible first | apply kN | apply kW | apply kX | apply kG | apply kQ); (· exact sd); conv => whnf) | (refine pcase.mk ?_ ?_ <;> intro hc <;> (try rw [List.length_nil] at hc) <;> first | (exfalso; omega) | (exact absurd rfl hc) | conv => whnf) | (refine bcase_intro ?_ ?_ <;> intro hc <;> conv => whnf))
  all_goals first | rfl | exact congrArg (AV.int .i64) (by unfold mn; split <;> omega) | (trace_state; fail "andR")

/-- all of them -/
def allE (e : Nat → Int) : Nat → Int
  | 0 => 2
  | i + 1 => mn (allE e i) (e i)
theorem allE_le {e : Nat → Int} : ∀ {i : Nat}, (∀ j, j < i → 0 ≤ e j ∧ e j ≤ 2) → 0 ≤ allE e i ∧ allE e i ≤ 2
  | 0, _ => by unfold allE; omega
  | i + 1, h => mn_le (allE_le fun j hj => h j (by omega)) (h i (by omega))

/-- elements equal, both ways -/
def EqB (x y : AV) (e : Int) : Prop := (0 ≤ e ∧ e ≤ 2) ∧ PureP (findFn tab) 71 [x, y] (· = .int .i64 e) ∧ PureP (findFn tab) 49 [x, y] (· = .int .i64 e)

/-- values of one kind with lists -/
theorem equalL {a b : GV} (ha : a.ok) (hb : b.ok) (va : VV 8 a) (vb : VV 8 b) (hk : a.k = b.k) (h78 : a.k = 7 ∨ a.k = 8) (hel : ∀ i (h : i < a.l.length) (h' : i < b.l.length), ∃ e, EqB a.l[i] b.l[i] e) : ∃ e, EqB a.av b.av e := by
  have r1 := vR ha va
  have r2 := vR hb vb
  have n1 : ¬ isN a := fun h => by have := h.2; omega
  have n2 : ¬ isN b := fun h => by have := h.2; omega
  have p1 := nP0 ha n1
  have p2 := nP0 hb n2
  have q1 := nR0 ha n1
  have q2 := nR0 hb n2
  have la : a.l.length < 2^63 := ha.2.2.2.2.1
  have lb : b.l.length < 2^63 := hb.2.2.2.2.1
  by_cases hl : a.l.length = b.l.length
  case neg =>
    refine ⟨0, by omega, ?_, ?_⟩
    · refine pureP_of rfl rfl ?_
      (conv => whnf); repeat' (first | (refine callK_of p1 ?_; rintro _ rfl; conv => whnf) | (refine callK_of p2 ?_; rintro _ rfl; conv => whnf) | ((with_reducible first | apply kN | apply kW | apply kX | apply kG | apply kQ); (· exact sd); conv => whnf) | (refine pcase.mk ?_ ?_ <;> intro hc <;> (try rw [List.length_nil] at hc) <;> first | (exfalso; omega) | (exact absurd rfl hc) | conv => whnf) | (refine bcase_intro ?_ ?_ <;> intro hc <;> conv => whnf))
      all_goals first | rfl | (trace_state; fail "eqL0")
    · refine pureP_of rfl rfl ?_
      (conv => whnf); repeat' (first | (refine callK_of q1 ?_; rintro _ rfl; conv => whnf) | (refine callK_of q2 ?_; rintro _ rfl; conv => whnf) | (refine callK_of r1 ?_; rintro _ rfl; conv => whnf) | (refine callK_of r2 ?_; rintro _ rfl; conv => whnf) | ((with_reducible first | apply kN | apply kW | apply kX | apply kG | apply kQ); (· exact sd); conv => whnf) | (refine pcase.mk ?_ ?_ <;> intro hc <;> (try rw [List.length_nil] at hc) <;> first | (exfalso; omega) | (exact absurd rfl hc) | conv => whnf) | (refine bcase_intro ?_ ?_ <;> intro hc <;> conv => whnf))
      all_goals first | rfl | (trace_state; fail "eqL0R")
  case pos =>
    have hex : ∃ e : Nat → Int, ∀ i (h : i < a.l.length) (h' : i < b.l.length), EqB a.l[i] b.l[i] (e i) := by
      refine ⟨fun i => if h : i < a.l.length ∧ i < b.l.length then Classical.choose (hel i h.1 h.2) else 0, fun i h h' => ?_⟩
      simp only [h, h', and_self, dif_pos]
      exact Classical.choose_spec (hel i h h')
    obtain ⟨e, he⟩ := hex
    refine ⟨allE e a.l.length, allE_le fun j hj => (he j hj (by omega)).1, ?_, ?_⟩
    · refine pureP_of rfl rfl ?_
      (conv => whnf); repeat' (first | (refine callK_of p1 ?_; rintro _ rfl; conv => whnf) | (refine callK_of p2 ?_; rintro _ rfl; conv => whnf) | ((with_reducible first | apply kN | apply kW | apply kX | apply kG | apply kQ); (· exact sd); conv => whnf) | (refine pcase.mk ?_ ?_ <;> intro hc <;> (try rw [List.length_nil] at hc) <;> first | (exfalso; omega) | (exact absurd rfl hc) | conv => whnf) | (refine bcase_intro ?_ ?_ <;> intro hc <;> conv => whnf))
      all_goals
        refine loop_inv (fun m env s => ∃ i c : Nat, m = a.l.length - i ∧ i ≤ a.l.length ∧ env = [(2, .ref 0 0 0 0), (3, .ref 1 1 0 0), (9, .int .i64 (allE e i)), (76, .int .i64 a.l.length), (77, .int .i64 i)] ∧ s = ⟨[.arr 0 5 true true [a.av], .arr 1 5 true true [b.av], .arr 2 2 true true [.agg [.int .i64 0, .int .i64 0]], .arr 3 2 true true [.agg [.int .i64 0, .int .i64 0]]], c⟩) ?_ _ _ _ ⟨0, _, rfl, by omega, rfl, rfl⟩
        rintro _ _ _ ⟨i, c, rfl, hi, rfl, rfl⟩
        refine ⟨rfl, ?_⟩
        by_cases hlt : i < a.l.length
        · obtain ⟨gx, hgx⟩ := like_at ha.2.2.2.2.2.2 i
          obtain ⟨gy, hgy⟩ := like_at hb.2.2.2.2.2.2 i
          obtain ⟨hn, hxe, hok⟩ := hgx hlt
          obtain ⟨hn', hye, hok'⟩ := hgy (by omega)
          obtain ⟨k1, k2, k3⟩ := he i hlt (by omega)
          rw [hxe, hye] at k2
          have k4 := andP (allE_le (e := e) (i := i) fun j hj => (he j (by omega) (by omega)).1) k1
          (conv => whnf); repeat' (first | (apply nthK_intro; (· exact hn); conv => whnf) | (apply nthK_intro; (· exact hn'); conv => whnf) | (refine callK_of k2 ?_; rintro _ rfl; conv => whnf) | (refine callK_of k4 ?_; rintro _ rfl; conv => whnf) | ((with_reducible first | apply kN | apply kW | apply kX | apply kG | apply kQ); (· exact sd); conv => whnf) | (refine pcase.mk ?_ ?_ <;> intro hc <;> (try rw [List.length_nil] at hc) <;> first | (exfalso; omega) | (exact absurd rfl hc) | conv => whnf) | (refine bcase_intro ?_ ?_ <;> intro hc <;> conv => whnf))
          all_goals first | exact again.mk ⟨_, by omega, i + 1, _, rfl, by omega, rfl, rfl⟩ | (trace_state; fail "eqLs")
        · obtain rfl : i = a.l.length := by omega
          (conv => whnf); repeat' (first  | ((with_reducible first | apply kN | apply kW | apply kX | apply kG | apply kQ); (· exact sd); conv => whnf) | (refine pcase.mk ?_ ?_ <;> intro hc <;> (try rw [List.length_nil] at hc) <;> first | (exfalso; omega) | (exact absurd rfl hc) | conv => whnf) | (refine bcase_intro ?_ ?_ <;> intro hc <;> conv => whnf))
          all_goals first | rfl | (trace_state; fail "eqLe")
    · refine pureP_of rfl rfl ?_
      (conv => whnf); repeat' (first | (refine callK_of q1 ?_; rintro _ rfl; conv => whnf) | (refine callK_of q2 ?_; rintro _ rfl; conv => whnf) | (refine callK_of r1 ?_; rintro _ rfl; conv => whnf) | (refine callK_of r2 ?_; rintro _ rfl; conv => whnf) | ((with_reducible first | apply kN | apply kW | apply kX | apply kG | apply kQ); (· exact sd); conv => whnf) | (refine pcase.mk ?_ ?_ <;> intro hc <;> (try rw [List.length_nil] at hc) <;> first | (exfalso; omega) | (exact absurd rfl hc) | conv => whnf) | (refine bcase_intro ?_ ?_ <;> intro hc <;> conv => whnf))
      all_goals
        refine loop_inv (fun m env s => ∃ i c : Nat, m = a.l.length - i ∧ i ≤ a.l.length ∧ env = [(2, .ref 0 0 0 0), (3, .ref 1 1 0 0), (9, .int .i64 (allE e i)), (10, .int .i64 i)] ∧ s = ⟨[.arr 0 5 true true [a.av], .arr 1 5 true true [b.av], .arr 2 2 true true [.agg [.int .i64 0, .int .i64 0]], .arr 3 2 true true [.agg [.int .i64 0, .int .i64 0]]], c⟩) ?_ _ _ _ ⟨0, _, rfl, by omega, rfl, rfl⟩
        rintro _ _ _ ⟨i, c, rfl, hi, rfl, rfl⟩
        refine ⟨rfl, ?_⟩
        by_cases hlt : i < a.l.length
        · obtain ⟨gx, hgx⟩ := like_at ha.2.2.2.2.2.2 i
          obtain ⟨gy, hgy⟩ := like_at hb.2.2.2.2.2.2 i
          obtain ⟨hn, hxe, hok⟩ := hgx hlt
          obtain ⟨hn', hye, hok'⟩ := hgy (by omega)
          obtain ⟨k1, k2, k3⟩ := he i hlt (by omega)
          rw [hxe, hye] at k3
          have k4 := andR (allE_le (e := e) (i := i) fun j hj => (he j (by omega) (by omega)).1) k1
          (conv => whnf); repeat' (first | (apply nthK_intro; (· exact hn); conv => whnf) | (apply nthK_intro; (· exact hn'); conv => whnf) | (refine callK_of k3 ?_; rintro _ rfl; conv => whnf) | (refine callK_of k4 ?_; rintro _ rfl; conv => whnf) | ((with_reducible first | apply kN | apply kW | apply kX | apply kG | apply kQ); (· exact sd); conv => whnf) | (refine pcase.mk ?_ ?_ <;> intro hc <;> (try rw [List.length_nil] at hc) <;> first | (exfalso; omega) | (exact absurd rfl hc) | conv => whnf) | (refine bcase_intro ?_ ?_ <;> intro hc <;> conv => whnf))
          all_goals first | exact again.mk ⟨_, by omega, i + 1, _, rfl, by omega, rfl, rfl⟩ | (trace_state; fail "eqLsR")
        · obtain rfl : i = a.l.length := by omega
          (conv => whnf); repeat' (first  | ((with_reducible first | apply kN | apply kW | apply kX | apply kG | apply kQ); (· exact sd); conv => whnf) | (refine pcase.mk ?_ ?_ <;> intro hc <;> (try rw [List.length_nil] at hc) <;> first | (exfalso; omega) | (exact absurd rfl hc) | conv => whnf) | (refine bcase_intro ?_ ?_ <;> intro hc <;> conv => whnf))
          all_goals first | rfl | (trace_state; fail "eqLeR")

theorem VV_up : ∀ {m k : Nat} {g : GV}, m ≤ k → VV m g → VV k g
  | m, 0, g, h, hv => by obtain rfl : m = 0 := by omega
                         exact hv
  | m, k + 1, g, h, hv => by
    rcases Nat.lt_or_ge m (k + 1) with h1 | h1
    · exact VV_mono (VV_up (by omega) hv)
    · obtain rfl : m = k + 1 := by omega
      exact hv

theorem equalV : ∀ (m : Nat), m ≤ 8 → ∀ {a b : GV}, a.ok → b.ok → VV m a → VV 8 b → ∃ e, EqB a.av b.av e := by
  intro m
  induction m with
  | zero =>
    intro hm a b ha hb va vb
    by_cases hab : a.k = b.k ∧ (a.k = 7 ∨ a.k = 8)
    · have h7 : a.k = 7 := hab.2.elim id fun h => absurd va (VV0_8 h)
      refine equalL ha hb (VV_up hm va) vb hab.1 hab.2 fun i h h' => ?_
      obtain ⟨x, e1, _, x2⟩ := ((VV_7 h7).1 va).2.2.2.2.2 i h
      obtain ⟨y, e2, _, y2⟩ := ((VV_7 (by omega)).1 vb).2.2.2.2.2 i h'
      obtain ⟨gx, hgx⟩ := like_at ha.2.2.2.2.2.2 i
      obtain ⟨gy, hgy⟩ := like_at hb.2.2.2.2.2.2 i
      obtain ⟨_, f1, f2⟩ := hgx h
      obtain ⟨_, f3, f4⟩ := hgy h'
      rw [e1] at f1; rw [e2] at f3
      obtain rfl := GV.av_inj f1
      obtain rfl := GV.av_inj f3
      rw [e1, e2]
      have kx := VB_k x2
      exact equalLeaf f2 f4 (VV_up (m := 0) (by omega) (.inl x2)) (VV_up (m := 0) (by omega) (.inl y2)) fun _ => ⟨by omega, by omega⟩
    · exact equalLeaf ha hb (VV_up hm va) vb fun h => ⟨fun h7 => hab ⟨h, .inl h7⟩, fun h8 => hab ⟨h, .inr h8⟩⟩
  | succ m ih =>
    intro hm a b ha hb va vb
    by_cases hab : a.k = b.k ∧ (a.k = 7 ∨ a.k = 8)
    · rcases hab.2 with h7 | h8
      · refine equalL ha hb (VV_up hm va) vb hab.1 hab.2 fun i h h' => ?_
        obtain ⟨x, e1, _, x2⟩ := ((VV_7 h7).1 va).2.2.2.2.2 i h
        obtain ⟨y, e2, _, y2⟩ := ((VV_7 (by omega)).1 vb).2.2.2.2.2 i h'
        obtain ⟨gx, hgx⟩ := like_at ha.2.2.2.2.2.2 i
        obtain ⟨gy, hgy⟩ := like_at hb.2.2.2.2.2.2 i
        obtain ⟨_, f1, f2⟩ := hgx h
        obtain ⟨_, f3, f4⟩ := hgy h'
        rw [e1] at f1; rw [e2] at f3
        obtain rfl := GV.av_inj f1
        obtain rfl := GV.av_inj f3
        rw [e1, e2]
        have kx := VB_k x2
        exact equalLeaf f2 f4 (VV_up (m := 0) (by omega) (.inl x2)) (VV_up (m := 0) (by omega) (.inl y2)) fun _ => ⟨by omega, by omega⟩
      · refine equalL ha hb (VV_up hm va) vb hab.1 hab.2 fun i h h' => ?_
        obtain ⟨x, e1, x2⟩ := ((VV_8 h8).1 va).2.2.2.2 i h
        obtain ⟨y, e2, y2⟩ := ((VV_8 (m := 7) (by omega)).1 vb).2.2.2.2 i h'
        obtain ⟨gx, hgx⟩ := like_at ha.2.2.2.2.2.2 i
        obtain ⟨gy, hgy⟩ := like_at hb.2.2.2.2.2.2 i
        obtain ⟨_, f1, f2⟩ := hgx h
        obtain ⟨_, f3, f4⟩ := hgy h'
        rw [e1] at f1; rw [e2] at f3
        obtain rfl := GV.av_inj f1
        obtain rfl := GV.av_inj f3
        rw [e1, e2]
        exact ih (by omega) f2 f4 x2 (VV_up (m := 7) (by omega) y2)
    · exact equalLeaf ha hb (VV_up hm va) vb fun h => ⟨fun h7 => hab ⟨h, .inl h7⟩, fun h8 => hab ⟨h, .inr h8⟩⟩

/-- Equal of any two values -/
theorem EqualB {a b : GV} (ha : a.ok) (hb : b.ok) : ∃ e : Int, PureP (findFn tab) 35 [a.av, b.av] (· = .int .i64 e) ∧ PureP (findFn tab) 49 [a.av, b.av] (· = .int .i64 e) := by
  by_cases hab : VV 8 a ∧ VV 8 b
  · obtain ⟨va, vb⟩ := hab
    obtain ⟨e, h1, h2, h3⟩ := equalV 8 (by omega) ha hb va vb
    have r1 := vR ha va
    have r2 := vR hb vb
    have p1 := vP ha va
    have p2 := vP hb vb
    by_cases h0 : a.k = 0 ∨ b.k = 0
    · refine ⟨1, ?_, ?_⟩
      · refine pureP_of rfl rfl ?_
        (conv => whnf); repeat' (first  | ((with_reducible first | apply kN | apply kW | apply kX | apply kG | apply kQ); (· exact sd); conv => whnf) | (refine pcase.mk ?_ ?_ <;> intro hc <;> (try rw [List.length_nil] at hc) <;> first | (exfalso; omega) | (exact absurd rfl hc) | conv => whnf) | (refine bcase_intro ?_ ?_ <;> intro hc <;> conv => whnf))
        all_goals first | rfl | (trace_state; fail "Eq0")
      · refine pureP_of rfl rfl ?_
        (conv => whnf); repeat' (first  | ((with_reducible first | apply kN | apply kW | apply kX | apply kG | apply kQ); (· exact sd); conv => whnf) | (refine pcase.mk ?_ ?_ <;> intro hc <;> (try rw [List.length_nil] at hc) <;> first | (exfalso; omega) | (exact absurd rfl hc) | conv => whnf) | (refine bcase_intro ?_ ?_ <;> intro hc <;> conv => whnf))
        all_goals first | rfl | (trace_state; fail "Eq0R")
    · refine ⟨e, ?_, h3⟩
      refine pureP_of rfl rfl ?_
      (conv => whnf); repeat' (first | (refine callK_of p1 ?_; rintro _ rfl; conv => whnf) | (refine callK_of p2 ?_; rintro _ rfl; conv => whnf) | (refine callK_of h2 ?_; rintro _ rfl; conv => whnf) | ((with_reducible first | apply kN | apply kW | apply kX | apply kG | apply kQ); (· exact sd); conv => whnf) | (refine pcase.mk ?_ ?_ <;> intro hc <;> (try rw [List.length_nil] at hc) <;> first | (exfalso; omega) | (exact absurd rfl hc) | conv => whnf) | (refine bcase_intro ?_ ?_ <;> intro hc <;> conv => whnf))
      all_goals first | rfl | (trace_state; fail "EqV")
  · refine ⟨1, ?_, ?_⟩
    · by_cases va : VV 8 a
      · have p1 := vP ha va
        have p2 := vPn hb (fun h => hab ⟨va, h⟩)
        refine pureP_of rfl rfl ?_
        (conv => whnf); repeat' (first | (refine callK_of p1 ?_; rintro _ rfl; conv => whnf) | (refine callK_of p2 ?_; rintro _ rfl; conv => whnf) | ((with_reducible first | apply kN | apply kW | apply kX | apply kG | apply kQ); (· exact sd); conv => whnf) | (refine pcase.mk ?_ ?_ <;> intro hc <;> (try rw [List.length_nil] at hc) <;> first | (exfalso; omega) | (exact absurd rfl hc) | conv => whnf) | (refine bcase_intro ?_ ?_ <;> intro hc <;> conv => whnf))
        all_goals first | rfl | (trace_state; fail "Eq1")
      · have p1 := vPn ha va
        refine pureP_of rfl rfl ?_
        (conv => whnf); repeat' (first | (refine callK_of p1 ?_; rintro _ rfl; conv => whnf) | ((with_reducible first | apply kN | apply kW | apply kX | apply kG | apply kQ); (· exact sd); conv => whnf) | (refine pcase.mk ?_ ?_ <;> intro hc <;> (try rw [List.length_nil] at hc) <;> first | (exfalso; omega) | (exact absurd rfl hc) | conv => whnf) | (refine bcase_intro ?_ ?_ <;> intro hc <;> conv => whnf))
        all_goals first | rfl | (trace_state; fail "Eq2")
    · by_cases va : VV 8 a
      · have p1 := vR ha va
        have p2 := vRn hb (fun h => hab ⟨va, h⟩)
        refine pureP_of rfl rfl ?_
        (conv => whnf); repeat' (first | (refine callK_of p1 ?_; rintro _ rfl; conv => whnf) | (refine callK_of p2 ?_; rintro _ rfl; conv => whnf) | ((with_reducible first | apply kN | apply kW | apply kX | apply kG | apply kQ); (· exact sd); conv => whnf) | (refine pcase.mk ?_ ?_ <;> intro hc <;> (try rw [List.length_nil] at hc) <;> first | (exfalso; omega) | (exact absurd rfl hc) | conv => whnf) | (refine bcase_intro ?_ ?_ <;> intro hc <;> conv => whnf))
        all_goals first | rfl | (trace_state; fail "Eq1R")
      · have p1 := vRn ha va
        refine pureP_of rfl rfl ?_
        (conv => whnf); repeat' (first | (refine callK_of p1 ?_; rintro _ rfl; conv => whnf) | ((with_reducible first | apply kN | apply kW | apply kX | apply kG | apply kQ); (· exact sd); conv => whnf) | (refine pcase.mk ?_ ?_ <;> intro hc <;> (try rw [List.length_nil] at hc) <;> first | (exfalso; omega) | (exact absurd rfl hc) | conv => whnf) | (refine bcase_intro ?_ ?_ <;> intro hc <;> conv => whnf))
        all_goals first | rfl | (trace_state; fail "Eq2R")

end AI
end Go.Proofs.YtbkibamoigmboaaGreatDoor
