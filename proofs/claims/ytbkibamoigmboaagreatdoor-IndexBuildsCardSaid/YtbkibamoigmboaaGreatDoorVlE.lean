/- Numbers among values; values equal: the program's way and the reference's. -/
import Derived.Test.YtbkibamoigmboaaGreatDoorFR1
import Derived.Test.YtbkibamoigmboaaGreatDoorOvD
import Derived.Test.YtbkibamoigmboaaGreatDoorMT
set_option linter.unusedVariables false
set_option maxRecDepth 4000
namespace Go.Proofs.YtbkibamoigmboaaGreatDoor
namespace AI

/-- a valid number -/
def isN (g : GV) : Prop := VV 8 g ∧ (g.k = 2 ∨ g.k = 3)
noncomputable instance (g : GV) : Decidable (isN g) := by unfold isN; infer_instance
/-- its denominator -/
def dn (g : GV) : Int := if g.k = 2 then 1 else g.d
theorem isN_VF {g : GV} (h : isN g) : VF g.n (dn g) := by
  obtain ⟨hv, hk⟩ := h
  rw [VV_b (by omega) (by omega)] at hv
  obtain ⟨h1, h2⟩ := hv
  unfold dn
  rcases hk with hk | hk
  · rw [if_pos hk]
    rcases h2 with h | h | h | h | h | h <;> first | (exfalso; omega) | exact ⟨by omega, by omega, h.2.1, by simp⟩
  · rw [if_neg (by omega)]
    rcases h2 with h | h | h | h | h | h <;> first | (exfalso; omega) | exact h.2.2.1
theorem vP {g : GV} (hg : g.ok) (h : VV 8 g) : PureP (findFn tab) 62 [g.av] (· = .bool true) := by have := ValidP hg; rwa [decide_eq_true h] at this
theorem vPn {g : GV} (hg : g.ok) (h : ¬ VV 8 g) : PureP (findFn tab) 62 [g.av] (· = .bool false) := by have := ValidP hg; rwa [decide_eq_false h] at this
theorem vR {g : GV} (hg : g.ok) (h : VV 8 g) : PureP (findFn tab) 89 [g.av] (· = .bool true) := by have := ValidR hg; rwa [decide_eq_true h] at this
theorem vRn {g : GV} (hg : g.ok) (h : ¬ VV 8 g) : PureP (findFn tab) 89 [g.av] (· = .bool false) := by have := ValidR hg; rwa [decide_eq_false h] at this

theorem nP1 {g : GV} (hg : g.ok) (h : isN g) : PureP (findFn tab) 72 [g.av] (· = .tup [.agg [.int .i64 g.n, .int .i64 (dn g)], .bool true]) := by
  have hv := vP hg h.1
  rcases h.2 with hk | hk
  · have e : dn g = 1 := if_pos hk
    rw [e]
    refine pureP_of rfl rfl ?_
    (conv => whnf); repeat' (first | (refine callK_of hv ?_; rintro _ rfl; conv => whnf) | ((with_reducible first | apply kN | apply kW | apply kX | apply kG | apply kQ); (· exact sd); conv => whnf) | (refine pcase.mk ?_ ?_ <;> intro hc <;> (try rw [List.length_nil] at hc) <;> first | (exfalso; omega) | (exact absurd rfl hc) | conv => whnf) | (refine bcase_intro ?_ ?_ <;> intro hc <;> conv => whnf))
    all_goals first | rfl | (trace_state; fail "nP1")
  · have e : dn g = g.d := if_neg (by omega)
    rw [e]
    refine pureP_of rfl rfl ?_
    (conv => whnf); repeat' (first | (refine callK_of hv ?_; rintro _ rfl; conv => whnf) | ((with_reducible first | apply kN | apply kW | apply kX | apply kG | apply kQ); (· exact sd); conv => whnf) | (refine pcase.mk ?_ ?_ <;> intro hc <;> (try rw [List.length_nil] at hc) <;> first | (exfalso; omega) | (exact absurd rfl hc) | conv => whnf) | (refine bcase_intro ?_ ?_ <;> intro hc <;> conv => whnf))
    all_goals first | rfl | (trace_state; fail "nP1")
theorem nP0 {g : GV} (hg : g.ok) (h : ¬ isN g) : PureP (findFn tab) 72 [g.av] (· = .tup [.agg [.int .i64 0, .int .i64 0], .bool false]) := by
  by_cases hk : g.k = 2 ∨ g.k = 3
  · have hv := vPn hg (fun hv => h ⟨hv, hk⟩)
    refine pureP_of rfl rfl ?_
    (conv => whnf); repeat' (first | (refine callK_of hv ?_; rintro _ rfl; conv => whnf) | ((with_reducible first | apply kN | apply kW | apply kX | apply kG | apply kQ); (· exact sd); conv => whnf) | (refine pcase.mk ?_ ?_ <;> intro hc <;> (try rw [List.length_nil] at hc) <;> first | (exfalso; omega) | (exact absurd rfl hc) | conv => whnf) | (refine bcase_intro ?_ ?_ <;> intro hc <;> conv => whnf))
    all_goals first | rfl | (trace_state; fail "nP0")
  · refine pureP_of rfl rfl ?_
    (conv => whnf); repeat' (first  | ((with_reducible first | apply kN | apply kW | apply kX | apply kG | apply kQ); (· exact sd); conv => whnf) | (refine pcase.mk ?_ ?_ <;> intro hc <;> (try rw [List.length_nil] at hc) <;> first | (exfalso; omega) | (exact absurd rfl hc) | conv => whnf) | (refine bcase_intro ?_ ?_ <;> intro hc <;> conv => whnf))
    all_goals first | rfl | (trace_state; fail "nP0")
theorem nR1 {g : GV} (hg : g.ok) (h : isN g) : PureP (findFn tab) 90 [g.av] (· = .tup [.agg [.int .i64 g.n, .int .i64 (dn g)], .bool true]) := by
  have hv := vR hg h.1
  rcases h.2 with hk | hk
  · have e : dn g = 1 := if_pos hk
    rw [e]
    refine pureP_of rfl rfl ?_
    (conv => whnf); repeat' (first | (refine callK_of hv ?_; rintro _ rfl; conv => whnf) | ((with_reducible first | apply kN | apply kW | apply kX | apply kG | apply kQ); (· exact sd); conv => whnf) | (refine pcase.mk ?_ ?_ <;> intro hc <;> (try rw [List.length_nil] at hc) <;> first | (exfalso; omega) | (exact absurd rfl hc) | conv => whnf) | (refine bcase_intro ?_ ?_ <;> intro hc <;> conv => whnf))
    all_goals first | rfl | (trace_state; fail "nR1")
  · have e : dn g = g.d := if_neg (by omega)
    rw [e]
    refine pureP_of rfl rfl ?_
    (conv => whnf); repeat' (first | (refine callK_of hv ?_; rintro _ rfl; conv => whnf) | ((with_reducible first | apply kN | apply kW | apply kX | apply kG | apply kQ); (· exact sd); conv => whnf) | (refine pcase.mk ?_ ?_ <;> intro hc <;> (try rw [List.length_nil] at hc) <;> first | (exfalso; omega) | (exact absurd rfl hc) | conv => whnf) | (refine bcase_intro ?_ ?_ <;> intro hc <;> conv => whnf))
    all_goals first | rfl | (trace_state; fail "nR1")
theorem nR0 {g : GV} (hg : g.ok) (h : ¬ isN g) : PureP (findFn tab) 90 [g.av] (· = .tup [.agg [.int .i64 0, .int .i64 0], .bool false]) := by
  by_cases hV : VV 8 g
  · have hv := vR hg hV
    have hk : ¬ (g.k = 2 ∨ g.k = 3) := fun hk => h ⟨hV, hk⟩
    refine pureP_of rfl rfl ?_
    (conv => whnf); repeat' (first | (refine callK_of hv ?_; rintro _ rfl; conv => whnf) | ((with_reducible first | apply kN | apply kW | apply kX | apply kG | apply kQ); (· exact sd); conv => whnf) | (refine pcase.mk ?_ ?_ <;> intro hc <;> (try rw [List.length_nil] at hc) <;> first | (exfalso; omega) | (exact absurd rfl hc) | conv => whnf) | (refine bcase_intro ?_ ?_ <;> intro hc <;> conv => whnf))
    all_goals first | rfl | (trace_state; fail "nR0")
  · have hv := vRn hg hV
    refine pureP_of rfl rfl ?_
    (conv => whnf); repeat' (first | (refine callK_of hv ?_; rintro _ rfl; conv => whnf) | ((with_reducible first | apply kN | apply kW | apply kX | apply kG | apply kQ); (· exact sd); conv => whnf) | (refine pcase.mk ?_ ?_ <;> intro hc <;> (try rw [List.length_nil] at hc) <;> first | (exfalso; omega) | (exact absurd rfl hc) | conv => whnf) | (refine bcase_intro ?_ ?_ <;> intro hc <;> conv => whnf))
    all_goals first | rfl | (trace_state; fail "nR0")

/-- the truth of a statement -/
def tv (p : Prop) [Decidable p] : Int := if p then 2 else 0
theorem tv_le (p : Prop) [Decidable p] : 0 ≤ tv p ∧ tv p ≤ 2 := by unfold tv; split <;> omega
theorem tv_iff {p q : Prop} [Decidable p] [Decidable q] (h : p ↔ q) : tv p = tv q := by
  unfold tv
  by_cases hp : p
  · rw [if_pos hp, if_pos (h.1 hp)]
  · rw [if_neg hp, if_neg (fun hq => hp (h.2 hq))]
theorem tvT {p : Prop} [Decidable p] (h : p) : AV.int .i64 2 = .int .i64 (tv p) := by unfold tv; rw [if_pos h]
theorem tvF {p : Prop} [Decidable p] (h : ¬ p) : AV.int .i64 0 = .int .i64 (tv p) := by unfold tv; rw [if_neg h]
theorem truthT : PureP (findFn tab) 73 [.bool true] (· = .int .i64 2) := ⟨_, ⟨20, by kernel_rfl⟩, rfl⟩
theorem truthF : PureP (findFn tab) 73 [.bool false] (· = .int .i64 0) := ⟨_, ⟨20, by kernel_rfl⟩, rfl⟩
theorem yesT : PureP (findFn tab) 91 [.bool true] (· = .int .i64 2) := ⟨_, ⟨20, by kernel_rfl⟩, rfl⟩
theorem yesF' : PureP (findFn tab) 91 [.bool false] (· = .int .i64 0) := ⟨_, ⟨20, by kernel_rfl⟩, rfl⟩
theorem truthD {p : Prop} [Decidable p] : PureP (findFn tab) 73 [.bool (decide p)] (· = .int .i64 (tv p)) := by
  unfold tv
  by_cases h : p
  · rw [decide_eq_true h, if_pos h]; exact truthT
  · rw [decide_eq_false h, if_neg h]; exact truthF

theorem eqF2 {a b c d : Int} : eqAV (.flat [.int, .int]) (.agg [.int .i64 a, .int .i64 b]) (.agg [.int .i64 c, .int .i64 d]) = some (decide (a = c ∧ b = d)) := by
  have e : ∀ z z' : Int, (z == z') = decide (z = z') := fun z z' => by by_cases h : z = z' <;> simp [h]
  by_cases h1 : a = c <;> by_cases h2 : b = d <;> simp [eqAV, eqFlat, eqLeaf, e, h1, h2]

theorem kindR {a : GV} (h : VV 8 a) (h7 : a.k ≠ 7) (h8 : a.k ≠ 8) : (a.k = 4 → a.n = 0) ∧ (a.k ≠ 4 → a.s = []) := by
  rw [VV_b h7 h8] at h
  obtain ⟨_, h⟩ := h
  rcases h with h | h | h | h | h | h <;> exact ⟨fun hk => by first | omega | exact h.2.1, fun hk => by first | exact h.2.2.2 | exact h.2.2.2.2 | (exfalso; omega)⟩

/-- values without lists, or of two kinds -/
theorem equalLeaf {a b : GV} (ha : a.ok) (hb : b.ok) (va : VV 8 a) (vb : VV 8 b) (hab : a.k = b.k → a.k ≠ 7 ∧ a.k ≠ 8) :
    ∃ e : Int, (0 ≤ e ∧ e ≤ 2) ∧ PureP (findFn tab) 71 [a.av, b.av] (· = .int .i64 e) ∧ PureP (findFn tab) 49 [a.av, b.av] (· = .int .i64 e) := by
  have r1 := vR ha va
  have r2 := vR hb vb
  by_cases h0 : a.k = 0 ∨ b.k = 0
  · refine ⟨1, by omega, ?_, ?_⟩
    · refine pureP_of rfl rfl ?_
      (conv => whnf); repeat' (first  | ((with_reducible first | apply kN | apply kW | apply kX | apply kG | apply kQ); (· exact sd); conv => whnf) | (refine pcase.mk ?_ ?_ <;> intro hc <;> (try rw [List.length_nil] at hc) <;> first | (exfalso; omega) | (exact absurd rfl hc) | conv => whnf) | (refine bcase_intro ?_ ?_ <;> intro hc <;> conv => whnf))
      all_goals first | rfl | (trace_state; fail "eq0")
    · refine pureP_of rfl rfl ?_
      (conv => whnf); repeat' (first  | ((with_reducible first | apply kN | apply kW | apply kX | apply kG | apply kQ); (· exact sd); conv => whnf) | (refine pcase.mk ?_ ?_ <;> intro hc <;> (try rw [List.length_nil] at hc) <;> first | (exfalso; omega) | (exact absurd rfl hc) | conv => whnf) | (refine bcase_intro ?_ ?_ <;> intro hc <;> conv => whnf))
      all_goals first | rfl | (trace_state; fail "eq0")
  by_cases hn : isN a ∧ isN b
  · refine ⟨tv (a.n = b.n ∧ dn a = dn b), tv_le _, ?_, ?_⟩
    · have p1 := nP1 ha hn.1
      have p2 := nP1 hb hn.2
      refine pureP_of rfl rfl ?_
      (conv => whnf); repeat' (first | (refine callK_of p1 ?_; rintro _ rfl; conv => whnf) | (refine callK_of p2 ?_; rintro _ rfl; conv => whnf) | (refine callK_of truthT ?_; rintro _ rfl; conv => whnf) | (refine callK_of truthF ?_; rintro _ rfl; conv => whnf) | (refine getK_intro (congrArg (Option.map AV.bool) eqF2) ?_; conv => whnf) | ((with_reducible first | apply kN | apply kW | apply kX | apply kG | apply kQ); (· exact sd); conv => whnf) | (refine pcase.mk ?_ ?_ <;> intro hc <;> (try rw [List.length_nil] at hc) <;> first | (exfalso; omega) | (exact absurd rfl hc) | conv => whnf) | (refine bcase_intro ?_ ?_ <;> intro hc <;> conv => whnf))
      all_goals first | exact tvT (of_decide_eq_true (by assumption)) | exact tvF (of_decide_eq_false (by assumption)) | (trace_state; fail "eqN")
    · have p1 := nR1 ha hn.1
      have p2 := nR1 hb hn.2
      have p3 := cmpR3 (isN_VF hn.1) (isN_VF hn.2)
      have hf := frac_eqI (isN_VF hn.1) (isN_VF hn.2)
      refine pureP_of rfl rfl ?_
      (conv => whnf); repeat' (first | (refine callK_of p1 ?_; rintro _ rfl; conv => whnf) | (refine callK_of p2 ?_; rintro _ rfl; conv => whnf) | (refine callK_of p3 ?_; rintro _ rfl; conv => whnf) | (refine callK_of r1 ?_; rintro _ rfl; conv => whnf) | (refine callK_of r2 ?_; rintro _ rfl; conv => whnf) | (refine callK_of yesT ?_; rintro _ rfl; conv => whnf) | (refine callK_of yesF' ?_; rintro _ rfl; conv => whnf) | ((with_reducible first | apply kN | apply kW | apply kX | apply kG | apply kQ); (· exact sd); conv => whnf) | (refine pcase.mk ?_ ?_ <;> intro hc <;> (try rw [List.length_nil] at hc) <;> first | (exfalso; omega) | (exact absurd rfl hc) | conv => whnf) | (refine bcase_intro ?_ ?_ <;> intro hc <;> conv => whnf))
      all_goals first | exact tvT (hf.1 (by assumption)) | exact tvF (fun h => absurd (hf.2 h) (by assumption)) | (trace_state; fail "eqNR")
  by_cases hk : a.k = b.k
  · obtain ⟨h7, h8⟩ := hab hk
    have n1 : ¬ isN a := fun h => hn ⟨h, vb, by have := h.2; omega⟩
    have n2 : ¬ isN b := fun h => hn ⟨⟨va, by have := h.2; omega⟩, h⟩
    have h23 : a.k ≠ 2 ∧ a.k ≠ 3 := ⟨fun h => n1 ⟨va, .inl h⟩, fun h => n1 ⟨va, .inr h⟩⟩
    obtain ⟨ka1, ka2⟩ := kindR va h7 h8
    obtain ⟨kb1, kb2⟩ := kindR vb (by omega) (by omega)
    refine ⟨tv (a.n = b.n ∧ a.s = b.s), tv_le _, ?_, ?_⟩
    · have p1 := nP0 ha n1
      have p2 := nP0 hb n2
      refine pureP_of rfl rfl ?_
      (conv => whnf); repeat' (first | (refine callK_of p1 ?_; rintro _ rfl; conv => whnf) | (refine callK_of p2 ?_; rintro _ rfl; conv => whnf) | (refine callK_of truthT ?_; rintro _ rfl; conv => whnf) | (refine callK_of truthF ?_; rintro _ rfl; conv => whnf) | ((with_reducible first | apply kN | apply kW | apply kX | apply kG | apply kQ); (· exact sd); conv => whnf) | (refine pcase.mk ?_ ?_ <;> intro hc <;> (try rw [List.length_nil] at hc) <;> first | (exfalso; omega) | (exact absurd rfl hc) | conv => whnf) | (refine bcase_intro ?_ ?_ <;> intro hc <;> conv => whnf))
      all_goals first | exact tvT ⟨by assumption, by assumption⟩ | exact tvF (fun h => absurd h.1 (by assumption)) | exact tvF (fun h => absurd h.2 (by assumption)) | (trace_state; fail "eqS")
    · have p1 := nR0 ha n1
      have p2 := nR0 hb n2
      by_cases h4 : a.k = 4
      · rw [tv_iff (q := a.s = b.s) ⟨fun h => h.2, fun h => ⟨by rw [ka1 h4, kb1 (by omega)], h⟩⟩]
        refine pureP_of rfl rfl ?_
        (conv => whnf); repeat' (first | (refine callK_of p1 ?_; rintro _ rfl; conv => whnf) | (refine callK_of p2 ?_; rintro _ rfl; conv => whnf) | (refine callK_of r1 ?_; rintro _ rfl; conv => whnf) | (refine callK_of r2 ?_; rintro _ rfl; conv => whnf) | (refine callK_of yesT ?_; rintro _ rfl; conv => whnf) | (refine callK_of yesF' ?_; rintro _ rfl; conv => whnf) | ((with_reducible first | apply kN | apply kW | apply kX | apply kG | apply kQ); (· exact sd); conv => whnf) | (refine pcase.mk ?_ ?_ <;> intro hc <;> (try rw [List.length_nil] at hc) <;> first | (exfalso; omega) | (exact absurd rfl hc) | conv => whnf) | (refine bcase_intro ?_ ?_ <;> intro hc <;> conv => whnf))
        all_goals first | exact tvT (by assumption) | exact tvF (by assumption) | (trace_state; fail "eqSR4")
      · rw [tv_iff (q := a.n = b.n) ⟨fun h => h.1, fun h => ⟨h, by rw [ka2 h4, kb2 (by omega)]⟩⟩]
        refine pureP_of rfl rfl ?_
        (conv => whnf); repeat' (first | (refine callK_of p1 ?_; rintro _ rfl; conv => whnf) | (refine callK_of p2 ?_; rintro _ rfl; conv => whnf) | (refine callK_of r1 ?_; rintro _ rfl; conv => whnf) | (refine callK_of r2 ?_; rintro _ rfl; conv => whnf) | (refine callK_of yesT ?_; rintro _ rfl; conv => whnf) | (refine callK_of yesF' ?_; rintro _ rfl; conv => whnf) | ((with_reducible first | apply kN | apply kW | apply kX | apply kG | apply kQ); (· exact sd); conv => whnf) | (refine pcase.mk ?_ ?_ <;> intro hc <;> (try rw [List.length_nil] at hc) <;> first | (exfalso; omega) | (exact absurd rfl hc) | conv => whnf) | (refine bcase_intro ?_ ?_ <;> intro hc <;> conv => whnf))
        all_goals first | exact tvT (by assumption) | exact tvF (by assumption) | (trace_state; fail "eqSRn")
  · refine ⟨0, by omega, ?_, ?_⟩
    · obtain ⟨x1, y1, b1, e1, p1⟩ : ∃ x y t, (isN a ↔ t = true) ∧ PureP (findFn tab) 72 [a.av] (· = .tup [.agg [.int .i64 x, .int .i64 y], .bool t]) := by
        by_cases h : isN a
        · exact ⟨_, _, true, by simp [h], nP1 ha h⟩
        · exact ⟨_, _, false, by simp [h], nP0 ha h⟩
      obtain ⟨x2, y2, b2, e2, p2⟩ : ∃ x y t, (isN b ↔ t = true) ∧ PureP (findFn tab) 72 [b.av] (· = .tup [.agg [.int .i64 x, .int .i64 y], .bool t]) := by
        by_cases h : isN b
        · exact ⟨_, _, true, by simp [h], nP1 hb h⟩
        · exact ⟨_, _, false, by simp [h], nP0 hb h⟩
      rw [e1, e2] at hn
      cases b1 <;> cases b2 <;> (try exact absurd ⟨rfl, rfl⟩ hn)
      all_goals
        refine pureP_of rfl rfl ?_
        (conv => whnf); repeat' (first | (refine callK_of p1 ?_; rintro _ rfl; conv => whnf) | (refine callK_of p2 ?_; rintro _ rfl; conv => whnf) | ((with_reducible first | apply kN | apply kW | apply kX | apply kG | apply kQ); (· exact sd); conv => whnf) | (refine pcase.mk ?_ ?_ <;> intro hc <;> (try rw [List.length_nil] at hc) <;> first | (exfalso; omega) | (exact absurd rfl hc) | conv => whnf) | (refine bcase_intro ?_ ?_ <;> intro hc <;> conv => whnf))
        all_goals first | rfl | (trace_state; fail "eqD")
    · obtain ⟨x1, y1, b1, e1, p1⟩ : ∃ x y t, (isN a ↔ t = true) ∧ PureP (findFn tab) 90 [a.av] (· = .tup [.agg [.int .i64 x, .int .i64 y], .bool t]) := by
        by_cases h : isN a
        · exact ⟨_, _, true, by simp [h], nR1 ha h⟩
        · exact ⟨_, _, false, by simp [h], nR0 ha h⟩
      obtain ⟨x2, y2, b2, e2, p2⟩ : ∃ x y t, (isN b ↔ t = true) ∧ PureP (findFn tab) 90 [b.av] (· = .tup [.agg [.int .i64 x, .int .i64 y], .bool t]) := by
        by_cases h : isN b
        · exact ⟨_, _, true, by simp [h], nR1 hb h⟩
        · exact ⟨_, _, false, by simp [h], nR0 hb h⟩
      rw [e1, e2] at hn
      cases b1 <;> cases b2 <;> (try exact absurd ⟨rfl, rfl⟩ hn)
      all_goals
        refine pureP_of rfl rfl ?_
        (conv => whnf); repeat' (first | (refine callK_of p1 ?_; rintro _ rfl; conv => whnf) | (refine callK_of p2 ?_; rintro _ rfl; conv => whnf) | (refine callK_of r1 ?_; rintro _ rfl; conv => whnf) | (refine callK_of r2 ?_; rintro _ rfl; conv => whnf) | ((with_reducible first | apply kN | apply kW | apply kX | apply kG | apply kQ); (· exact sd); conv => whnf) | (refine pcase.mk ?_ ?_ <;> intro hc <;> (try rw [List.length_nil] at hc) <;> first | (exfalso; omega) | (exact absurd rfl hc) | conv => whnf) | (refine bcase_intro ?_ ?_ <;> intro hc <;> conv => whnf))
        all_goals first | rfl | (trace_state; fail "eqDR")

theorem VV_up : ∀ {m k : Nat} {g : GV}, m ≤ k → VV m g → VV k g
  | m, 0, g, h, hv => by obtain rfl : m = 0 := by omega
                         exact hv
  | m, k + 1, g, h, hv => by
    rcases Nat.lt_or_ge m (k + 1) with h1 | h1
    · exact VV_mono (VV_up (by omega) hv)
    · obtain rfl : m = k + 1 := by omega
      exact hv

end AI
end Go.Proofs.YtbkibamoigmboaaGreatDoor
