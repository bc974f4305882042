/- The reference's validity of values: it answers. The reference's validity of values, with lists in lists. The reference's bare values and strings. The reference's check of values that may be stored, of labels and properties. The reference's Check of a graph. -/
import Derived.Test.YtbkibamoigmboaaGreatDoorMT
import Derived.Test.YtbkibamoigmboaaGreatDoorMN
import Derived.Test.YtbkibamoigmboaaGreatDoorMV
import Derived.Test.YtbkibamoigmboaaGreatDoorMK
set_option linter.unusedVariables false
set_option maxRecDepth 4000
namespace Go.Proofs.YtbkibamoigmboaaGreatDoor
namespace AI

theorem bare {g : GV} {n d s l : Bool} : PureP (findFn tab) 196 [g.av, .bool n, .bool d, .bool s, .bool l] (fun v => ∃ b, v = .bool b) := by
  cases n <;> cases d <;> cases s <;> cases l <;> (
  refine pureP_of rfl rfl ?_
  (conv => whnf); repeat' (first | ((with_reducible first | apply kN | apply kW | apply kX | apply kG | apply kQ); (· exact sd); conv => whnf) | (refine pcase.mk ?_ ?_ <;> intro hc <;> (try rw [List.length_nil] at hc) <;> first | (exfalso; omega) | (exact absurd rfl hc) | conv => whnf)  | (refine bcase_intro ?_ ?_ <;> intro hc <;> conv => whnf))
  all_goals exact ⟨_, rfl⟩)

theorem inRB {n : Int} : PureP (findFn tab) 197 [.int .i64 n] (fun v => ∃ b, v = .bool b) := by
  refine pureP_of rfl rfl ?_
  (conv => whnf); repeat' (first | ((with_reducible first | apply kN | apply kW | apply kX | apply kG | apply kQ); (· exact sd); conv => whnf) | (refine pcase.mk ?_ ?_ <;> intro hc <;> (try rw [List.length_nil] at hc) <;> first | (exfalso; omega) | (exact absurd rfl hc) | conv => whnf)  | (refine bcase_intro ?_ ?_ <;> intro hc <;> conv => whnf))
  all_goals exact ⟨_, rfl⟩

theorem size {n : Int} (h1 : -2^62 ≤ n) (h2 : n ≤ 2^62) : PureP (findFn tab) 139 [.int .i64 n] (fun v => ∃ z, v = .int .i64 z ∧ 0 ≤ z ∧ (z = n ∨ z = -n)) := by
  refine pureP_of rfl rfl ?_
  (conv => whnf); repeat' (first | ((with_reducible first | apply kN | apply kW | apply kX | apply kG | apply kQ); (· exact sd); conv => whnf) | (refine pcase.mk ?_ ?_ <;> intro hc <;> (try rw [List.length_nil] at hc) <;> first | (exfalso; omega) | (exact absurd rfl hc) | conv => whnf)  | (refine bcase_intro ?_ ?_ <;> intro hc <;> conv => whnf))
  all_goals exact ⟨_, rfl, by omega, by omega⟩

theorem gcd {a b : Int} (h1 : 0 ≤ a) (h2 : 0 ≤ b) : PureP (findFn tab) 201 [.int .i64 a, .int .i64 b] (fun v => ∃ z, v = .int .i64 z) := by
  refine pureP_of rfl rfl ?_
  (conv => whnf); repeat' (first | ((with_reducible first | apply kN | apply kW | apply kX | apply kG | apply kQ); (· exact sd); conv => whnf) | (refine pcase.mk ?_ ?_ <;> intro hc <;> (try rw [List.length_nil] at hc) <;> first | (exfalso; omega) | (exact absurd rfl hc) | conv => whnf)  | (refine bcase_intro ?_ ?_ <;> intro hc <;> conv => whnf))
  refine loop_inv (fun m env s => ∃ (a b : Int), m = b.toNat ∧ 0 ≤ a ∧ 0 ≤ b ∧ env = [(0, .int .i64 a), (1, .int .i64 b)] ∧ s = ⟨[], 0⟩) ?_ _ _ _ ⟨a, b, rfl, h1, h2, rfl, rfl⟩
  clear h1 h2 a b
  rintro _ _ _ ⟨a, b, rfl, h1, h2, rfl, rfl⟩
  refine ⟨rfl, ?_⟩
  (conv => whnf); repeat' (first | ((with_reducible first | apply kN | apply kW | apply kX | apply kG | apply kQ); (· exact sd); conv => whnf) | (refine pcase.mk ?_ ?_ <;> intro hc <;> (try rw [List.length_nil] at hc) <;> first | (exfalso; omega) | (exact absurd rfl hc) | conv => whnf)  | (refine bcase_intro ?_ ?_ <;> intro hc <;> conv => whnf))
  · have e : a.tmod b = a % b := Int.tmod_eq_emod_of_nonneg h1
    have := Int.emod_lt_of_pos a (by omega : 0 < b)
    have := Int.emod_nonneg a (by omega : b ≠ 0)
    exact again.mk ⟨_, by rw [e]; omega, _, _, rfl, h2, by rw [e]; omega, rfl, rfl⟩
  · exact ⟨_, rfl⟩

/-- a valid fraction is in range -/
theorem fvalid {n d : Int} : PureP (findFn tab) 135 [.agg [.int .i64 n, .int .i64 d]] (fun v => ∃ b, v = .bool b ∧ (b = true → 1 ≤ d ∧ d ≤ 1000000000000000 ∧ -1000000000000000 ≤ n ∧ n ≤ 1000000000000000)) := by
  refine pureP_of rfl rfl ?_
  (conv => whnf); repeat' (first | ((with_reducible first | apply kN | apply kW | apply kX | apply kG | apply kQ); (· exact sd); conv => whnf) | (refine pcase.mk ?_ ?_ <;> intro hc <;> (try rw [List.length_nil] at hc) <;> first | (exfalso; omega) | (exact absurd rfl hc) | conv => whnf) | (refine callK_of (size (n := n) (by omega) (by omega)) ?_; rintro _ ⟨z, rfl, hz1, hz2⟩; conv => whnf) | (refine callK_of (gcd (by omega) (by omega)) ?_; rintro _ ⟨z2, rfl⟩; conv => whnf) | (refine bcase_intro ?_ ?_ <;> intro hc <;> conv => whnf))
  all_goals first | exact ⟨_, rfl, fun _ => by omega⟩ | exact ⟨_, rfl, fun h => absurd h Bool.false_ne_true⟩

theorem strOk {s : List UInt8} (hl : s.length < 2^63) : PureP (findFn tab) 198 [.str s] (fun v => ∃ b, v = .bool b) := by
  refine pureP_of rfl rfl ?_
  (conv => whnf); repeat' (first | ((with_reducible first | apply kN | apply kW | apply kX | apply kG | apply kQ); (· exact sd); conv => whnf) | (refine pcase.mk ?_ ?_ <;> intro hc <;> (try rw [List.length_nil] at hc) <;> first | (exfalso; omega) | (exact absurd rfl hc) | conv => whnf)  | (refine bcase_intro ?_ ?_ <;> intro hc <;> conv => whnf))
  refine loop_inv (fun m env s' => ∃ i : Nat, m = s.length - i ∧ env = [(0, .str s), (3, .int .i64 i)] ∧ s' = ⟨[], 0⟩) ?_ _ _ _ ⟨0, rfl, rfl, rfl⟩
  rintro _ _ _ ⟨i, rfl, rfl, rfl⟩
  refine ⟨rfl, ?_⟩
  (conv => whnf); repeat' (first | ((with_reducible first | apply kN | apply kW | apply kX | apply kG | apply kQ); (· exact sd); conv => whnf) | (refine pcase.mk ?_ ?_ <;> intro hc <;> (try rw [List.length_nil] at hc) <;> first | (exfalso; omega) | (exact absurd rfl hc) | conv => whnf)  | (refine bcase_intro ?_ ?_ <;> intro hc <;> conv => whnf))
  all_goals first | exact ⟨_, rfl⟩ | exact again.mk ⟨_, by omega, i + 1, rfl, rfl, rfl⟩

/-- nodes and edges need no other value -/
theorem validLeaf {g : GV} {n : Int} (h : g.k = 5 ∨ g.k = 6) : PureP (findFn tab) 134 [g.av, .int .i64 n] (fun v => ∃ b, v = .bool b) := by
  refine pureP_of rfl rfl ?_
  (conv => whnf); repeat' (first | ((with_reducible first | apply kN | apply kW | apply kX | apply kG | apply kQ); (· exact sd); conv => whnf) | (refine pcase.mk ?_ ?_ <;> intro hc <;> (try rw [List.length_nil] at hc) <;> first | (exfalso; omega) | (exact absurd rfl hc) | conv => whnf) | (refine callK_of (bare (g := g)) ?_; rintro _ ⟨b, rfl⟩; conv => whnf) | (refine bcase_intro ?_ ?_ <;> intro hc <;> conv => whnf))
  all_goals exact ⟨_, rfl⟩

theorem pathOk {l : List AV} {nn : Bool} (hl : l.length < 2^63) (h : ∀ x ∈ l, Like Tryz.prog 43 x) : PureP (findFn tab) 199 [.sl nn l] (fun v => ∃ b, v = .bool b) := by
  refine pureP_of rfl rfl ?_
  (conv => whnf); repeat' (first | ((with_reducible first | apply kN | apply kW | apply kX | apply kG | apply kQ); (· exact sd); conv => whnf) | (refine pcase.mk ?_ ?_ <;> intro hc <;> (try rw [List.length_nil] at hc) <;> first | (exfalso; omega) | (exact absurd rfl hc) | conv => whnf)  | (refine bcase_intro ?_ ?_ <;> intro hc <;> conv => whnf))
  all_goals first | exact ⟨_, rfl⟩ | skip
  refine loop_inv (fun m env s' => ∃ i : Nat, m = l.length - i ∧ env = [(0, .sl nn l), (3, .int .i64 i)] ∧ s' = ⟨[], 0⟩) ?_ _ _ _ ⟨0, rfl, rfl, rfl⟩
  rintro _ _ _ ⟨i, rfl, rfl, rfl⟩
  refine ⟨rfl, ?_⟩
  obtain ⟨gx, hgx⟩ := like_at h i
  (conv => whnf); repeat' (first | ((with_reducible first | apply kN | apply kW | apply kX | apply kG | apply kQ); (· exact sd); conv => whnf) | (refine pcase.mk ?_ ?_ <;> intro hc <;> (try rw [List.length_nil] at hc) <;> first | (exfalso; omega) | (exact absurd rfl hc) | conv => whnf) | (apply nthK_intro; (· exact (hgx (by omega)).1); conv => whnf) | (refine callK_of (validLeaf (g := gx) (by omega)) ?_; rintro _ ⟨b, rfl⟩; conv => whnf) | (refine bcase_intro ?_ ?_ <;> intro hc <;> conv => whnf))
  all_goals first | exact ⟨_, rfl⟩ | exact again.mk ⟨_, by omega, i + 1, rfl, rfl, rfl⟩

end AI
end Go.Proofs.YtbkibamoigmboaaGreatDoor
set_option linter.unusedVariables false
namespace Go.Proofs.YtbkibamoigmboaaGreatDoor
namespace AI

theorem list0 {l : List AV} {nn : Bool} (hl : l.length < 2^63) : PureP (findFn tab) 200 [.sl nn l, .int .i64 0] (fun v => ∃ b, v = .bool b) := by
  refine pureP_of rfl rfl ?_
  (conv => whnf); repeat' (first | ((with_reducible first | apply kN | apply kW | apply kX | apply kG | apply kQ); (· exact sd); conv => whnf) | (refine pcase.mk ?_ ?_ <;> intro hc <;> (try rw [List.length_nil] at hc) <;> first | (exfalso; omega) | (exact absurd rfl hc) | conv => whnf)  | (refine bcase_intro ?_ ?_ <;> intro hc <;> conv => whnf))
  all_goals exact ⟨_, rfl⟩

theorem listS {n : Nat} (ih : ∀ {g : GV}, g.ok → PureP (findFn tab) 134 [g.av, .int .i64 n] (fun v => ∃ b, v = .bool b)) (hn : n < 2^60) {l : List AV} {nn : Bool} (hl : l.length < 2^63) (h : ∀ x ∈ l, Like Tryz.prog 43 x) :
    PureP (findFn tab) 200 [.sl nn l, .int .i64 (n + 1 : Nat)] (fun v => ∃ b, v = .bool b) := by
  refine pureP_of rfl rfl ?_
  (conv => whnf); repeat' (first | ((with_reducible first | apply kN | apply kW | apply kX | apply kG | apply kQ); (· exact sd); conv => whnf) | (refine pcase.mk ?_ ?_ <;> intro hc <;> (try rw [List.length_nil] at hc) <;> first | (exfalso; omega) | (exact absurd rfl hc) | conv => whnf)  | (refine bcase_intro ?_ ?_ <;> intro hc <;> conv => whnf))
  all_goals first | exact ⟨_, rfl⟩ | skip
  refine loop_inv (fun m env s' => ∃ i : Nat, m = l.length - i ∧ env = [(0, .sl nn l), (1, .int .i64 (n + 1 : Nat)), (5, .int .i64 i)] ∧ s' = ⟨[], 0⟩) ?_ _ _ _ ⟨0, rfl, rfl, rfl⟩
  rintro _ _ _ ⟨i, rfl, rfl, rfl⟩
  refine ⟨rfl, ?_⟩
  obtain ⟨gx, hgx⟩ := like_at h i
  have ih' : ∀ {g : GV}, g.ok → PureP (findFn tab) 134 [g.av, .int .i64 (((n + 1 : Nat) : Int) - 1)] (fun v => ∃ b, v = .bool b) := by
    rw [show ((n + 1 : Nat) : Int) - 1 = (n : Int) by omega]; exact ih
  (conv => whnf); repeat' (first | ((with_reducible first | apply kN | apply kW | apply kX | apply kG | apply kQ); (· exact sd); conv => whnf) | (refine pcase.mk ?_ ?_ <;> intro hc <;> (try rw [List.length_nil] at hc) <;> first | (exfalso; omega) | (exact absurd rfl hc) | conv => whnf) | (apply nthK_intro; (· exact (hgx (by omega)).1); conv => whnf) | (refine callK_of (ih' (g := gx) (hgx (by omega)).2.2) ?_; rintro _ ⟨b, rfl⟩; conv => whnf) | (refine bcase_intro ?_ ?_ <;> intro hc <;> conv => whnf))
  all_goals first | exact ⟨_, rfl⟩ | exact again.mk ⟨_, by omega, i + 1, rfl, rfl, rfl⟩

theorem validV {n : Int} {g : GV} (hg : g.ok) (hlist : PureP (findFn tab) 200 [.sl g.nn g.l, .int .i64 n] (fun v => ∃ b, v = .bool b)) :
    PureP (findFn tab) 134 [g.av, .int .i64 n] (fun v => ∃ b, v = .bool b) := by
  obtain ⟨g1, g2, g3, g4, g5, g6, g7⟩ := hg
  unfold Ln at g4 g5
  refine pureP_of rfl rfl ?_
  (conv => whnf); repeat' (first | ((with_reducible first | apply kN | apply kW | apply kX | apply kG | apply kQ); (· exact sd); conv => whnf) | (refine pcase.mk ?_ ?_ <;> intro hc <;> (try rw [List.length_nil] at hc) <;> first | (exfalso; omega) | (exact absurd rfl hc) | conv => whnf) | (refine callK_of (bare (g := g)) ?_; rintro _ ⟨b, rfl⟩; conv => whnf) | (refine callK_of (inRB (n := g.n)) ?_; rintro _ ⟨b, rfl⟩; conv => whnf) | (refine callK_of (fvalid (n := g.n) (d := g.d)) ?_; rintro _ ⟨b, rfl, _⟩; conv => whnf) | (refine callK_of (strOk g4) ?_; rintro _ ⟨b, rfl⟩; conv => whnf) | (refine callK_of (pathOk g5 g7) ?_; rintro _ ⟨b, rfl⟩; conv => whnf) | (refine callK_of hlist ?_; rintro _ ⟨b, rfl⟩; conv => whnf) | (refine bcase_intro ?_ ?_ <;> intro hc <;> conv => whnf))
  all_goals exact ⟨_, rfl⟩

theorem valid {n : Nat} (hn : n < 2^60) : ∀ {g : GV}, g.ok → PureP (findFn tab) 134 [g.av, .int .i64 n] (fun v => ∃ b, v = .bool b) := by
  induction n with
  | zero => intro g hg; exact validV hg (list0 hg.2.2.2.2.1)
  | succ n ih => intro g hg; exact validV hg (listS (ih (by omega)) (by omega) hg.2.2.2.2.1 hg.2.2.2.2.2.2)

theorem Valid {g : GV} (hg : g.ok) : PureP (findFn tab) 89 [g.av] (fun v => ∃ b, v = .bool b) := by
  refine pureP_of rfl rfl ?_
  (conv => whnf); repeat' (first | ((with_reducible first | apply kN | apply kW | apply kX | apply kG | apply kQ); (· exact sd); conv => whnf) | (refine pcase.mk ?_ ?_ <;> intro hc <;> (try rw [List.length_nil] at hc) <;> first | (exfalso; omega) | (exact absurd rfl hc) | conv => whnf) | (refine callK_of (valid (n := 8) (by omega) hg) ?_; rintro _ ⟨b, rfl⟩; conv => whnf) | (refine bcase_intro ?_ ?_ <;> intro hc <;> conv => whnf))
  all_goals exact ⟨_, rfl⟩

end AI
end Go.Proofs.YtbkibamoigmboaaGreatDoor
set_option linter.unusedVariables false
namespace Go.Proofs.YtbkibamoigmboaaGreatDoor
namespace AI

def bareP (v : GV) (n d s l : Bool) : Prop := (n = true ∨ v.n = 0) ∧ (d = true ∨ v.d = 0) ∧ (s = true ∨ v.s = []) ∧ (l = true ∨ v.l.length = 0)
instance (v : GV) (n d s l : Bool) : Decidable (bareP v n d s l) := by unfold bareP; infer_instance

theorem bareE {v : GV} {n d s l : Bool} (hl : v.l.length < 2^63) : PureP (findFn tab) 196 [v.av, .bool n, .bool d, .bool s, .bool l] (· = .bool (decide (bareP v n d s l))) := by
  cases n <;> cases d <;> cases s <;> cases l
  all_goals
    refine pureP_of rfl rfl ?_
    (conv => whnf); repeat' (first | ((with_reducible first | apply kN | apply kW | apply kX | apply kG | apply kQ); (· exact sd); conv => whnf) | (refine pcase.mk ?_ ?_ <;> intro hc <;> (try rw [List.length_nil] at hc) <;> first | (exfalso; omega) | (exact absurd rfl hc) | conv => whnf)  | (refine bcase_intro ?_ ?_ <;> intro hc <;> conv => whnf))
  all_goals first
    | (refine bool_t ?_; unfold bareP; refine ⟨?_, ?_, ?_, ?_⟩ <;> first | (left; rfl) | (right; first | assumption | omega))
    | (refine bool_f ?_; unfold bareP; rintro ⟨h1, h2, h3, h4⟩; simp only [Bool.false_eq_true, false_or, true_or] at h1 h2 h3 h4; first | contradiction | omega)

theorem strE {s : List UInt8} (hl : s.length < 2^63) : PureP (findFn tab) 198 [.str s] (· = .bool (decide (okS s))) := by
  refine pureP_of rfl rfl ?_
  (conv => whnf); repeat' (first | ((with_reducible first | apply kN | apply kW | apply kX | apply kG | apply kQ); (· exact sd); conv => whnf) | (refine pcase.mk ?_ ?_ <;> intro hc <;> (try rw [List.length_nil] at hc) <;> first | (exfalso; omega) | (exact absurd rfl hc) | conv => whnf)  | (refine bcase_intro ?_ ?_ <;> intro hc <;> conv => whnf))
  refine loop_inv (fun m env s' => ∃ i : Nat, m = s.length - i ∧ env = [(0, .str s), (3, .int .i64 i)] ∧ s' = ⟨[], 0⟩ ∧ ∀ c ∈ s.take i, badB c = false) ?_ _ _ _ ⟨0, rfl, rfl, rfl, by simp⟩
  rintro _ _ _ ⟨i, rfl, rfl, rfl, hx⟩
  refine ⟨rfl, ?_⟩
  (conv => whnf); repeat' (first | ((with_reducible first | apply kN | apply kW | apply kX | apply kG | apply kQ); (· exact sd); conv => whnf) | (refine pcase.mk ?_ ?_ <;> intro hc <;> (try rw [List.length_nil] at hc) <;> first | (exfalso; omega) | (exact absurd rfl hc) | conv => whnf)  | (refine bcase_intro ?_ ?_ <;> intro hc <;> conv => whnf))
  all_goals first
    | exact again.mk ⟨_, by omega, i + 1, rfl, rfl, rfl, all_take_succ (by omega) hx (by unfold badB; simp; omega)⟩
    | (refine bool_f fun h => ?_; have := h.2 s[i] (List.getElem_mem (by omega)); unfold badB at this; simp at this; omega)
    | (rw [List.take_of_length_le (by omega)] at hx; exact bool_t ⟨by omega, hx⟩)
    | (refine bool_f fun h => ?_; have := h.1; omega)

end AI
end Go.Proofs.YtbkibamoigmboaaGreatDoor
set_option linter.unusedVariables false
namespace Go.Proofs.YtbkibamoigmboaaGreatDoor
namespace AI

theorem validL {v : GV} (hv : v.ok) (hk : kindP v) {n : Int} : PureP (findFn tab) 134 [v.av, .int .i64 n] (· = .bool (decide (leafV v))) := by
  obtain ⟨g1, g2, g3, g4, g5, g6, g7⟩ := hv
  unfold Ln at g4 g5
  unfold kindP at hk
  refine pureP_of rfl rfl ?_
  (conv => whnf); repeat' (first | ((with_reducible first | apply kN | apply kW | apply kX | apply kG | apply kQ); (· exact sd); conv => whnf) | (refine pcase.mk ?_ ?_ <;> intro hc <;> (try rw [List.length_nil] at hc) <;> first | (exfalso; omega) | (exact absurd rfl hc) | conv => whnf) | (refine callB (bareE (v := v) g5) (fun hb => ?_) (fun hb => ?_) <;> conv => whnf) | (refine callB (inP2 (n := v.n)) (fun hr => ?_) (fun hr => ?_) <;> conv => whnf) | (refine callB (strE (s := v.s) g4) (fun hr => ?_) (fun hr => ?_) <;> conv => whnf) | (refine bcase_intro ?_ ?_ <;> intro hc <;> conv => whnf))
  all_goals unfold bareP at hb
  all_goals simp only [Bool.false_eq_true, false_or, true_or, true_and] at hb
  all_goals first
    | exact bool_t (leaf_1 (by omega) hb.1 hb.2.2 hb.2.1 (by omega))
    | exact bool_t (leaf_2 (by omega) hb.1 hb.2.2 hb.2.1 hr)
    | exact bool_t (leaf_4 (by omega) hb.2.1 hb.2.2 hb.1 hr)
    | exact bool_f fun h => hb ⟨h.1, leaf_s h (by omega), h.2.1⟩
    | exact bool_f fun h => hb ⟨(leaf_z h (by omega)).1, h.1, h.2.1⟩
    | (refine bool_f fun h => ?_; have := leaf_n h (by omega); omega)
    | exact bool_f fun h => hr (leaf_r h (by omega))
    | exact bool_f fun h => hr (leaf_z h (by omega)).2
    | (exfalso; omega)

theorem ValidL {v : GV} (hv : v.ok) (hk : kindP v) : PureP (findFn tab) 89 [v.av] (· = .bool (decide (leafV v))) := by
  refine pureP_of rfl rfl ?_
  (conv => whnf); repeat' (first | ((with_reducible first | apply kN | apply kW | apply kX | apply kG | apply kQ); (· exact sd); conv => whnf) | (refine pcase.mk ?_ ?_ <;> intro hc <;> (try rw [List.length_nil] at hc) <;> first | (exfalso; omega) | (exact absurd rfl hc) | conv => whnf) | (refine callB (validL (v := v) hv hk) (fun hr => ?_) (fun hr => ?_) <;> conv => whnf) | (refine bcase_intro ?_ ?_ <;> intro hc <;> conv => whnf))
  all_goals first | exact bool_t (by assumption) | exact bool_f (by assumption)

theorem plain2 {v : GV} (hv : v.ok) : PureP (findFn tab) 170 [v.av] (· = .bool (decide (leafV v))) := by
  by_cases hk : kindP v
  · have hk' := hk
    unfold kindP at hk'
    refine pureP_of rfl rfl ?_
    (conv => whnf); repeat' (first | ((with_reducible first | apply kN | apply kW | apply kX | apply kG | apply kQ); (· exact sd); conv => whnf) | (refine pcase.mk ?_ ?_ <;> intro hc <;> (try rw [List.length_nil] at hc) <;> first | (exfalso; omega) | (exact absurd rfl hc) | conv => whnf) | (refine callB (ValidL (v := v) hv hk) (fun hr => ?_) (fun hr => ?_) <;> conv => whnf) | (refine bcase_intro ?_ ?_ <;> intro hc <;> conv => whnf))
    all_goals first | exact bool_t (by assumption) | exact bool_f (by assumption) | (exfalso; omega)
  · have hk' := hk
    unfold kindP at hk'
    refine pureP_of rfl rfl ?_
    (conv => whnf); repeat' (first | ((with_reducible first | apply kN | apply kW | apply kX | apply kG | apply kQ); (· exact sd); conv => whnf) | (refine pcase.mk ?_ ?_ <;> intro hc <;> (try rw [List.length_nil] at hc) <;> first | (exfalso; omega) | (exact absurd rfl hc) | conv => whnf) | (refine callK_of (Valid (g := v) hv) ?_; rintro _ ⟨b, rfl⟩; conv => whnf) | (refine bcase_intro ?_ ?_ <;> intro hc <;> conv => whnf))
    all_goals first | exact bool_f (fun h => hk (leaf_kind h)) | (exfalso; omega)

theorem keysR {P : List GP} {nn : Bool} (hl : P.length < 2^40) : PureP (findFn tab) 167 [.sl nn (vs GP.av P)] (fun v => ∃ b, v = .sl b (vs .str (keysOf P))) := by
  refine pureP_of rfl rfl ?_
  (conv => whnf); repeat' (first | ((with_reducible first | apply kN | apply kW | apply kX | apply kG | apply kQ); (· exact sd); conv => whnf) | (refine pcase.mk ?_ ?_ <;> intro hc <;> (try rw [List.length_nil] at hc) <;> first | (exfalso; omega) | (exact absurd rfl hc) | conv => whnf)  | (refine bcase_intro ?_ ?_ <;> intro hc <;> conv => whnf))
  refine loop_inv (fun m env s => ∃ (i c go n : Nat) (b : Bool), m = P.length - i ∧ i ≤ P.length ∧ n = i ∧ env = [(0, .sl nn (vs GP.av P)), (3, .own 0 go 0 n), (4, .int .i64 i)] ∧ s = ⟨[.arr go 1 b true (vs .str (keysOf (P.take i)))], c⟩) ?_ _ _ _ ⟨0, _, _, 0, _, rfl, by omega, rfl, rfl, rfl⟩
  rintro _ _ _ ⟨i, c, go, n, b, rfl, hi, hn, rfl, rfl⟩
  refine ⟨rfl, ?_⟩
  (conv => whnf); repeat' (first | (refine apV1 (x := (P[i]).key) (fun _ => rfl) (by simp; omega) (by simp; omega) ?_; conv => whnf) | ((with_reducible first | apply kN | apply kW | apply kX | apply kG | apply kQ); (· exact sd); conv => whnf) | (refine pcase.mk ?_ ?_ <;> intro hc <;> (try rw [List.length_nil] at hc) <;> first | (exfalso; omega) | (exact absurd rfl hc) | conv => whnf) | (refine bcase_intro ?_ ?_ <;> intro hc <;> conv => whnf))
  · exact again.mk ⟨_, by omega, i + 1, _, _, _, _, rfl, by omega, by simp; omega, rfl, by rw [keysOf_snoc (by omega)]⟩
  · obtain rfl : i = P.length := by omega
    refine ⟨b, ?_⟩
    rw [sub_vs, hn]
    simp
    rw [List.take_of_length_le (by simp)]

theorem partsR {L : List (List UInt8)} {P : List GP} {ln pn : Bool} (hL : L.length < 2^63) (hs : ∀ s ∈ L, s.length < 2^63) (hP : P.length < 2^63) (hp : ∀ p ∈ P, p.ok) : PureP (findFn tab) 116 [.sl ln (vs .str L), .sl pn (vs GP.av P)] (· = .int .i64 (partsE L P)) := by
  have hk := keysOf_ln hp
  have hkl : (keysOf P).length < 2^63 := by rw [keysOf_len]; exact hP
  refine pureP_of rfl rfl ?_
  (conv => whnf); repeat' (first | ((with_reducible first | apply kN | apply kW | apply kX | apply kG | apply kQ); (· exact sd); conv => whnf) | (refine pcase.mk ?_ ?_ <;> intro hc <;> (try rw [List.length_nil] at hc) <;> first | (exfalso; omega) | (exact absurd rfl hc) | conv => whnf)  | (refine bcase_intro ?_ ?_ <;> intro hc <;> conv => whnf))
  · exact parts_4 (by omega)
  · exact parts_4 (by omega)
  have h16 : ¬ (8 < L.length ∨ 16 < P.length) := by omega
  refine callK_of (keysR (P := P) (by omega)) ?_
  rintro _ ⟨b, rfl⟩
  (conv => whnf); repeat' (first | (refine callB (namesR hL hs) (fun h1 => ?_) (fun h1 => ?_) <;> conv => whnf) | (refine callB (namesR hkl hk) (fun h2 => ?_) (fun h2 => ?_) <;> conv => whnf) | (refine callB (rises2 hL) (fun h3 => ?_) (fun h3 => ?_) <;> conv => whnf) | (refine callB (rises2 hkl) (fun h4 => ?_) (fun h4 => ?_) <;> conv => whnf) | ((with_reducible first | apply kN | apply kW | apply kX | apply kG | apply kQ); (· exact sd); conv => whnf) | (refine pcase.mk ?_ ?_ <;> intro hc <;> (try rw [List.length_nil] at hc) <;> first | (exfalso; omega) | (exact absurd rfl hc) | conv => whnf) | (refine bcase_intro ?_ ?_ <;> intro hc <;> conv => whnf))
  all_goals first
    | exact parts_6 h16 fun h => h1 h.1
    | exact parts_6 h16 fun h => h2 h.2
    | exact parts_26 h16 ⟨h1, h2⟩ fun h => h3 h.1
    | exact parts_26 h16 ⟨h1, h2⟩ fun h => h4 h.2
    | skip
  refine loop_inv (fun m env s => ∃ (i : Nat), m = P.length - i ∧ env = [(1, .sl pn (vs GP.av P)), (6, .int .i64 i)] ∧ s = ⟨[], 0⟩ ∧ ∀ p ∈ P.take i, leafV p.v) ?_ _ _ _ ⟨0, rfl, rfl, rfl, by simp⟩
  rintro _ _ _ ⟨i, rfl, rfl, rfl, hx⟩
  refine ⟨rfl, ?_⟩
  (conv => whnf); repeat' (first | (refine callB (plain2 (v := (P[i]).v) (hp _ (List.getElem_mem (by omega))).2) (fun hr => ?_) (fun hr => ?_) <;> conv => whnf) | ((with_reducible first | apply kN | apply kW | apply kX | apply kG | apply kQ); (· exact sd); conv => whnf) | (refine pcase.mk ?_ ?_ <;> intro hc <;> (try rw [List.length_nil] at hc) <;> first | (exfalso; omega) | (exact absurd rfl hc) | conv => whnf) | (refine bcase_intro ?_ ?_ <;> intro hc <;> conv => whnf))
  · exact again.mk ⟨_, by omega, i + 1, rfl, rfl, rfl, all_take_succ (by omega) hx hr⟩
  · exact parts_8 h16 ⟨h1, h2⟩ ⟨h3, h4⟩ fun h => hr (h _ (List.getElem_mem _))
  · rw [take_all hc] at hx
    exact parts_0 h16 ⟨h1, h2⟩ ⟨h3, h4⟩ hx

end AI
end Go.Proofs.YtbkibamoigmboaaGreatDoor
set_option linter.unusedVariables false
namespace Go.Proofs.YtbkibamoigmboaaGreatDoor
namespace AI

theorem nodeF {g : GG} (hl : g.nodes.length < 2^62) {id : Int} : PureP (findFn tab) 117 [g.av, .int .i64 id] (fun v => ∃ n : GN, v = .tup [n.av, .bool (decide (id ∈ nids g.nodes))]) := by
  refine pureP_of rfl rfl ?_
  (conv => whnf); repeat' (first | ((with_reducible first | apply kN | apply kW | apply kX | apply kG | apply kQ); (· exact sd); conv => whnf) | (refine pcase.mk ?_ ?_ <;> intro hc <;> (try rw [List.length_nil] at hc) <;> first | (exfalso; omega) | (exact absurd rfl hc) | conv => whnf)  | (refine bcase_intro ?_ ?_ <;> intro hc <;> conv => whnf))
  refine loop_inv (fun m env s => ∃ i : Nat, m = g.nodes.length - i ∧ id ∉ nids (g.nodes.take i) ∧ env = [(1, .int .i64 id), (2, .ref 0 0 0 0), (4, .ref 1 1 0 0), (6, .int .i64 i)] ∧ s = ⟨[.arr 0 4 true true [g.av], .arr 1 3 true true [.agg [.int .i64 0, .sl false [], .sl false []]]], 2⟩) ?_ _ _ _ ⟨0, rfl, by simp [nids], rfl, rfl⟩
  rintro _ _ _ ⟨i, rfl, hx, rfl, rfl⟩
  refine ⟨rfl, ?_⟩
  (conv => whnf); repeat' (first | ((with_reducible first | apply kN | apply kW | apply kX | apply kG | apply kQ); (· exact sd); conv => whnf) | (refine pcase.mk ?_ ?_ <;> intro hc <;> (try rw [List.length_nil] at hc) <;> first | (exfalso; omega) | (exact absurd rfl hc) | conv => whnf)  | (refine bcase_intro ?_ ?_ <;> intro hc <;> conv => whnf))
  · refine ⟨g.nodes[i], ?_⟩
    have : id ∈ nids g.nodes := hc ▸ List.mem_map_of_mem (List.getElem_mem _)
    rw [decide_eq_true this]; rfl
  · refine again.mk ⟨_, by omega, i + 1, rfl, ?_, rfl, rfl⟩
    unfold nids at hx ⊢
    rw [List.take_succ_eq_append_getElem (by omega), List.map_append, List.mem_append]
    rintro (h | h)
    · exact hx h
    · simp at h; exact hc h.symm
  · rw [take_all hc] at hx
    refine ⟨⟨0, false, [], false, []⟩, ?_⟩
    rw [decide_eq_false hx]; rfl

theorem nodeC {g : GG} (hg : g.ok) {i : Nat} (hi : i < g.nodes.length) : PureP (findFn tab) 75 [g.av, .int .i64 i] (· = .int .i64 (nodeE g.nodes g.nextN i)) := by
  obtain ⟨g1, g2, g3, g4, g5, g6, g7, g8⟩ := hg
  unfold Ln at g1 g4
  have hat := g3 _ (List.getElem_mem hi)
  refine pureP_of rfl rfl ?_
  (conv => whnf); repeat' (first | (apply nthK_intro; (· exact nVz (i - 1) (by omega) (by omega)); conv => whnf) | (refine callK_of (partsR (L := (g.nodes[i]).labels) (P := (g.nodes[i]).props) hat.2.1 hat.2.2.2.1 hat.2.2.2.2.1 hat.2.2.2.2.2.2) ?_; rintro _ rfl; conv => whnf) | ((with_reducible first | apply kN | apply kW | apply kX | apply kG | apply kQ); (· exact sd); conv => whnf) | (refine pcase.mk ?_ ?_ <;> intro hc <;> (try rw [List.length_nil] at hc) <;> first | (exfalso; omega) | (exact absurd rfl hc) | conv => whnf) | (refine bcase_intro ?_ ?_ <;> intro hc <;> conv => whnf))
  all_goals first
    | (rw [nodeP hi (fun h => by first | assumption | omega) (by omega)]; rfl)
    | (rw [node26 hi (by omega) (by assumption)]; rfl)
    | (rw [node1 hi (fun h => by first | assumption | omega) (by omega)]; rfl)

set_option maxHeartbeats 1000000 in
theorem edgeC {g : GG} (hg : g.ok) (hf : g.nodes.length < 2^62) {i : Nat} (hi : i < g.edges.length) : PureP (findFn tab) 76 [g.av, .int .i64 i] (· = .int .i64 (edgeE g.nodes g.edges g.nextE i)) := by
  obtain ⟨g1, g2, g3, g4, g5, g6, g7, g8⟩ := hg
  unfold Ln at g1 g4
  have hat := g6 _ (List.getElem_mem hi)
  refine pureP_of rfl rfl ?_
  (conv => whnf); repeat' (first | (apply nthK_intro; (· exact nVz (i - 1) (by omega) (by omega)); conv => whnf) | (refine callK_of (nodeF (g := g) (id := (g.edges[i]).fr) hf) ?_; rintro _ ⟨n1, rfl⟩; conv => whnf) | (refine callK_of (nodeF (g := g) (id := (g.edges[i]).to) hf) ?_; rintro _ ⟨n2, rfl⟩; conv => whnf) | (refine callB (name2 (s := (g.edges[i]).ty) hat.2.2.2.1) (fun hnm => ?_) (fun hnm => ?_) <;> conv => whnf) | (refine callK_of (partsR (L := []) (P := (g.edges[i]).props) (by decide) (by simp) hat.2.2.2.2.1 hat.2.2.2.2.2.2) ?_; rintro _ rfl; conv => whnf) | ((with_reducible first | apply kN | apply kW | apply kX | apply kG | apply kQ); (· exact sd); conv => whnf) | (refine pcase.mk ?_ ?_ <;> intro hc <;> (try rw [List.length_nil] at hc) <;> first | (exfalso; omega) | (exact absurd rfl hc) | conv => whnf) | (refine bcase_intro ?_ ?_ <;> intro hc <;> conv => whnf))
  all_goals try simp only [decide_eq_true_eq, decide_eq_false_iff_not] at *
  all_goals first
    | (rw [edge26 hi (by omega) (by assumption)]; rfl)
    | (rw [edge1 hi (fun h => by first | assumption | omega) (by omega)]; rfl)
    | (rw [edgeP hi (fun h => by first | assumption | omega) (by omega) ⟨by assumption, by assumption⟩ hnm]; rfl)
    | (rw [edge6 hi (fun h => by first | assumption | omega) (by omega) ⟨by assumption, by assumption⟩ hnm]; rfl)
    | (rw [edge10 hi (fun h => by first | assumption | omega) (by omega) (fun h => by first | exact absurd h.1 (by assumption) | exact absurd h.2 (by assumption))]; rfl)

theorem checkR {g : GG} (hg : g.ok) : PureP (findFn tab) 39 [g.av] (· = .int .i64 (checkE g)) := by
  have hg0 := hg
  obtain ⟨g1, g2, g3, g4, g5, g6, g7, g8⟩ := hg
  unfold Ln at g1 g4
  refine pureP_of rfl rfl ?_
  (conv => whnf); repeat' (first | ((with_reducible first | apply kN | apply kW | apply kX | apply kG | apply kQ); (· exact sd); conv => whnf) | (refine pcase.mk ?_ ?_ <;> intro hc <;> (try rw [List.length_nil] at hc) <;> first | (exfalso; omega) | (exact absurd rfl hc) | conv => whnf)  | (refine bcase_intro ?_ ?_ <;> intro hc <;> conv => whnf))
  all_goals first | exact check4 (by unfold fitsG; omega) | exact check1 (by unfold fitsG; omega) (by unfold nextG; omega) | skip
  have hf : fitsG g := by unfold fitsG; omega
  have hnx : nextG g := by unfold nextG; omega
  have hf1 := hf.1
  have hf2 := hf.2
  refine loop_inv (fun m env s => ∃ i : Nat, m = g.nodes.length - i ∧ i ≤ g.nodes.length ∧ (∀ k, k < i → nodeE g.nodes g.nextN k = 0) ∧ env = [(1, .ref 0 0 0 0), (3, .int .i64 i)] ∧ s = ⟨[.arr 0 4 true true [g.av]], 1⟩) ?_ _ _ _ ⟨0, rfl, by omega, fun k h => absurd h (by omega), rfl, rfl⟩
  rintro _ _ _ ⟨i, rfl, hin, hx, rfl, rfl⟩
  refine ⟨rfl, ?_⟩
  (conv => whnf); repeat' (first | (refine callK_of (nodeC hg0 (i := i) (by omega)) ?_; rintro _ rfl; conv => whnf) | ((with_reducible first | apply kN | apply kW | apply kX | apply kG | apply kQ); (· exact sd); conv => whnf) | (refine pcase.mk ?_ ?_ <;> intro hc <;> (try rw [List.length_nil] at hc) <;> first | (exfalso; omega) | (exact absurd rfl hc) | conv => whnf) | (refine bcase_intro ?_ ?_ <;> intro hc <;> conv => whnf))
  · exact again.mk ⟨_, by omega, i + 1, rfl, by omega, all_lt_succ hx hc, rfl, rfl⟩
  · exact checkN hf hnx (by omega) hx rfl hc
  have hN : ∀ k, k < g.nodes.length → nodeE g.nodes g.nextN k = 0 := fun k h => hx k (by omega)
  refine loop_inv (fun m env s => ∃ i : Nat, m = g.edges.length - i ∧ i ≤ g.edges.length ∧ (∀ k, k < i → edgeE g.nodes g.edges g.nextE k = 0) ∧ env = [(1, .ref 0 0 0 0), (5, .int .i64 i)] ∧ s = ⟨[.arr 0 4 true true [g.av]], 1⟩) ?_ _ _ _ ⟨0, rfl, by omega, fun k h => absurd h (by omega), rfl, rfl⟩
  rintro _ _ _ ⟨j, rfl, hjn, hy, rfl, rfl⟩
  refine ⟨rfl, ?_⟩
  (conv => whnf); repeat' (first | (refine callK_of (edgeC hg0 (i := j) (by omega) (by omega)) ?_; rintro _ rfl; conv => whnf) | ((with_reducible first | apply kN | apply kW | apply kX | apply kG | apply kQ); (· exact sd); conv => whnf) | (refine pcase.mk ?_ ?_ <;> intro hc <;> (try rw [List.length_nil] at hc) <;> first | (exfalso; omega) | (exact absurd rfl hc) | conv => whnf) | (refine bcase_intro ?_ ?_ <;> intro hc <;> conv => whnf))
  · exact again.mk ⟨_, by omega, j + 1, rfl, by omega, all_lt_succ hy hc, rfl, rfl⟩
  · exact checkEd hf hnx hN (by omega) hy rfl hc
  · exact check0 hf hnx hN fun k h => hy k (by omega)

end AI
end Go.Proofs.YtbkibamoigmboaaGreatDoor
