/- The reference's validity of values: it answers. The reference's validity of values, with lists in lists. The reference's bare values and strings. -/
import Derived.Test.YtbkibamoigmboaaGreatDoorMT
import Derived.Test.YtbkibamoigmboaaGreatDoorMN
import Derived.Test.YtbkibamoigmboaaGreatDoorMV
set_option linter.unusedVariables false
set_option maxRecDepth 4000
namespace Go.Proofs.YtbkibamoigmboaaGreatDoor
namespace AI

theorem bare {g : GV} {n d s l : Bool} : PureP (findFn tab) 196 [g.av, .bool n, .bool d, .bool s, .bool l] (fun v => ∃ b, v = .bool b) := by
  cases n <;> cases d <;> cases s <;> cases l <;> (
  refine pureP_of rfl rfl ?_
  (conv => whnf); repeat' (first | ((with_reducible first | apply kN | apply kW | apply kX | apply kG | apply kQ); (· exact sd); conv => whnf) | (refine pcase.mk ?_ ?_ <;> intro hc <;> (try rw [List.length_nil] at hc) <;> first | (exfalso; omega) | (exact absurd rfl hc) | conv => whnf)  | (refine bcase_intro ?_ ?_ <;> intro hc <;> conv => whnf))
  all_goals exact ⟨_, rfl⟩)

theorem inRB {n : Int} : PureP (findFn tab) 197 [.int .i64 n] (fun v => ∃ b, v = .bool b) := by
  refine pureP_of rfl rfl ?_
  (conv => whnf); repeat' (first | ((with_reducible first | apply kN | apply kW | apply kX | apply kG | apply kQ); (· exact sd); conv => whnf) | (refine pcase.mk ?_ ?_ <;> intro hc <;> (try rw [List.length_nil] at hc) <;> first | (exfalso; omega) | (exact absurd rfl hc) | conv => whnf)  | (refine bcase_intro ?_ ?_ <;> intro hc <;> conv => whnf))
  all_goals exact ⟨_, rfl⟩

theorem size {n : Int} (h1 : -2^62 ≤ n) (h2 : n ≤ 2^62) : PureP (findFn tab) 139 [.int .i64 n] (fun v => ∃ z, v = .int .i64 z ∧ 0 ≤ z ∧ (z = n ∨ z = -n)) := by
  refine pureP_of rfl rfl ?_
  (conv => whnf); repeat' (first | ((with_reducible first | apply kN | apply kW | apply kX | apply kG | apply kQ); (· exact sd); conv => whnf) | (refine pcase.mk ?_ ?_ <;> intro hc <;> (try rw [List.length_nil] at hc) <;> first | (exfalso; omega) | (exact absurd rfl hc) | conv => whnf)  | (refine bcase_intro ?_ ?_ <;> intro hc <;> conv => whnf))
  all_goals exact ⟨_, rfl, by omega, by omega⟩

theorem gcd {a b : Int} (h1 : 0 ≤ a) (h2 : 0 ≤ b) : PureP (findFn tab) 201 [.int .i64 a, .int .i64 b] (fun v => ∃ z, v = .int .i64 z) := by
  refine pureP_of rfl rfl ?_
  (conv => whnf); repeat' (first | ((with_reducible first | apply kN | apply kW | apply kX | apply kG | apply kQ); (· exact sd); conv => whnf) | (refine pcase.mk ?_ ?_ <;> intro hc <;> (try rw [List.length_nil] at hc) <;> first | (exfalso; omega) | (exact absurd rfl hc) | conv => whnf)  | (refine bcase_intro ?_ ?_ <;> intro hc <;> conv => whnf))
  refine loop_inv (fun m env s => ∃ (a b : Int), m = b.toNat ∧ 0 ≤ a ∧ 0 ≤ b ∧ env = [(0, .int .i64 a), (1, .int .i64 b)] ∧ s = ⟨[], 0⟩) ?_ _ _ _ ⟨a, b, rfl, h1, h2, rfl, rfl⟩
  clear h1 h2 a b
  rintro _ _ _ ⟨a, b, rfl, h1, h2, rfl, rfl⟩
  refine ⟨rfl, ?_⟩
  (conv => whnf); repeat' (first | ((with_reducible first | apply kN | apply kW | apply kX | apply kG | apply kQ); (· exact sd); conv => whnf) | (refine pcase.mk ?_ ?_ <;> intro hc <;> (try rw [List.length_nil] at hc) <;> first | (exfalso; omega) | (exact absurd rfl hc) | conv => whnf)  | (refine bcase_intro ?_ ?_ <;> intro hc <;> conv => whnf))
  · have e : a.tmod b = a % b := Int.tmod_eq_emod_of_nonneg h1
    have := Int.emod_lt_of_pos a (by omega : 0 < b)
    have := Int.emod_nonneg a (by omega : b ≠ 0)
    exact again.mk ⟨_, by rw [e]; omega, _, _, rfl, h2, by rw [e]; omega, rfl, rfl⟩
  · exact ⟨_, rfl⟩

/-- a valid fraction is in range -/
theorem fvalid {n d : Int} : PureP (findFn tab) 135 [.agg [.int .i64 n, .int .i64 d]] (fun v => ∃ b, v = .bool b ∧ (b = true → 1 ≤ d ∧ d ≤ 1000000000000000 ∧ -1000000000000000 ≤ n ∧ n ≤ 1000000000000000)) := by
  refine pureP_of rfl rfl ?_
  (conv => whnf); repeat' (first | ((with_reducible first | apply kN | apply kW | apply kX | apply kG | apply kQ); (· exact sd); conv => whnf) | (refine pcase.mk ?_ ?_ <;> intro hc <;> (try rw [List.length_nil] at hc) <;> first | (exfalso; omega) | (exact absurd rfl hc) | conv => whnf) | (refine callK_of (size (n := n) (by omega) (by omega)) ?_; rintro _ ⟨z, rfl, hz1, hz2⟩; conv => whnf) | (refine callK_of (gcd (by omega) (by omega)) ?_; rintro _ ⟨z2, rfl⟩; conv => whnf) | (refine bcase_intro ?_ ?_ <;> intro hc <;> conv => whnf))
  all_goals first | exact ⟨_, rfl, fun _ => by omega⟩ | exact ⟨_, rfl, fun h => absurd h Bool.false_ne_true⟩

theorem strOk {s : List UInt8} (hl : s.length < 2^63) : PureP (findFn tab) 198 [.str s] (fun v => ∃ b, v = .bool b) := by
  refine pureP_of rfl rfl ?_
  (conv => whnf); repeat' (first | ((with_reducible first | apply kN | apply kW | apply kX | apply kG | apply kQ); (· exact sd); conv => whnf) | (refine pcase.mk ?_ ?_ <;> intro hc <;> (try rw [List.length_nil] at hc) <;> first | (exfalso; omega) | (exact absurd rfl hc) | conv => whnf)  | (refine bcase_intro ?_ ?_ <;> intro hc <;> conv => whnf))
  refine loop_inv (fun m env s' => ∃ i : Nat, m = s.length - i ∧ env = [(0, .str s), (3, .int .i64 i)] ∧ s' = ⟨[], 0⟩) ?_ _ _ _ ⟨0, rfl, rfl, rfl⟩
  rintro _ _ _ ⟨i, rfl, rfl, rfl⟩
  refine ⟨rfl, ?_⟩
  (conv => whnf); repeat' (first | ((with_reducible first | apply kN | apply kW | apply kX | apply kG | apply kQ); (· exact sd); conv => whnf) | (refine pcase.mk ?_ ?_ <;> intro hc <;> (try rw [List.length_nil] at hc) <;> first | (exfalso; omega) | (exact absurd rfl hc) | conv => whnf)  | (refine bcase_intro ?_ ?_ <;> intro hc <;> conv => whnf))
  all_goals first | exact ⟨_, rfl⟩ | exact again.mk ⟨_, by omega, i + 1, rfl, rfl, rfl⟩

/-- nodes and edges need no other value -/
theorem validLeaf {g : GV} {n : Int} (h : g.k = 5 ∨ g.k = 6) : PureP (findFn tab) 134 [g.av, .int .i64 n] (fun v => ∃ b, v = .bool b) := by
  refine pureP_of rfl rfl ?_
  (conv => whnf); repeat' (first | ((with_reducible first | apply kN | apply kW | apply kX | apply kG | apply kQ); (· exact sd); conv => whnf) | (refine pcase.mk ?_ ?_ <;> intro hc <;> (try rw [List.length_nil] at hc) <;> first | (exfalso; omega) | (exact absurd rfl hc) | conv => whnf) | (refine callK_of (bare (g := g)) ?_; rintro _ ⟨b, rfl⟩; conv => whnf) | (refine bcase_intro ?_ ?_ <;> intro hc <;> conv => whnf))
  all_goals exact ⟨_, rfl⟩

theorem pathOk {l : List AV} {nn : Bool} (hl : l.length < 2^63) (h : ∀ x ∈ l, Like Tryz.prog 43 x) : PureP (findFn tab) 199 [.sl nn l] (fun v => ∃ b, v = .bool b) := by
  refine pureP_of rfl rfl ?_
  (conv => whnf); repeat' (first | ((with_reducible first | apply kN | apply kW | apply kX | apply kG | apply kQ); (· exact sd); conv => whnf) | (refine pcase.mk ?_ ?_ <;> intro hc <;> (try rw [List.length_nil] at hc) <;> first | (exfalso; omega) | (exact absurd rfl hc) | conv => whnf)  | (refine bcase_intro ?_ ?_ <;> intro hc <;> conv => whnf))
  all_goals first | exact ⟨_, rfl⟩ | skip
  refine loop_inv (fun m env s' => ∃ i : Nat, m = l.length - i ∧ env = [(0, .sl nn l), (3, .int .i64 i)] ∧ s' = ⟨[], 0⟩) ?_ _ _ _ ⟨0, rfl, rfl, rfl⟩
  rintro _ _ _ ⟨i, rfl, rfl, rfl⟩
  refine ⟨rfl, ?_⟩
  obtain ⟨gx, hgx⟩ := like_at h i
  (conv => whnf); repeat' (first | ((with_reducible first | apply kN | apply kW | apply kX | apply kG | apply kQ); (· exact sd); conv => whnf) | (refine pcase.mk ?_ ?_ <;> intro hc <;> (try rw [List.length_nil] at hc) <;> first | (exfalso; omega) | (exact absurd rfl hc) | conv => whnf) | (apply nthK_intro; (· exact (hgx (by omega)).1); conv => whnf) | (refine callK_of (validLeaf (g := gx) (by omega)) ?_; rintro _ ⟨b, rfl⟩; conv => whnf) | (refine bcase_intro ?_ ?_ <;> intro hc <;> conv => whnf))
  all_goals first | exact ⟨_, rfl⟩ | exact again.mk ⟨_, by omega, i + 1, rfl, rfl, rfl⟩

end AI
end Go.Proofs.YtbkibamoigmboaaGreatDoor
set_option linter.unusedVariables false
namespace Go.Proofs.YtbkibamoigmboaaGreatDoor
namespace AI

theorem list0 {l : List AV} {nn : Bool} (hl : l.length < 2^63) : PureP (findFn tab) 200 [.sl nn l, .int .i64 0] (fun v => ∃ b, v = .bool b) := by
  refine pureP_of rfl rfl ?_
  (conv => whnf); repeat' (first | ((with_reducible first | apply kN | apply kW | apply kX | apply kG | apply kQ); (· exact sd); conv => whnf) | (refine pcase.mk ?_ ?_ <;> intro hc <;> (try rw [List.length_nil] at hc) <;> first | (exfalso; omega) | (exact absurd rfl hc) | conv => whnf)  | (refine bcase_intro ?_ ?_ <;> intro hc <;> conv => whnf))
  all_goals exact ⟨_, rfl⟩

theorem listS {n : Nat} (ih : ∀ {g : GV}, g.ok → PureP (findFn tab) 134 [g.av, .int .i64 n] (fun v => ∃ b, v = .bool b)) (hn : n < 2^60) {l : List AV} {nn : Bool} (hl : l.length < 2^63) (h : ∀ x ∈ l, Like Tryz.prog 43 x) :
    PureP (findFn tab) 200 [.sl nn l, .int .i64 (n + 1 : Nat)] (fun v => ∃ b, v = .bool b) := by
  refine pureP_of rfl rfl ?_
  (conv => whnf); repeat' (first | ((with_reducible first | apply kN | apply kW | apply kX | apply kG | apply kQ); (· exact sd); conv => whnf) | (refine pcase.mk ?_ ?_ <;> intro hc <;> (try rw [List.length_nil] at hc) <;> first | (exfalso; omega) | (exact absurd rfl hc) | conv => whnf)  | (refine bcase_intro ?_ ?_ <;> intro hc <;> conv => whnf))
  all_goals first | exact ⟨_, rfl⟩ | skip
  refine loop_inv (fun m env s' => ∃ i : Nat, m = l.length - i ∧ env = [(0, .sl nn l), (1, .int .i64 (n + 1 : Nat)), (5, .int .i64 i)] ∧ s' = ⟨[], 0⟩) ?_ _ _ _ ⟨0, rfl, rfl, rfl⟩
  rintro _ _ _ ⟨i, rfl, rfl, rfl⟩
  refine ⟨rfl, ?_⟩
  obtain ⟨gx, hgx⟩ := like_at h i
  have ih' : ∀ {g : GV}, g.ok → PureP (findFn tab) 134 [g.av, .int .i64 (((n + 1 : Nat) : Int) - 1)] (fun v => ∃ b, v = .bool b) := by
    rw [show ((n + 1 : Nat) : Int) - 1 = (n : Int) by omega]; exact ih
  (conv => whnf); repeat' (first | ((with_reducible first | apply kN | apply kW | apply kX | apply kG | apply kQ); (· exact sd); conv => whnf) | (refine pcase.mk ?_ ?_ <;> intro hc <;> (try rw [List.length_nil] at hc) <;> first | (exfalso; omega) | (exact absurd rfl hc) | conv => whnf) | (apply nthK_intro; (· exact (hgx (by omega)).1); conv => whnf) | (refine callK_of (ih' (g := gx) (hgx (by omega)).2.2) ?_; rintro _ ⟨b, rfl⟩; conv => whnf) | (refine bcase_intro ?_ ?_ <;> intro hc <;> conv => whnf))
  all_goals first | exact ⟨_, rfl⟩ | exact again.mk ⟨_, by omega, i + 1, rfl, rfl, rfl⟩

theorem validV {n : Int} {g : GV} (hg : g.ok) (hlist : PureP (findFn tab) 200 [.sl g.nn g.l, .int .i64 n] (fun v => ∃ b, v = .bool b)) :
    PureP (findFn tab) 134 [g.av, .int .i64 n] (fun v => ∃ b, v = .bool b) := by
  obtain ⟨g1, g2, g3, g4, g5, g6, g7⟩ := hg
  unfold Ln at g4 g5
  refine pureP_of rfl rfl ?_
  (conv => whnf); repeat' (first | ((with_reducible first | apply kN | apply kW | apply kX | apply kG | apply kQ); (· exact sd); conv => whnf) | (refine pcase.mk ?_ ?_ <;> intro hc <;> (try rw [List.length_nil] at hc) <;> first | (exfalso; omega) | (exact absurd rfl hc) | conv => whnf) | (refine callK_of (bare (g := g)) ?_; rintro _ ⟨b, rfl⟩; conv => whnf) | (refine callK_of (inRB (n := g.n)) ?_; rintro _ ⟨b, rfl⟩; conv => whnf) | (refine callK_of (fvalid (n := g.n) (d := g.d)) ?_; rintro _ ⟨b, rfl, _⟩; conv => whnf) | (refine callK_of (strOk g4) ?_; rintro _ ⟨b, rfl⟩; conv => whnf) | (refine callK_of (pathOk g5 g7) ?_; rintro _ ⟨b, rfl⟩; conv => whnf) | (refine callK_of hlist ?_; rintro _ ⟨b, rfl⟩; conv => whnf) | (refine bcase_intro ?_ ?_ <;> intro hc <;> conv => whnf))
  all_goals exact ⟨_, rfl⟩

theorem valid {n : Nat} (hn : n < 2^60) : ∀ {g : GV}, g.ok → PureP (findFn tab) 134 [g.av, .int .i64 n] (fun v => ∃ b, v = .bool b) := by
  induction n with
  | zero => intro g hg; exact validV hg (list0 hg.2.2.2.2.1)
  | succ n ih => intro g hg; exact validV hg (listS (ih (by omega)) (by omega) hg.2.2.2.2.1 hg.2.2.2.2.2.2)

theorem Valid {g : GV} (hg : g.ok) : PureP (findFn tab) 89 [g.av] (fun v => ∃ b, v = .bool b) := by
  refine pureP_of rfl rfl ?_
  (conv => whnf); repeat' (first | ((with_reducible first | apply kN | apply kW | apply kX | apply kG | apply kQ); (· exact sd); conv => whnf) | (refine pcase.mk ?_ ?_ <;> intro hc <;> (try rw [List.length_nil] at hc) <;> first | (exfalso; omega) | (exact absurd rfl hc) | conv => whnf) | (refine callK_of (valid (n := 8) (by omega) hg) ?_; rintro _ ⟨b, rfl⟩; conv => whnf) | (refine bcase_intro ?_ ?_ <;> intro hc <;> conv => whnf))
  all_goals exact ⟨_, rfl⟩

end AI
end Go.Proofs.YtbkibamoigmboaaGreatDoor
set_option linter.unusedVariables false
namespace Go.Proofs.YtbkibamoigmboaaGreatDoor
namespace AI

def bareP (v : GV) (n d s l : Bool) : Prop := (n = true ∨ v.n = 0) ∧ (d = true ∨ v.d = 0) ∧ (s = true ∨ v.s = []) ∧ (l = true ∨ v.l.length = 0)
instance (v : GV) (n d s l : Bool) : Decidable (bareP v n d s l) := by unfold bareP; infer_instance

theorem bareE {v : GV} {n d s l : Bool} (hl : v.l.length < 2^63) : PureP (findFn tab) 196 [v.av, .bool n, .bool d, .bool s, .bool l] (· = .bool (decide (bareP v n d s l))) := by
  cases n <;> cases d <;> cases s <;> cases l
  all_goals
    refine pureP_of rfl rfl ?_
    (conv => whnf); repeat' (first | ((with_reducible first | apply kN | apply kW | apply kX | apply kG | apply kQ); (· exact sd); conv => whnf) | (refine pcase.mk ?_ ?_ <;> intro hc <;> (try rw [List.length_nil] at hc) <;> first | (exfalso; omega) | (exact absurd rfl hc) | conv => whnf)  | (refine bcase_intro ?_ ?_ <;> intro hc <;> conv => whnf))
  all_goals first
    | (refine bool_t ?_; unfold bareP; refine ⟨?_, ?_, ?_, ?_⟩ <;> first | (left; rfl) | (right; first | assumption | omega))
    | (refine bool_f ?_; unfold bareP; rintro ⟨h1, h2, h3, h4⟩; simp only [Bool.false_eq_true, false_or, true_or] at h1 h2 h3 h4; first | contradiction | omega)

theorem strE {s : List UInt8} (hl : s.length < 2^63) : PureP (findFn tab) 198 [.str s] (· = .bool (decide (okS s))) := by
  refine pureP_of rfl rfl ?_
  (conv => whnf); repeat' (first | ((with_reducible first | apply kN | apply kW | apply kX | apply kG | apply kQ); (· exact sd); conv => whnf) | (refine pcase.mk ?_ ?_ <;> intro hc <;> (try rw [List.length_nil] at hc) <;> first | (exfalso; omega) | (exact absurd rfl hc) | conv => whnf)  | (refine bcase_intro ?_ ?_ <;> intro hc <;> conv => whnf))
  refine loop_inv (fun m env s' => ∃ i : Nat, m = s.length - i ∧ env = [(0, .str s), (3, .int .i64 i)] ∧ s' = ⟨[], 0⟩ ∧ ∀ c ∈ s.take i, badB c = false) ?_ _ _ _ ⟨0, rfl, rfl, rfl, by simp⟩
  rintro _ _ _ ⟨i, rfl, rfl, rfl, hx⟩
  refine ⟨rfl, ?_⟩
  (conv => whnf); repeat' (first | ((with_reducible first | apply kN | apply kW | apply kX | apply kG | apply kQ); (· exact sd); conv => whnf) | (refine pcase.mk ?_ ?_ <;> intro hc <;> (try rw [List.length_nil] at hc) <;> first | (exfalso; omega) | (exact absurd rfl hc) | conv => whnf)  | (refine bcase_intro ?_ ?_ <;> intro hc <;> conv => whnf))
  all_goals first
    | exact again.mk ⟨_, by omega, i + 1, rfl, rfl, rfl, all_take_succ (by omega) hx (by unfold badB; simp; omega)⟩
    | (refine bool_f fun h => ?_; have := h.2 s[i] (List.getElem_mem (by omega)); unfold badB at this; simp at this; omega)
    | (rw [List.take_of_length_le (by omega)] at hx; exact bool_t ⟨by omega, hx⟩)
    | (refine bool_f fun h => ?_; have := h.1; omega)

end AI
end Go.Proofs.YtbkibamoigmboaaGreatDoor
