/- Small graphs, few strings. -/
import Derived.Test.YtkknpgebiihkfaaGreatDoorME
set_option linter.unusedVariables false
set_option maxRecDepth 4000
namespace Go.Proofs.YtkknpgebiihkfaaGreatDoor
namespace AI

theorem weigh {ps : List GP} {nn : Bool} (hl : Ln ps) (hp : ∀ p ∈ ps, p.ok) {left : Int} (h1 : -9223372036854775808 ≤ left) (h2 : left ≤ 2000) :
    PureP (findFn tab) 25 [.sl nn (vs GP.av ps), .int .i64 left] (fun v => ∃ r, v = .int .i64 r ∧ -9223372036854775808 ≤ r ∧ r ≤ 2000 ∧ (0 ≤ r → r + ps.length ≤ left ∧ ∀ p ∈ ps, p.key.length ≤ 101000 ∧ Lite 12 p.v.av)) := by
  unfold Ln at hl
  refine pureP_of rfl rfl ?_
  (conv => whnf); repeat' (first | ((with_reducible first | apply kN | apply kW | apply kX | apply kG | apply kQ); (· exact sd); conv => whnf) | (refine pcase.mk ?_ ?_ <;> intro hc <;> (try rw [List.length_nil] at hc) <;> first | (exfalso; omega) | (exact absurd rfl hc) | conv => whnf)  | (refine bcase_intro ?_ ?_ <;> intro hc <;> conv => whnf))
  refine loop_inv (fun m env s => ∃ (i : Nat) (cur : Int), m = ps.length - i ∧ env = [(0, .sl nn (vs GP.av ps)), (1, .int .i64 cur), (5, .int .i64 i)] ∧ s = ⟨[], 0⟩ ∧
    -9223372036854775808 ≤ cur ∧ cur ≤ 2000 ∧ (0 ≤ cur → cur + i ≤ left ∧ ∀ p ∈ ps.take i, p.key.length ≤ 101000 ∧ Lite 12 p.v.av)) ?_ _ _ _ ⟨0, _, rfl, rfl, rfl, by omega, by omega, fun h => ⟨by omega, by simp⟩⟩
  rintro _ _ _ ⟨i, cur, rfl, rfl, rfl, b1, b2, hx⟩
  refine ⟨rfl, ?_⟩
  have hat : ∀ (h : i < ps.length), (ps[i]).ok := fun h => hp _ (List.getElem_mem _)
  have hk : ∀ (h : i < ps.length), (ps[i]).key.length < 2^63 := fun h => (hat h).1
  (conv => whnf); repeat' (first | ((with_reducible first | apply kN | apply kW | apply kX | apply kG | apply kQ); (· exact sd); conv => whnf) | (refine pcase.mk ?_ ?_ <;> intro hc <;> (try rw [List.length_nil] at hc) <;> first | (exfalso; omega) | (exact absurd rfl hc) | conv => whnf) | (refine wrapQ (hk (by omega)) ?_; conv => whnf) | (have hwr := hk (by omega); apply wrapK_intro; (· exact wrap_i64 (by omega) (by omega)); clear hwr; conv => whnf) | (refine bcase_intro ?_ ?_ <;> intro hc <;> conv => whnf))
  · refine callK_of (wei 12 (by omega) (hat (by omega)).2 (by have := hk (by omega); omega) (by omega)) ?_
    rintro _ ⟨r, rfl, r1, r2, r3⟩
    (conv => whnf); repeat' (first | ((with_reducible first | apply kN | apply kW | apply kX | apply kG | apply kQ); (· exact sd); conv => whnf) | (refine pcase.mk ?_ ?_ <;> intro hc <;> (try rw [List.length_nil] at hc) <;> first | (exfalso; omega) | (exact absurd rfl hc) | conv => whnf)  | (refine bcase_intro ?_ ?_ <;> intro hc <;> conv => whnf))
    exact again.mk ⟨_, by omega, i + 1, r, rfl, rfl, rfl, by omega, by omega, fun h => ⟨by have := hx (by omega); have := r3 h; omega, all_take_succ (by omega) (hx (by omega)).2 ⟨by have := r3 h; omega, (r3 h).2⟩⟩⟩
  · exact ⟨_, rfl, by omega, by omega, fun h => absurd h (by omega)⟩
  · refine ⟨_, rfl, by omega, by omega, fun h => ?_⟩
    obtain ⟨x1, x2⟩ := hx h
    rw [take_all hc] at x2
    exact ⟨by omega, x2⟩

def SmP (ps : List GP) : Prop := ps.length ≤ 2000 ∧ ∀ p ∈ ps, p.key.length ≤ 101000 ∧ Lite 12 p.v.av
def SmN (n : GN) : Prop := n.labels.length ≤ 2000 ∧ (∀ s ∈ n.labels, s.length ≤ 101000) ∧ SmP n.props
def SmE (e : GE) : Prop := e.ty.length ≤ 101000 ∧ SmP e.props
/-- a small graph -/
def SmG (g : GG) (n e : Int) : Prop := g.nodes.length ≤ n ∧ g.edges.length ≤ e ∧ (∀ n ∈ g.nodes, SmN n) ∧ ∀ e ∈ g.edges, SmE e

theorem small {g : GG} (hg : g.ok) {n e : Int} : PureP (findFn tab) 11 [g.av, .int .i64 n, .int .i64 e] (fun v => ∃ b, v = .bool b ∧ (b = true → SmG g n e)) := by
  obtain ⟨g1, g2, g3, g4, g5, g6, g7, g8⟩ := hg
  unfold Ln at g1 g4
  refine pureP_of rfl rfl ?_
  (conv => whnf); repeat' (first | ((with_reducible first | apply kN | apply kW | apply kX | apply kG | apply kQ); (· exact sd); conv => whnf) | (refine pcase.mk ?_ ?_ <;> intro hc <;> (try rw [List.length_nil] at hc) <;> first | (exfalso; omega) | (exact absurd rfl hc) | conv => whnf)  | (refine bcase_intro ?_ ?_ <;> intro hc <;> conv => whnf))
  · exact ⟨_, rfl, fun h => by cases h⟩
  · exact ⟨_, rfl, fun h => by cases h⟩
  refine loop_inv (fun m env s => ∃ (i c : Nat) (left : Int), m = g.nodes.length - i ∧ env = [(3, .ref 0 0 0 0), (7, .int .i64 left), (8, .int .i64 i)] ∧ s = ⟨[.arr 0 4 true true [g.av]], c⟩ ∧ -9223372036854775808 ≤ left ∧ left ≤ 2000 ∧ (0 ≤ left → ∀ n ∈ g.nodes.take i, SmN n)) ?_ _ _ _ ⟨0, 1, 2000, rfl, rfl, rfl, by omega, by omega, fun _ => by simp⟩
  rintro _ _ _ ⟨i, c, left, rfl, rfl, rfl, b1, b2, hx⟩
  refine ⟨rfl, ?_⟩
  have hat : ∀ h : i < g.nodes.length, (g.nodes[i]).ok := fun h => g3 _ (List.getElem_mem _)
  have hk : ∀ h : i < g.nodes.length, (g.nodes[i]).labels.length < 2^63 := fun h => (hat h).2.1
  (conv => whnf); repeat' (first | ((with_reducible first | apply kN | apply kW | apply kX | apply kG | apply kQ); (· exact sd); conv => whnf) | (refine pcase.mk ?_ ?_ <;> intro hc <;> (try rw [List.length_nil] at hc) <;> first | (exfalso; omega) | (exact absurd rfl hc) | conv => whnf) | (have hwr := hk (by omega); apply wrapK_intro; (· exact wrap_i64 (by omega) (by omega)); clear hwr; conv => whnf) | (refine bcase_intro ?_ ?_ <;> intro hc <;> conv => whnf))
  rotate_left
  · have hN : 0 ≤ left → ∀ n ∈ g.nodes, SmN n := fun h => absurd h (by omega)
    refine loop_inv (fun m env s => ∃ (i c : Nat) (left : Int), m = g.edges.length - i ∧ env = [(3, .ref 0 0 0 0), (7, .int .i64 left), (11, .int .i64 i)] ∧ s = ⟨[.arr 0 4 true true [g.av]], c⟩ ∧ -9223372036854775808 ≤ left ∧ left ≤ 2000 ∧ (0 ≤ left → (∀ n ∈ g.nodes, SmN n) ∧ ∀ n ∈ g.edges.take i, SmE n)) ?_ _ _ _ ⟨0, _, left, rfl, rfl, rfl, by omega, by omega, fun h => ⟨hN h, by simp⟩⟩
    clear hN hx hat hk b1 b2 hc
    rintro _ _ _ ⟨i, c, left, rfl, rfl, rfl, b1, b2, hx⟩
    refine ⟨rfl, ?_⟩
    have hat : ∀ h : i < g.edges.length, (g.edges[i]).ok := fun h => g6 _ (List.getElem_mem _)
    have hk : ∀ h : i < g.edges.length, (g.edges[i]).ty.length < 2^63 := fun h => (hat h).2.2.2.1
    (conv => whnf); repeat' (first | ((with_reducible first | apply kN | apply kW | apply kX | apply kG | apply kQ); (· exact sd); conv => whnf) | (refine pcase.mk ?_ ?_ <;> intro hc <;> (try rw [List.length_nil] at hc) <;> first | (exfalso; omega) | (exact absurd rfl hc) | conv => whnf) | (refine wrapQ (hk (by omega)) ?_; conv => whnf) | (have hwr := hk (by omega); apply wrapK_intro; (· exact wrap_i64 (by omega) (by omega)); clear hwr; conv => whnf) | (refine bcase_intro ?_ ?_ <;> intro hc <;> conv => whnf))
    · refine callK_of (weigh (hat (by omega)).2.2.2.2.1 (hat (by omega)).2.2.2.2.2.2 (by have := hk (by omega); omega) (by omega)) ?_
      rintro _ ⟨r, rfl, r1, r2, r3⟩
      (conv => whnf); repeat' (first | ((with_reducible first | apply kN | apply kW | apply kX | apply kG | apply kQ); (· exact sd); conv => whnf) | (refine pcase.mk ?_ ?_ <;> intro hc <;> (try rw [List.length_nil] at hc) <;> first | (exfalso; omega) | (exact absurd rfl hc) | conv => whnf)  | (refine bcase_intro ?_ ?_ <;> intro hc <;> conv => whnf))
      have hk1 := hk (by omega)
      exact again.mk ⟨_, by omega, i + 1, _, r, rfl, rfl, rfl, by omega, by omega, fun h => ⟨(hx (by omega)).1, all_take_succ (by omega) (hx (by omega)).2 ⟨by have := r3 h; omega, by have := r3 h; omega, (r3 h).2⟩⟩⟩
    all_goals first
      | exact ⟨_, rfl, fun h => absurd h Bool.false_ne_true⟩
      | (refine ⟨_, rfl, fun h => ?_⟩
         rename_i hc1
         obtain ⟨x1, x2⟩ := hx hc
         rw [take_all hc1] at x2
         exact ⟨by omega, by omega, x1, x2⟩)
  · have hN : 0 ≤ left → ∀ n ∈ g.nodes, SmN n := by rw [take_all hc] at hx; exact hx
    refine loop_inv (fun m env s => ∃ (i c : Nat) (left : Int), m = g.edges.length - i ∧ env = [(3, .ref 0 0 0 0), (7, .int .i64 left), (11, .int .i64 i)] ∧ s = ⟨[.arr 0 4 true true [g.av]], c⟩ ∧ -9223372036854775808 ≤ left ∧ left ≤ 2000 ∧ (0 ≤ left → (∀ n ∈ g.nodes, SmN n) ∧ ∀ n ∈ g.edges.take i, SmE n)) ?_ _ _ _ ⟨0, _, left, rfl, rfl, rfl, by omega, by omega, fun h => ⟨hN h, by simp⟩⟩
    clear hN hx hat hk b1 b2 hc
    rintro _ _ _ ⟨i, c, left, rfl, rfl, rfl, b1, b2, hx⟩
    refine ⟨rfl, ?_⟩
    have hat : ∀ h : i < g.edges.length, (g.edges[i]).ok := fun h => g6 _ (List.getElem_mem _)
    have hk : ∀ h : i < g.edges.length, (g.edges[i]).ty.length < 2^63 := fun h => (hat h).2.2.2.1
    (conv => whnf); repeat' (first | ((with_reducible first | apply kN | apply kW | apply kX | apply kG | apply kQ); (· exact sd); conv => whnf) | (refine pcase.mk ?_ ?_ <;> intro hc <;> (try rw [List.length_nil] at hc) <;> first | (exfalso; omega) | (exact absurd rfl hc) | conv => whnf) | (refine wrapQ (hk (by omega)) ?_; conv => whnf) | (have hwr := hk (by omega); apply wrapK_intro; (· exact wrap_i64 (by omega) (by omega)); clear hwr; conv => whnf) | (refine bcase_intro ?_ ?_ <;> intro hc <;> conv => whnf))
    · refine callK_of (weigh (hat (by omega)).2.2.2.2.1 (hat (by omega)).2.2.2.2.2.2 (by have := hk (by omega); omega) (by omega)) ?_
      rintro _ ⟨r, rfl, r1, r2, r3⟩
      (conv => whnf); repeat' (first | ((with_reducible first | apply kN | apply kW | apply kX | apply kG | apply kQ); (· exact sd); conv => whnf) | (refine pcase.mk ?_ ?_ <;> intro hc <;> (try rw [List.length_nil] at hc) <;> first | (exfalso; omega) | (exact absurd rfl hc) | conv => whnf)  | (refine bcase_intro ?_ ?_ <;> intro hc <;> conv => whnf))
      have hk1 := hk (by omega)
      exact again.mk ⟨_, by omega, i + 1, _, r, rfl, rfl, rfl, by omega, by omega, fun h => ⟨(hx (by omega)).1, all_take_succ (by omega) (hx (by omega)).2 ⟨by have := r3 h; omega, by have := r3 h; omega, (r3 h).2⟩⟩⟩
    all_goals first
      | exact ⟨_, rfl, fun h => absurd h Bool.false_ne_true⟩
      | (refine ⟨_, rfl, fun h => ?_⟩
         rename_i hc1
         obtain ⟨x1, x2⟩ := hx hc
         rw [take_all hc1] at x2
         exact ⟨by omega, by omega, x1, x2⟩)
  refine callK_of (weigh (hat (by omega)).2.2.2.2.1 (hat (by omega)).2.2.2.2.2.2 (by have := hk (by omega); omega) (by omega)) ?_
  rintro _ ⟨r, rfl, r1, r2, r3⟩
  (conv => whnf); repeat' (first | ((with_reducible first | apply kN | apply kW | apply kX | apply kG | apply kQ); (· exact sd); conv => whnf) | (refine pcase.mk ?_ ?_ <;> intro hc <;> (try rw [List.length_nil] at hc) <;> first | (exfalso; omega) | (exact absurd rfl hc) | conv => whnf)  | (refine bcase_intro ?_ ?_ <;> intro hc <;> conv => whnf))
  refine loop_inv (fun m env s => ∃ (j : Nat) (l2 : Int), m = (g.nodes[i]).labels.length - j ∧ env = [(3, .ref 0 0 0 0), (7, .int .i64 l2), (8, .int .i64 i), (9, .ref 1 c 0 0), (10, .int .i64 j)] ∧ s = ⟨[.arr 0 4 true true [g.av], .arr c 3 true true [(g.nodes[i]).av]], c + 1⟩ ∧ -9223372036854775808 ≤ l2 ∧ l2 ≤ 2000 ∧ (0 ≤ l2 → 0 ≤ r ∧ ∀ s ∈ (g.nodes[i]).labels.take j, s.length ≤ 101000)) ?_ _ _ _ ⟨0, r, rfl, rfl, rfl, by omega, by omega, fun h => ⟨h, by simp⟩⟩
  rintro _ _ _ ⟨j, l2, rfl, rfl, rfl, d1, d2, hy⟩
  refine ⟨rfl, ?_⟩
  have hlb : ∀ h : j < (g.nodes[i]).labels.length, ((g.nodes[i]).labels[j]).length < 2^63 := fun h => (hat (by omega)).2.2.2.1 _ (List.getElem_mem _)
  have hk1 := hk (by omega)
  (conv => whnf); repeat' (first | ((with_reducible first | apply kN | apply kW | apply kX | apply kG | apply kQ); (· exact sd); conv => whnf) | (refine pcase.mk ?_ ?_ <;> intro hc <;> (try rw [List.length_nil] at hc) <;> first | (exfalso; omega) | (exact absurd rfl hc) | conv => whnf) | (refine wrapQ (hlb (by omega)) ?_; conv => whnf) | (have hwr := hlb (by omega); apply wrapK_intro; (· exact wrap_i64 (by omega) (by omega)); clear hwr; conv => whnf) | (refine bcase_intro ?_ ?_ <;> intro hc <;> conv => whnf))
  · have := hlb (by omega)
    exact again.mk ⟨_, by omega, j + 1, _, rfl, rfl, rfl, by omega, by omega, fun h => ⟨(hy (by omega)).1, all_take_succ (by omega) (hy (by omega)).2 (by omega)⟩⟩
  · exact again.mk ⟨_, by omega, i + 1, _, l2, rfl, rfl, rfl, by omega, by omega, fun h => absurd h (by omega)⟩
  · refine again.mk ⟨_, by omega, i + 1, _, l2, rfl, rfl, rfl, by omega, by omega, fun h => ?_⟩
    obtain ⟨y1, y2⟩ := hy h
    rw [take_all hc] at y2
    have := r3 y1
    exact all_take_succ (by omega) (hx (by omega)) ⟨by omega, y2, by omega, this.2⟩

end AI
end Go.Proofs.YtkknpgebiihkfaaGreatDoor
