/- The budget of a graph; names and types; entries. -/
import Derived.Test.YtdlkcancogpafaaGreatDoorMT
set_option linter.unusedVariables false
set_option maxRecDepth 4000
namespace Go.Proofs.YtdlkcancogpafaaGreatDoor
namespace AI

/-- small data of a value -/
def Lite : Nat → AV → Prop
  | 0, _ => False
  | d + 1, a => ∃ g : GV, a = g.av ∧ g.ok ∧ g.s.length ≤ 101000 ∧ g.l.length ≤ 2000 ∧ ∀ x ∈ g.l, Lite d x

theorem wei : ∀ (d : Nat), d ≤ 12 → ∀ {g : GV} (hg : g.ok) {left : Int} (h1 : -184467440737095530 ≤ left) (h2 : left ≤ 2000),
    PureP (findFn tab) 57 [g.av, .int .i64 left, .int .i64 d] (fun v => ∃ r, v = .int .i64 r ∧ -368934881474191048 ≤ r ∧ r ≤ 1999 ∧ (0 ≤ r → r + 1 ≤ left ∧ Lite d g.av)) := by
  intro d
  induction d with
  | zero =>
    intro _ g hg left h1 h2
    obtain ⟨g1, g2, g3, g4, g5, g6, g7⟩ := hg
    unfold Ln at g4 g5
    refine pureP_of rfl rfl ?_
    (conv => whnf); repeat' (first | ((with_reducible first | apply kN | apply kW | apply kX | apply kG | apply kQ); (· exact sd); conv => whnf) | (refine pcase.mk ?_ ?_ <;> intro hc <;> (try rw [List.length_nil] at hc) <;> first | (exfalso; omega) | (exact absurd rfl hc) | conv => whnf) | (refine wrapQ (by omega) ?_; conv => whnf) | (refine bcase_intro ?_ ?_ <;> intro hc <;> conv => whnf))
    all_goals exact ⟨_, rfl, by omega, by omega, fun h => absurd h (by omega)⟩
  | succ d ih =>
    intro hd g hg left h1 h2
    obtain ⟨g1, g2, g3, g4, g5, g6, g7⟩ := hg
    unfold Ln at g4 g5
    refine pureP_of rfl rfl ?_
    (conv => whnf); repeat' (first | ((with_reducible first | apply kN | apply kW | apply kX | apply kG | apply kQ); (· exact sd); conv => whnf) | (refine pcase.mk ?_ ?_ <;> intro hc <;> (try rw [List.length_nil] at hc) <;> first | (exfalso; omega) | (exact absurd rfl hc) | conv => whnf) | (refine wrapQ (by omega) ?_; conv => whnf) | (refine bcase_intro ?_ ?_ <;> intro hc <;> conv => whnf))
    have hw : ∀ {g : GV} (hg : g.ok) {left : Int} (h1 : -184467440737095530 ≤ left) (h2 : left ≤ 2000),
        PureP (findFn tab) 57 [g.av, .int .i64 left, .int .i64 (((d + 1 : Nat) : Int) - 1)] (fun v => ∃ r, v = .int .i64 r ∧ -368934881474191048 ≤ r ∧ r ≤ 1999 ∧ (0 ≤ r → r + 1 ≤ left ∧ Lite d g.av)) := by
      rw [show ((d + 1 : Nat) : Int) - 1 = (d : Int) by omega]
      exact ih (by omega)
    refine loop_inv (fun m env s => ∃ (i : Nat) (cur : Int), m = g.l.length - i ∧ env = [(1, .int .i64 cur), (2, .int .i64 (d + 1 : Nat)), (3, .ref 0 0 0 0), (7, .int .i64 i)] ∧ s = ⟨[.arr 0 5 true true [g.av]], 1⟩ ∧
      -368934881474191048 ≤ cur ∧ cur ≤ 1999 ∧ (0 ≤ cur → cur + i + g.s.length / 50 + 1 ≤ left ∧ ∀ x ∈ g.l.take i, Lite d x)) ?_ _ _ _ ⟨0, _, rfl, rfl, rfl, by omega, by omega, fun h => ⟨by omega, by simp⟩⟩
    rintro _ _ _ ⟨i, cur, rfl, rfl, rfl, b1, b2, hx⟩
    refine ⟨rfl, ?_⟩
    obtain ⟨gx, hgx⟩ := like_at g7 i
    (conv => whnf); repeat' (first | ((with_reducible first | apply kN | apply kW | apply kX | apply kG | apply kQ); (· exact sd); conv => whnf) | (refine pcase.mk ?_ ?_ <;> intro hc <;> (try rw [List.length_nil] at hc) <;> first | (exfalso; omega) | (exact absurd rfl hc) | conv => whnf) | (apply nthK_intro; (· exact (hgx (by omega)).1); conv => whnf) | (refine bcase_intro ?_ ?_ <;> intro hc <;> conv => whnf))
    · obtain ⟨_, ge, gl⟩ := hgx (by omega)
      refine callK_of (hw gl (by omega) (by omega)) ?_
      rintro _ ⟨r, rfl, r1, r2, r3⟩
      (conv => whnf); repeat' (first | ((with_reducible first | apply kN | apply kW | apply kX | apply kG | apply kQ); (· exact sd); conv => whnf) | (refine pcase.mk ?_ ?_ <;> intro hc <;> (try rw [List.length_nil] at hc) <;> first | (exfalso; omega) | (exact absurd rfl hc) | conv => whnf)  | (refine bcase_intro ?_ ?_ <;> intro hc <;> conv => whnf))
      exact again.mk ⟨_, by omega, i + 1, r, rfl, rfl, rfl, by omega, by omega, fun h => ⟨by have := hx (by omega); have := r3 h; omega, all_take_succ (by omega) (hx (by omega)).2 (ge ▸ (r3 h).2)⟩⟩
    · exact ⟨_, rfl, by omega, by omega, fun h => absurd h (by omega)⟩
    · refine ⟨_, rfl, by omega, by omega, fun h => ?_⟩
      obtain ⟨x1, x2⟩ := hx h
      rw [take_all hc] at x2
      exact ⟨by omega, g, rfl, ⟨g1, g2, g3, g4, g5, g6, g7⟩, by omega, by omega, x2⟩

end AI
end Go.Proofs.YtdlkcancogpafaaGreatDoor
