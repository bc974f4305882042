/- The budget of a graph; names and types; entries. The reference's order of values: a value is equal to itself. Looking for the first. -/
import Derived.Test.YtnfdpfeeenmffaaGreatDoorMT
import Derived.Test.YtnfdpfeeenmffaaGreatDoorML
set_option linter.unusedVariables false
set_option maxRecDepth 4000
namespace Go.Proofs.YtnfdpfeeenmffaaGreatDoor
namespace AI

/-- small data of a value -/
def Lite : Nat → AV → Prop
  | 0, _ => False
  | d + 1, a => ∃ g : GV, a = g.av ∧ g.ok ∧ g.s.length ≤ 101000 ∧ g.l.length ≤ 2000 ∧ ∀ x ∈ g.l, Lite d x

theorem wei : ∀ (d : Nat), d ≤ 12 → ∀ {g : GV} (hg : g.ok) {left : Int} (h1 : -184467440737095530 ≤ left) (h2 : left ≤ 2000),
    PureP (findFn tab) 12 [g.av, .int .i64 left, .int .i64 d] (fun v => ∃ r, v = .int .i64 r ∧ -368934881474191048 ≤ r ∧ r ≤ 1999 ∧ (0 ≤ r → r + 1 ≤ left ∧ Lite d g.av)) := by
  intro d
  induction d with
  | zero =>
    intro _ g hg left h1 h2
    obtain ⟨g1, g2, g3, g4, g5, g6, g7⟩ := hg
    unfold Ln at g4 g5
    refine pureP_of rfl rfl ?_
    (conv => whnf); repeat' (first | ((with_reducible first | apply kN | apply kW | apply kX | apply kG | apply kQ); (· exact sd); conv => whnf) | (refine pcase.mk ?_ ?_ <;> intro hc <;> (try rw [List.length_nil] at hc) <;> first | (exfalso; omega) | (exact absurd rfl hc) | conv => whnf) | (refine wrapQ (by omega) ?_; conv => whnf) | (refine bcase_intro ?_ ?_ <;> intro hc <;> conv => whnf))
    all_goals exact ⟨_, rfl, by omega, by omega, fun h => absurd h (by omega)⟩
  | succ d ih =>
    intro hd g hg left h1 h2
    obtain ⟨g1, g2, g3, g4, g5, g6, g7⟩ := hg
    unfold Ln at g4 g5
    refine pureP_of rfl rfl ?_
    (conv => whnf); repeat' (first | ((with_reducible first | apply kN | apply kW | apply kX | apply kG | apply kQ); (· exact sd); conv => whnf) | (refine pcase.mk ?_ ?_ <;> intro hc <;> (try rw [List.length_nil] at hc) <;> first | (exfalso; omega) | (exact absurd rfl hc) | conv => whnf) | (refine wrapQ (by omega) ?_; conv => whnf) | (refine bcase_intro ?_ ?_ <;> intro hc <;> conv => whnf))
    have hw : ∀ {g : GV} (hg : g.ok) {left : Int} (h1 : -184467440737095530 ≤ left) (h2 : left ≤ 2000),
        PureP (findFn tab) 12 [g.av, .int .i64 left, .int .i64 (((d + 1 : Nat) : Int) - 1)] (fun v => ∃ r, v = .int .i64 r ∧ -368934881474191048 ≤ r ∧ r ≤ 1999 ∧ (0 ≤ r → r + 1 ≤ left ∧ Lite d g.av)) := by
      rw [show ((d + 1 : Nat) : Int) - 1 = (d : Int) by omega]
      exact ih (by omega)
    refine loop_inv (fun m env s => ∃ (i : Nat) (cur : Int), m = g.l.length - i ∧ env = [(1, .int .i64 cur), (2, .int .i64 (d + 1 : Nat)), (3, .ref 0 0 0 0), (7, .int .i64 i)] ∧ s = ⟨[.arr 0 5 true true [g.av]], 1⟩ ∧
      -368934881474191048 ≤ cur ∧ cur ≤ 1999 ∧ (0 ≤ cur → cur + i + g.s.length / 50 + 1 ≤ left ∧ ∀ x ∈ g.l.take i, Lite d x)) ?_ _ _ _ ⟨0, _, rfl, rfl, rfl, by omega, by omega, fun h => ⟨by omega, by simp⟩⟩
    rintro _ _ _ ⟨i, cur, rfl, rfl, rfl, b1, b2, hx⟩
    refine ⟨rfl, ?_⟩
    obtain ⟨gx, hgx⟩ := like_at g7 i
    (conv => whnf); repeat' (first | ((with_reducible first | apply kN | apply kW | apply kX | apply kG | apply kQ); (· exact sd); conv => whnf) | (refine pcase.mk ?_ ?_ <;> intro hc <;> (try rw [List.length_nil] at hc) <;> first | (exfalso; omega) | (exact absurd rfl hc) | conv => whnf) | (apply nthK_intro; (· exact (hgx (by omega)).1); conv => whnf) | (refine bcase_intro ?_ ?_ <;> intro hc <;> conv => whnf))
    · obtain ⟨_, ge, gl⟩ := hgx (by omega)
      refine callK_of (hw gl (by omega) (by omega)) ?_
      rintro _ ⟨r, rfl, r1, r2, r3⟩
      (conv => whnf); repeat' (first | ((with_reducible first | apply kN | apply kW | apply kX | apply kG | apply kQ); (· exact sd); conv => whnf) | (refine pcase.mk ?_ ?_ <;> intro hc <;> (try rw [List.length_nil] at hc) <;> first | (exfalso; omega) | (exact absurd rfl hc) | conv => whnf)  | (refine bcase_intro ?_ ?_ <;> intro hc <;> conv => whnf))
      exact again.mk ⟨_, by omega, i + 1, r, rfl, rfl, rfl, by omega, by omega, fun h => ⟨by have := hx (by omega); have := r3 h; omega, all_take_succ (by omega) (hx (by omega)).2 (ge ▸ (r3 h).2)⟩⟩
    · exact ⟨_, rfl, by omega, by omega, fun h => absurd h (by omega)⟩
    · refine ⟨_, rfl, by omega, by omega, fun h => ?_⟩
      obtain ⟨x1, x2⟩ := hx h
      rw [take_all hc] at x2
      exact ⟨by omega, g, rfl, ⟨g1, g2, g3, g4, g5, g6, g7⟩, by omega, by omega, x2⟩

theorem weigh {ps : List GP} {nn : Bool} (hl : Ln ps) (hp : ∀ p ∈ ps, p.ok) {left : Int} (h1 : -9223372036854775808 ≤ left) (h2 : left ≤ 2000) :
    PureP (findFn tab) 23 [.sl nn (vs GP.av ps), .int .i64 left] (fun v => ∃ r, v = .int .i64 r ∧ -9223372036854775808 ≤ r ∧ r ≤ 2000 ∧ (0 ≤ r → r + ps.length ≤ left ∧ ∀ p ∈ ps, p.key.length ≤ 101000 ∧ Lite 12 p.v.av)) := by
  unfold Ln at hl
  refine pureP_of rfl rfl ?_
  (conv => whnf); repeat' (first | ((with_reducible first | apply kN | apply kW | apply kX | apply kG | apply kQ); (· exact sd); conv => whnf) | (refine pcase.mk ?_ ?_ <;> intro hc <;> (try rw [List.length_nil] at hc) <;> first | (exfalso; omega) | (exact absurd rfl hc) | conv => whnf)  | (refine bcase_intro ?_ ?_ <;> intro hc <;> conv => whnf))
  refine loop_inv (fun m env s => ∃ (i : Nat) (cur : Int), m = ps.length - i ∧ env = [(0, .sl nn (vs GP.av ps)), (1, .int .i64 cur), (5, .int .i64 i)] ∧ s = ⟨[], 0⟩ ∧
    -9223372036854775808 ≤ cur ∧ cur ≤ 2000 ∧ (0 ≤ cur → cur + i ≤ left ∧ ∀ p ∈ ps.take i, p.key.length ≤ 101000 ∧ Lite 12 p.v.av)) ?_ _ _ _ ⟨0, _, rfl, rfl, rfl, by omega, by omega, fun h => ⟨by omega, by simp⟩⟩
  rintro _ _ _ ⟨i, cur, rfl, rfl, rfl, b1, b2, hx⟩
  refine ⟨rfl, ?_⟩
  have hat : ∀ (h : i < ps.length), (ps[i]).ok := fun h => hp _ (List.getElem_mem _)
  have hk : ∀ (h : i < ps.length), (ps[i]).key.length < 2^63 := fun h => (hat h).1
  (conv => whnf); repeat' (first | ((with_reducible first | apply kN | apply kW | apply kX | apply kG | apply kQ); (· exact sd); conv => whnf) | (refine pcase.mk ?_ ?_ <;> intro hc <;> (try rw [List.length_nil] at hc) <;> first | (exfalso; omega) | (exact absurd rfl hc) | conv => whnf) | (refine wrapQ (hk (by omega)) ?_; conv => whnf) | (have hwr := hk (by omega); apply wrapK_intro; (· exact wrap_i64 (by omega) (by omega)); clear hwr; conv => whnf) | (refine bcase_intro ?_ ?_ <;> intro hc <;> conv => whnf))
  · refine callK_of (wei 12 (by omega) (hat (by omega)).2 (by have := hk (by omega); omega) (by omega)) ?_
    rintro _ ⟨r, rfl, r1, r2, r3⟩
    (conv => whnf); repeat' (first | ((with_reducible first | apply kN | apply kW | apply kX | apply kG | apply kQ); (· exact sd); conv => whnf) | (refine pcase.mk ?_ ?_ <;> intro hc <;> (try rw [List.length_nil] at hc) <;> first | (exfalso; omega) | (exact absurd rfl hc) | conv => whnf)  | (refine bcase_intro ?_ ?_ <;> intro hc <;> conv => whnf))
    exact again.mk ⟨_, by omega, i + 1, r, rfl, rfl, rfl, by omega, by omega, fun h => ⟨by have := hx (by omega); have := r3 h; omega, all_take_succ (by omega) (hx (by omega)).2 ⟨by have := r3 h; omega, (r3 h).2⟩⟩⟩
  · exact ⟨_, rfl, by omega, by omega, fun h => absurd h (by omega)⟩
  · refine ⟨_, rfl, by omega, by omega, fun h => ?_⟩
    obtain ⟨x1, x2⟩ := hx h
    rw [take_all hc] at x2
    exact ⟨by omega, x2⟩

end AI
end Go.Proofs.YtnfdpfeeenmffaaGreatDoor
set_option linter.unusedVariables false
namespace Go.Proofs.YtnfdpfeeenmffaaGreatDoor
namespace AI

theorem lite_ok {d : Nat} {a : AV} (h : Lite d a) : ∃ g : GV, a = g.av ∧ g.ok ∧ g.l.length ≤ 2000 ∧ ∃ d', d = d' + 1 ∧ ∀ x ∈ g.l, Lite d' x := by
  cases d with
  | zero => cases h
  | succ d =>
    obtain ⟨g, e, h1, h2, h3, h4⟩ := h
    exact ⟨g, e, h1, h3, d, rfl, h4⟩

theorem lite_at {d : Nat} {l : List AV} (h : ∀ x ∈ l, Lite d x) (i : Nat) : ∃ g : GV, ∀ hi : i < l.length, nth l (Int.toNat (Nat.cast i)) = some g.av ∧ l[i] = g.av ∧ g.ok ∧ Lite d g.av := by
  by_cases hi : i < l.length
  · obtain ⟨g, e, hg, _⟩ := lite_ok (h _ (List.getElem_mem hi))
    exact ⟨g, fun _ => ⟨by rw [← e]; exact nR hi, e, hg, e ▸ h _ (List.getElem_mem hi)⟩⟩
  · exact ⟨⟨0, 0, 0, [], true, []⟩, fun h => absurd h hi⟩

theorem lists0 {d : Nat} {l : List AV} {nn : Bool} (hl : l.length < 2^63) (h : ∀ x ∈ l, Lite d x) (ih : ∀ {g : GV}, g.ok → Lite d g.av → PureP (findFn tab) 52 [g.av, g.av] (· = .int .i64 0)) :
    PureP (findFn tab) 130 [.sl nn l, .sl nn l] (· = .int .i64 0) := by
  refine pureP_of rfl rfl ?_
  (conv => whnf); repeat' (first | ((with_reducible first | apply kN | apply kW | apply kX | apply kG | apply kQ); (· exact sd); conv => whnf) | (refine pcase.mk ?_ ?_ <;> intro hc <;> (try rw [List.length_nil] at hc) <;> first | (exfalso; omega) | (exact absurd rfl hc) | conv => whnf)  | (refine bcase_intro ?_ ?_ <;> intro hc <;> conv => whnf))
  refine loop_inv (fun m env s => ∃ i : Nat, m = l.length - i ∧ env = [(0, .sl nn l), (1, .sl nn l), (5, .int .i64 i)] ∧ s = ⟨[], 0⟩) ?_ _ _ _ ⟨0, rfl, rfl, rfl⟩
  rintro _ _ _ ⟨i, rfl, rfl, rfl⟩
  refine ⟨rfl, ?_⟩
  obtain ⟨gx, hgx⟩ := lite_at h i
  (conv => whnf); repeat' (first | ((with_reducible first | apply kN | apply kW | apply kX | apply kG | apply kQ); (· exact sd); conv => whnf) | (refine pcase.mk ?_ ?_ <;> intro hc <;> (try rw [List.length_nil] at hc) <;> first | (exfalso; omega) | (exact absurd rfl hc) | conv => whnf) | (apply nthK_intro; (· exact (hgx (by omega)).1); conv => whnf) | (refine callK_of (ih (g := gx) (hgx (by omega)).2.2.1 (hgx (by omega)).2.2.2) ?_; rintro _ rfl; conv => whnf) | (refine callK_of ints0 ?_; rintro _ rfl; conv => whnf) | (refine bcase_intro ?_ ?_ <;> intro hc <;> conv => whnf))
  all_goals first | rfl | exact again.mk ⟨_, by omega, i + 1, rfl, rfl, rfl⟩

theorem fields0 {g : GV} (hl : PureP (findFn tab) 130 [.sl g.nn g.l, .sl g.nn g.l] (· = .int .i64 0)) : PureP (findFn tab) 99 [g.av, g.av] (· = .int .i64 0) := by
  refine pureP_of rfl rfl ?_
  (conv => whnf); repeat' (first | ((with_reducible first | apply kN | apply kW | apply kX | apply kG | apply kQ); (· exact sd); conv => whnf) | (refine pcase.mk ?_ ?_ <;> intro hc <;> (try rw [List.length_nil] at hc) <;> first | (exfalso; omega) | (exact absurd rfl hc) | conv => whnf) | (refine callK_of ints0 ?_; rintro _ rfl; conv => whnf) | (refine callK_of strs0 ?_; rintro _ rfl; conv => whnf) | (refine callK_of hl ?_; rintro _ rfl; conv => whnf) | (refine bcase_intro ?_ ?_ <;> intro hc <;> conv => whnf))
  all_goals rfl

theorem order1 {g : GV} (hg : g.ok) (hl : PureP (findFn tab) 130 [.sl g.nn g.l, .sl g.nn g.l] (· = .int .i64 0)) : PureP (findFn tab) 52 [g.av, g.av] (· = .int .i64 0) := by
  obtain ⟨_, ⟨b, rfl⟩, hV⟩ := (Valid hg).det
  obtain ⟨_, ⟨z, rfl⟩, hC⟩ := (classV (k := g.k)).det
  obtain ⟨_, ⟨n, d, b2, rfl⟩, hN⟩ := (number hg).det
  cases b <;> cases b2 <;> (
  refine pureP_of rfl rfl ?_
  (conv => whnf); repeat' (first | ((with_reducible first | apply kN | apply kW | apply kX | apply kG | apply kQ); (· exact sd); conv => whnf) | (refine pcase.mk ?_ ?_ <;> intro hc <;> (try rw [List.length_nil] at hc) <;> first | (exfalso; omega) | (exact absurd rfl hc) | conv => whnf) | (refine callK_of hV ?_; rintro _ rfl; conv => whnf) | (refine callK_of hC ?_; rintro _ rfl; conv => whnf) | (refine callK_of hN ?_; rintro _ rfl; conv => whnf) | (refine callK_of ints0 ?_; rintro _ rfl; conv => whnf) | (refine callK_of (fields0 hl) ?_; rintro _ rfl; conv => whnf) | (refine callK_of (cmp0 (n := n) (d := d)) ?_; rintro _ rfl; conv => whnf) | (refine bcase_intro ?_ ?_ <;> intro hc <;> conv => whnf))
  all_goals rfl)

/-- a value is equal to itself -/
theorem order0V : ∀ (d : Nat) {g : GV}, g.ok → Lite d g.av → PureP (findFn tab) 52 [g.av, g.av] (· = .int .i64 0)
  | 0, _, _, h => by cases h
  | d + 1, g, hg, h => by
    obtain ⟨g', e, h1, h2, d', e2, h3⟩ := lite_ok h
    obtain rfl : d = d' := by omega
    have : g.l = g'.l := by injection e with e; simp only [List.cons.injEq, AV.sl.injEq] at e; exact e.2.2.2.2.1.2
    exact order1 hg (lists0 (by rw [this]; omega) (by rw [this]; exact h3) (order0V d))

end AI
end Go.Proofs.YtnfdpfeeenmffaaGreatDoor
set_option linter.unusedVariables false
namespace Go.Proofs.YtnfdpfeeenmffaaGreatDoor
namespace AI
/-- the first thing of a kind -/
def firstD {α : Type} (p : α → Bool) (z : α) (l : List α) : α := (l.find? p).getD z
theorem find_at {α : Type} {p : α → Bool} {l : List α} {i : Nat} (hi : i < l.length) (h : ∀ x ∈ l.take i, p x = false) (hp : p l[i] = true) : l.find? p = some l[i] := by
  have e : l = l.take i ++ l[i] :: l.drop (i + 1) := by rw [← List.drop_eq_getElem_cons hi, List.take_append_drop]
  have h1 : (l.take i).find? p = none := List.find?_eq_none.2 fun x hx => by simp [h x hx]
  refine (congrArg (List.find? p) e).trans ?_
  rw [List.find?_append, h1, List.find?_cons_of_pos hp]
  rfl
theorem find_no {α : Type} {p : α → Bool} {l : List α} (h : ∀ x ∈ l, p x = false) : l.find? p = none := List.find?_eq_none.2 fun x hx => by simp [h x hx]
theorem take_no {α : Type} {p : α → Bool} {l : List α} {i : Nat} (hi : i < l.length) (h : ∀ x ∈ l.take i, p x = false) (hp : p l[i] = false) : ∀ x ∈ l.take (i + 1), p x = false := all_take_succ hi h hp


def GoodP (ps : List GP) : Prop := ps.length ≤ 2000 ∧ ∀ p ∈ ps, p.ok ∧ Lite 12 p.v.av

end AI
end Go.Proofs.YtnfdpfeeenmffaaGreatDoor
