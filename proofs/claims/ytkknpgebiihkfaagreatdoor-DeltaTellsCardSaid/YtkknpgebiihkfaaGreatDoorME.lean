/- The budget of a graph; names and types; entries. Looking for the first. The reference looks up nodes and edges. Small values. A value cloned reads as the value. Clones: they read as what was cloned. The program looks up nodes and edges. -/
import Derived.Test.YtkknpgebiihkfaaGreatDoorMT
import Derived.Test.YtkknpgebiihkfaaGreatDoorMV
set_option linter.unusedVariables false
set_option maxRecDepth 4000
namespace Go.Proofs.YtkknpgebiihkfaaGreatDoor
namespace AI

/-- small data of a value -/
def Lite : Nat → AV → Prop
  | 0, _ => False
  | d + 1, a => ∃ g : GV, a = g.av ∧ g.ok ∧ g.s.length ≤ 101000 ∧ g.l.length ≤ 2000 ∧ ∀ x ∈ g.l, Lite d x

theorem wei : ∀ (d : Nat), d ≤ 12 → ∀ {g : GV} (hg : g.ok) {left : Int} (h1 : -184467440737095530 ≤ left) (h2 : left ≤ 2000),
    PureP (findFn tab) 54 [g.av, .int .i64 left, .int .i64 d] (fun v => ∃ r, v = .int .i64 r ∧ -368934881474191048 ≤ r ∧ r ≤ 1999 ∧ (0 ≤ r → r + 1 ≤ left ∧ Lite d g.av)) := by
  intro d
  induction d with
  | zero =>
    intro _ g hg left h1 h2
    obtain ⟨g1, g2, g3, g4, g5, g6, g7⟩ := hg
    unfold Ln at g4 g5
    refine pureP_of rfl rfl ?_
    (conv => whnf); repeat' (first | ((with_reducible first | apply kN | apply kW | apply kX | apply kG | apply kQ); (· exact sd); conv => whnf) | (refine pcase.mk ?_ ?_ <;> intro hc <;> (try rw [List.length_nil] at hc) <;> first | (exfalso; omega) | (exact absurd rfl hc) | conv => whnf) | (refine wrapQ (by omega) ?_; conv => whnf) | (refine bcase_intro ?_ ?_ <;> intro hc <;> conv => whnf))
    all_goals exact ⟨_, rfl, by omega, by omega, fun h => absurd h (by omega)⟩
  | succ d ih =>
    intro hd g hg left h1 h2
    obtain ⟨g1, g2, g3, g4, g5, g6, g7⟩ := hg
    unfold Ln at g4 g5
    refine pureP_of rfl rfl ?_
    (conv => whnf); repeat' (first | ((with_reducible first | apply kN | apply kW | apply kX | apply kG | apply kQ); (· exact sd); conv => whnf) | (refine pcase.mk ?_ ?_ <;> intro hc <;> (try rw [List.length_nil] at hc) <;> first | (exfalso; omega) | (exact absurd rfl hc) | conv => whnf) | (refine wrapQ (by omega) ?_; conv => whnf) | (refine bcase_intro ?_ ?_ <;> intro hc <;> conv => whnf))
    have hw : ∀ {g : GV} (hg : g.ok) {left : Int} (h1 : -184467440737095530 ≤ left) (h2 : left ≤ 2000),
        PureP (findFn tab) 54 [g.av, .int .i64 left, .int .i64 (((d + 1 : Nat) : Int) - 1)] (fun v => ∃ r, v = .int .i64 r ∧ -368934881474191048 ≤ r ∧ r ≤ 1999 ∧ (0 ≤ r → r + 1 ≤ left ∧ Lite d g.av)) := by
      rw [show ((d + 1 : Nat) : Int) - 1 = (d : Int) by omega]
      exact ih (by omega)
    refine loop_inv (fun m env s => ∃ (i : Nat) (cur : Int), m = g.l.length - i ∧ env = [(1, .int .i64 cur), (2, .int .i64 (d + 1 : Nat)), (3, .ref 0 0 0 0), (7, .int .i64 i)] ∧ s = ⟨[.arr 0 5 true true [g.av]], 1⟩ ∧
      -368934881474191048 ≤ cur ∧ cur ≤ 1999 ∧ (0 ≤ cur → cur + i + g.s.length / 50 + 1 ≤ left ∧ ∀ x ∈ g.l.take i, Lite d x)) ?_ _ _ _ ⟨0, _, rfl, rfl, rfl, by omega, by omega, fun h => ⟨by omega, by simp⟩⟩
    rintro _ _ _ ⟨i, cur, rfl, rfl, rfl, b1, b2, hx⟩
    refine ⟨rfl, ?_⟩
    obtain ⟨gx, hgx⟩ := like_at g7 i
    (conv => whnf); repeat' (first | ((with_reducible first | apply kN | apply kW | apply kX | apply kG | apply kQ); (· exact sd); conv => whnf) | (refine pcase.mk ?_ ?_ <;> intro hc <;> (try rw [List.length_nil] at hc) <;> first | (exfalso; omega) | (exact absurd rfl hc) | conv => whnf) | (apply nthK_intro; (· exact (hgx (by omega)).1); conv => whnf) | (refine bcase_intro ?_ ?_ <;> intro hc <;> conv => whnf))
    · obtain ⟨_, ge, gl⟩ := hgx (by omega)
      refine callK_of (hw gl (by omega) (by omega)) ?_
      rintro _ ⟨r, rfl, r1, r2, r3⟩
      (conv => whnf); repeat' (first | ((with_reducible first | apply kN | apply kW | apply kX | apply kG | apply kQ); (· exact sd); conv => whnf) | (refine pcase.mk ?_ ?_ <;> intro hc <;> (try rw [List.length_nil] at hc) <;> first | (exfalso; omega) | (exact absurd rfl hc) | conv => whnf)  | (refine bcase_intro ?_ ?_ <;> intro hc <;> conv => whnf))
      exact again.mk ⟨_, by omega, i + 1, r, rfl, rfl, rfl, by omega, by omega, fun h => ⟨by have := hx (by omega); have := r3 h; omega, all_take_succ (by omega) (hx (by omega)).2 (ge ▸ (r3 h).2)⟩⟩
    · exact ⟨_, rfl, by omega, by omega, fun h => absurd h (by omega)⟩
    · refine ⟨_, rfl, by omega, by omega, fun h => ?_⟩
      obtain ⟨x1, x2⟩ := hx h
      rw [take_all hc] at x2
      exact ⟨by omega, g, rfl, ⟨g1, g2, g3, g4, g5, g6, g7⟩, by omega, by omega, x2⟩

end AI
end Go.Proofs.YtkknpgebiihkfaaGreatDoor
set_option linter.unusedVariables false
namespace Go.Proofs.YtkknpgebiihkfaaGreatDoor
namespace AI
/-- the first thing of a kind -/
def firstD {α : Type} (p : α → Bool) (z : α) (l : List α) : α := (l.find? p).getD z
theorem find_at {α : Type} {p : α → Bool} {l : List α} {i : Nat} (hi : i < l.length) (h : ∀ x ∈ l.take i, p x = false) (hp : p l[i] = true) : l.find? p = some l[i] := by
  have e : l = l.take i ++ l[i] :: l.drop (i + 1) := by rw [← List.drop_eq_getElem_cons hi, List.take_append_drop]
  have h1 : (l.take i).find? p = none := List.find?_eq_none.2 fun x hx => by simp [h x hx]
  refine (congrArg (List.find? p) e).trans ?_
  rw [List.find?_append, h1, List.find?_cons_of_pos hp]
  rfl
theorem find_no {α : Type} {p : α → Bool} {l : List α} (h : ∀ x ∈ l, p x = false) : l.find? p = none := List.find?_eq_none.2 fun x hx => by simp [h x hx]
theorem take_no {α : Type} {p : α → Bool} {l : List α} {i : Nat} (hi : i < l.length) (h : ∀ x ∈ l.take i, p x = false) (hp : p l[i] = false) : ∀ x ∈ l.take (i + 1), p x = false := all_take_succ hi h hp


def GoodP (ps : List GP) : Prop := ps.length ≤ 2000 ∧ ∀ p ∈ ps, p.ok ∧ Lite 12 p.v.av

end AI
end Go.Proofs.YtkknpgebiihkfaaGreatDoor
set_option linter.unusedVariables false
namespace Go.Proofs.YtkknpgebiihkfaaGreatDoor
namespace AI

def N0 : GN := ⟨0, false, [], false, []⟩
def E0 : GE := ⟨0, 0, 0, [], false, []⟩
def isN (id : Int) (n : GN) : Bool := decide (n.id = id)
def isE (id : Int) (n : GE) : Bool := decide (n.id = id)
def nodeR (l : List GN) (id : Int) : AV := match l.find? (isN id) with
  | some n => .tup [n.av, .bool true]
  | none => .tup [N0.av, .bool false]
def edgeR (l : List GE) (id : Int) : AV := match l.find? (isE id) with
  | some n => .tup [n.av, .bool true]
  | none => .tup [E0.av, .bool false]

theorem nodeB {g : GG} (hl : g.nodes.length < 2^63) {id : Int} : PureP (findFn tab) 41 [g.av, .int .i64 id] (· = nodeR g.nodes id) := by
  refine pureP_of rfl rfl ?_
  (conv => whnf); repeat' (first | ((with_reducible first | apply kN | apply kW | apply kX | apply kG | apply kQ); (· exact sd); conv => whnf) | (refine pcase.mk ?_ ?_ <;> intro hc <;> (try rw [List.length_nil] at hc) <;> first | (exfalso; omega) | (exact absurd rfl hc) | conv => whnf)  | (refine bcase_intro ?_ ?_ <;> intro hc <;> conv => whnf))
  refine loop_inv (fun m env s => ∃ i : Nat, m = g.nodes.length - i ∧ (∀ x ∈ g.nodes.take i, isN id x = false) ∧ env = [(1, .int .i64 id), (2, .ref 0 0 0 0), (4, .ref 1 1 0 0), (6, .int .i64 i)] ∧ s = ⟨[.arr 0 4 true true [g.av], .arr 1 3 true true [.agg [.int .i64 0, .sl false [], .sl false []]]], 2⟩) ?_ _ _ _ ⟨0, rfl, by simp, rfl, rfl⟩
  rintro _ _ _ ⟨i, rfl, hx, rfl, rfl⟩
  refine ⟨rfl, ?_⟩
  (conv => whnf); repeat' (first | ((with_reducible first | apply kN | apply kW | apply kX | apply kG | apply kQ); (· exact sd); conv => whnf) | (refine pcase.mk ?_ ?_ <;> intro hc <;> (try rw [List.length_nil] at hc) <;> first | (exfalso; omega) | (exact absurd rfl hc) | conv => whnf)  | (refine bcase_intro ?_ ?_ <;> intro hc <;> conv => whnf))
  · rw [nodeR, find_at (by omega) hx (decide_eq_true hc)]; rfl
  · exact again.mk ⟨_, by omega, i + 1, rfl, take_no (by omega) hx (decide_eq_false hc), rfl, rfl⟩
  · rw [take_all hc] at hx
    rw [nodeR, find_no hx]; rfl

theorem edgeB {g : GG} (hl : g.edges.length < 2^63) {id : Int} : PureP (findFn tab) 45 [g.av, .int .i64 id] (· = edgeR g.edges id) := by
  refine pureP_of rfl rfl ?_
  (conv => whnf); repeat' (first | ((with_reducible first | apply kN | apply kW | apply kX | apply kG | apply kQ); (· exact sd); conv => whnf) | (refine pcase.mk ?_ ?_ <;> intro hc <;> (try rw [List.length_nil] at hc) <;> first | (exfalso; omega) | (exact absurd rfl hc) | conv => whnf)  | (refine bcase_intro ?_ ?_ <;> intro hc <;> conv => whnf))
  refine loop_inv (fun m env s => ∃ i : Nat, m = g.edges.length - i ∧ (∀ x ∈ g.edges.take i, isE id x = false) ∧ env = [(1, .int .i64 id), (2, .ref 0 0 0 0), (4, .ref 1 1 0 0), (6, .int .i64 i)] ∧ s = ⟨[.arr 0 4 true true [g.av], .arr 1 5 true true [.agg [.int .i64 0, .int .i64 0, .int .i64 0, .str [], .sl false []]]], 2⟩) ?_ _ _ _ ⟨0, rfl, by simp, rfl, rfl⟩
  rintro _ _ _ ⟨i, rfl, hx, rfl, rfl⟩
  refine ⟨rfl, ?_⟩
  (conv => whnf); repeat' (first | ((with_reducible first | apply kN | apply kW | apply kX | apply kG | apply kQ); (· exact sd); conv => whnf) | (refine pcase.mk ?_ ?_ <;> intro hc <;> (try rw [List.length_nil] at hc) <;> first | (exfalso; omega) | (exact absurd rfl hc) | conv => whnf)  | (refine bcase_intro ?_ ?_ <;> intro hc <;> conv => whnf))
  · rw [edgeR, find_at (by omega) hx (decide_eq_true hc)]; rfl
  · exact again.mk ⟨_, by omega, i + 1, rfl, take_no (by omega) hx (decide_eq_false hc), rfl, rfl⟩
  · rw [take_all hc] at hx
    rw [edgeR, find_no hx]; rfl


end AI
end Go.Proofs.YtkknpgebiihkfaaGreatDoor
set_option linter.unusedVariables false
namespace Go.Proofs.YtkknpgebiihkfaaGreatDoor
namespace AI

theorem lite_ok {d : Nat} {a : AV} (h : Lite d a) : ∃ g : GV, a = g.av ∧ g.ok ∧ g.l.length ≤ 2000 ∧ ∃ d', d = d' + 1 ∧ ∀ x ∈ g.l, Lite d' x := by
  cases d with
  | zero => cases h
  | succ d =>
    obtain ⟨g, e, h1, h2, h3, h4⟩ := h
    exact ⟨g, e, h1, h3, d, rfl, h4⟩

theorem lite_at {d : Nat} {l : List AV} (h : ∀ x ∈ l, Lite d x) (i : Nat) : ∃ g : GV, ∀ hi : i < l.length, nth l (Int.toNat (Nat.cast i)) = some g.av ∧ l[i] = g.av ∧ g.ok ∧ Lite d g.av := by
  by_cases hi : i < l.length
  · obtain ⟨g, e, hg, _⟩ := lite_ok (h _ (List.getElem_mem hi))
    exact ⟨g, fun _ => ⟨by rw [← e]; exact nR hi, e, hg, e ▸ h _ (List.getElem_mem hi)⟩⟩
  · exact ⟨⟨0, 0, 0, [], true, []⟩, fun h => absurd h hi⟩

end AI
end Go.Proofs.YtkknpgebiihkfaaGreatDoor
set_option linter.unusedVariables false
namespace Go.Proofs.YtkknpgebiihkfaaGreatDoor
namespace AI
theorem appendK_new {g es : Nat} {ys : List AV} {bytes : Nat} {K : Nat → Bool → Bool → List AV → Prop} (hs : AllSize es ys) (hr : ys.length * bytes ≤ 2 ^ 46) (h : K ys.length true true ys) :
    appendK g g es es 0 true true true [] ys bytes K := by
  refine ⟨⟨rfl, rfl, by simp, hs, ?_⟩, ?_⟩
  · rw [Nat.zero_add]; exact hr
  · rw [Nat.zero_add]; exact h

theorem cloneVn : Calls1 (findFn tab) 128 [.sl false []] ⟨[], 0⟩ fun out _ => out = .ok (.sl false []) := by
  refine calls1_of rfl rfl ?_
  (conv => whnf); repeat' (first | ((with_reducible first | apply kN | apply kW | apply kX | apply kG | apply kQ); (· exact sd); conv => whnf) | (refine pcase.mk ?_ ?_ <;> intro hc <;> (try rw [List.length_nil] at hc) <;> first | (exfalso; omega) | (exact absurd rfl hc) | conv => whnf)  | (refine bcase_intro ?_ ?_ <;> intro hc <;> conv => whnf))
  rfl
theorem cloneV {l : List AV} (hs : AllSize 5 l) (hl : l.length ≤ 2000) : Calls1 (findFn tab) 128 [.sl true l] ⟨[], 0⟩ fun out s' => ∃ o g, out = .ok (.own o g 0 l.length) ∧ nth s'.σ o = some (.arr g 5 true true l) := by
  refine calls1_of rfl rfl ?_
  (conv => whnf); repeat' (first | ((with_reducible first | apply kN | apply kW | apply kX | apply kG | apply kQ); (· exact sd); conv => whnf) | (refine pcase.mk ?_ ?_ <;> intro hc <;> (try rw [List.length_nil] at hc) <;> first | (exfalso; omega) | (exact absurd rfl hc) | conv => whnf)  | (refine bcase_intro ?_ ?_ <;> intro hc <;> conv => whnf))
  refine appendK_new hs (by omega) ?_
  (conv => whnf); repeat' (first | ((with_reducible first | apply kN | apply kW | apply kX | apply kG | apply kQ); (· exact sd); conv => whnf) | (refine pcase.mk ?_ ?_ <;> intro hc <;> (try rw [List.length_nil] at hc) <;> first | (exfalso; omega) | (exact absurd rfl hc) | conv => whnf)  | (refine bcase_intro ?_ ?_ <;> intro hc <;> conv => whnf))
  exact ⟨_, _, rfl, rfl⟩

theorem lite_size {d : Nat} {l : List AV} (h : ∀ x ∈ l, Lite d x) : AllSize 5 l := by
  intro x hx
  obtain ⟨g, rfl, _⟩ := lite_ok (h x hx)
  rfl

theorem set_sameL {l : List AV} {z : Nat} {x : AV} (h : nth l z = some x) : l.set z x = l := by
  rw [nth_eq] at h
  obtain ⟨hz, rfl⟩ := List.getElem?_eq_some_iff.1 h
  exact List.set_getElem_self hz
theorem subAll (l : List AV) : sub l 0 l.length = l := by unfold sub; exact List.take_of_length_le (by simp)

/-- a clone of a value -/
theorem cloneVal1 {d : Nat} {g : GV} (hg : g.ok) (h2 : g.l.length ≤ 2000) (h3 : ∀ x ∈ g.l, Lite d x) (ih : ∀ {g : GV}, g.ok → Lite d g.av → PureP (findFn tab) 102 [g.av] (· = g.av)) :
    PureP (findFn tab) 102 [g.av] (· = g.av) := by
  obtain ⟨g1, g2, g3, g4, g5, g6, g7⟩ := hg
  obtain ⟨k, n, dd, s, nn, l⟩ := g
  simp only at *
  cases nn with
  | false =>
    obtain rfl := g6 rfl
    refine pureP_of rfl rfl ?_
    (conv => whnf); repeat' (first | ((with_reducible first | apply kN | apply kW | apply kX | apply kG | apply kQ); (· exact sd); conv => whnf) | (refine pcase.mk ?_ ?_ <;> intro hc <;> (try rw [List.length_nil] at hc) <;> first | (exfalso; omega) | (exact absurd rfl hc) | conv => whnf)  | (refine bcase_intro ?_ ?_ <;> intro hc <;> conv => whnf))
    refine ownK_nil rfl cloneVn ?_
    (conv => whnf); repeat' (first | ((with_reducible first | apply kN | apply kW | apply kX | apply kG | apply kQ); (· exact sd); conv => whnf) | (refine pcase.mk ?_ ?_ <;> intro hc <;> (try rw [List.length_nil] at hc) <;> first | (exfalso; omega) | (exact absurd rfl hc) | conv => whnf)  | (refine bcase_intro ?_ ?_ <;> intro hc <;> conv => whnf))
    refine loop_step ?_ rfl
    (conv => whnf); repeat' (first | ((with_reducible first | apply kN | apply kW | apply kX | apply kG | apply kQ); (· exact sd); conv => whnf) | (refine pcase.mk ?_ ?_ <;> intro hc <;> (try rw [List.length_nil] at hc) <;> first | (exfalso; omega) | (exact absurd rfl hc) | conv => whnf)  | (refine bcase_intro ?_ ?_ <;> intro hc <;> conv => whnf))
    rfl
  | true =>
    refine pureP_of rfl rfl ?_
    (conv => whnf); repeat' (first | ((with_reducible first | apply kN | apply kW | apply kX | apply kG | apply kQ); (· exact sd); conv => whnf) | (refine pcase.mk ?_ ?_ <;> intro hc <;> (try rw [List.length_nil] at hc) <;> first | (exfalso; omega) | (exact absurd rfl hc) | conv => whnf)  | (refine bcase_intro ?_ ?_ <;> intro hc <;> conv => whnf))
    refine ownK rfl (cloneV (lite_size h3) h2) ?_
    (conv => whnf); repeat' (first | ((with_reducible first | apply kN | apply kW | apply kX | apply kG | apply kQ); (· exact sd); conv => whnf) | (refine pcase.mk ?_ ?_ <;> intro hc <;> (try rw [List.length_nil] at hc) <;> first | (exfalso; omega) | (exact absurd rfl hc) | conv => whnf)  | (refine bcase_intro ?_ ?_ <;> intro hc <;> conv => whnf))
    refine loop_inv (fun m env st => ∃ i : Nat, m = l.length - i ∧ env = [(1, .ref 0 0 0 0), (2, .ref 1 1 0 0), (10, .int .i64 l.length), (11, .int .i64 i)] ∧ st = ⟨[.arr 0 5 true false [.agg [.int .i64 k, .int .i64 n, .int .i64 dd, .str s, .own 2 2 0 l.length]], .arr 1 5 true true [.agg [.int .i64 0, .int .i64 0, .int .i64 0, .str [], .sl false []]], .arr 2 5 true true l], 3⟩) ?_ _ _ _ ⟨0, rfl, rfl, rfl⟩
    rintro _ _ _ ⟨i, rfl, rfl, rfl⟩
    refine ⟨rfl, ?_⟩
    unfold Ln at g5
    obtain ⟨gx, hgx⟩ := lite_at h3 i
    (conv => whnf); repeat' (first | (apply nthK_intro; (· exact (hgx (by omega)).1); conv => whnf) | (refine callK_of (ih (g := gx) (hgx (by omega)).2.2.1 (hgx (by omega)).2.2.2) ?_; rintro _ rfl; conv => whnf) | (apply eqK_intro; (· exact set_sameL (x := gx.av) (hgx (by omega)).1); conv => whnf) | ((with_reducible first | apply kN | apply kW | apply kX | apply kG | apply kQ); (· exact sd); conv => whnf) | (refine pcase.mk ?_ ?_ <;> intro hc <;> (try rw [List.length_nil] at hc) <;> first | (exfalso; omega) | (exact absurd rfl hc) | conv => whnf) | (refine bcase_intro ?_ ?_ <;> intro hc <;> conv => whnf))
    · exact again.mk ⟨_, by omega, i + 1, rfl, rfl, rfl⟩
    · rw [subAll]; rfl

theorem cloneVal : ∀ (d : Nat) {g : GV}, g.ok → Lite d g.av → PureP (findFn tab) 102 [g.av] (· = g.av)
  | 0, _, _, h => by cases h
  | d + 1, g, hg, h => by
    obtain ⟨g', e, h1, h2, d', e2, h3⟩ := lite_ok h
    obtain rfl : d = d' := by omega
    have : g.l = g'.l := by injection e with e; simp only [List.cons.injEq, AV.sl.injEq] at e; exact e.2.2.2.2.1.2
    exact cloneVal1 hg (by rw [this]; exact h2) (by rw [this]; exact h3) (cloneVal d)


end AI
end Go.Proofs.YtkknpgebiihkfaaGreatDoor
set_option linter.unusedVariables false
namespace Go.Proofs.YtkknpgebiihkfaaGreatDoor
namespace AI

theorem cloneS {l : List (List UInt8)} {nn : Bool} (hl : l.length ≤ 2000) (hn : nn = false → l = []) : PureP (findFn tab) 66 [.sl nn (vs .str l)] (· = .sl nn (vs .str l)) := by
  cases nn with
  | false =>
    obtain rfl := hn rfl
    refine pureP_of rfl rfl ?_
    (conv => whnf); repeat' (first | ((with_reducible first | apply kN | apply kW | apply kX | apply kG | apply kQ); (· exact sd); conv => whnf) | (refine pcase.mk ?_ ?_ <;> intro hc <;> (try rw [List.length_nil] at hc) <;> first | (exfalso; omega) | (exact absurd rfl hc) | conv => whnf)  | (refine bcase_intro ?_ ?_ <;> intro hc <;> conv => whnf))
    rfl
  | true =>
    refine pureP_of rfl rfl ?_
    (conv => whnf); repeat' (first | ((with_reducible first | apply kN | apply kW | apply kX | apply kG | apply kQ); (· exact sd); conv => whnf) | (refine pcase.mk ?_ ?_ <;> intro hc <;> (try rw [List.length_nil] at hc) <;> first | (exfalso; omega) | (exact absurd rfl hc) | conv => whnf) | (refine appendK_new (allSize_vs (fun _ => rfl) _) (by rw [lV]; omega) ?_; conv => whnf) | (refine bcase_intro ?_ ?_ <;> intro hc <;> conv => whnf))
    refine appendK_new (allSize_vs (f := .str) (fun _ => rfl) l) (by rw [lV]; omega) ?_
    (conv => whnf); repeat' (first | ((with_reducible first | apply kN | apply kW | apply kX | apply kG | apply kQ); (· exact sd); conv => whnf) | (refine pcase.mk ?_ ?_ <;> intro hc <;> (try rw [List.length_nil] at hc) <;> first | (exfalso; omega) | (exact absurd rfl hc) | conv => whnf)  | (refine bcase_intro ?_ ?_ <;> intro hc <;> conv => whnf))
    rw [lV, uV]

theorem clonePn : Calls1 (findFn tab) 101 [.sl false []] ⟨[], 0⟩ fun out _ => out = .ok (.sl false []) := by
  refine calls1_of rfl rfl ?_
  (conv => whnf); repeat' (first | ((with_reducible first | apply kN | apply kW | apply kX | apply kG | apply kQ); (· exact sd); conv => whnf) | (refine pcase.mk ?_ ?_ <;> intro hc <;> (try rw [List.length_nil] at hc) <;> first | (exfalso; omega) | (exact absurd rfl hc) | conv => whnf)  | (refine bcase_intro ?_ ?_ <;> intro hc <;> conv => whnf))
  rfl
theorem cloneP {l : List GP} (hl : l.length ≤ 2000) : Calls1 (findFn tab) 101 [.sl true (vs GP.av l)] ⟨[], 0⟩ fun out s' => ∃ o g, out = .ok (.own o g 0 (vs GP.av l).length) ∧ nth s'.σ o = some (.arr g 6 true true (vs GP.av l)) := by
  refine calls1_of rfl rfl ?_
  (conv => whnf); repeat' (first | ((with_reducible first | apply kN | apply kW | apply kX | apply kG | apply kQ); (· exact sd); conv => whnf) | (refine pcase.mk ?_ ?_ <;> intro hc <;> (try rw [List.length_nil] at hc) <;> first | (exfalso; omega) | (exact absurd rfl hc) | conv => whnf)  | (refine bcase_intro ?_ ?_ <;> intro hc <;> conv => whnf))
  refine appendK_new (allSize_vs (f := GP.av) (fun _ => rfl) l) (by rw [lV]; omega) ?_
  (conv => whnf); repeat' (first | ((with_reducible first | apply kN | apply kW | apply kX | apply kG | apply kQ); (· exact sd); conv => whnf) | (refine pcase.mk ?_ ?_ <;> intro hc <;> (try rw [List.length_nil] at hc) <;> first | (exfalso; omega) | (exact absurd rfl hc) | conv => whnf)  | (refine bcase_intro ?_ ?_ <;> intro hc <;> conv => whnf))
  exact ⟨_, _, rfl, rfl⟩
/-- a clone of properties -/
theorem clonePs {ps : List GP} {nn : Bool} (hl : ps.length ≤ 2000) (hn : nn = false → ps = []) (hok : ∀ p ∈ ps, p.ok) (hL : ∀ p ∈ ps, Lite 12 p.v.av) : PureP (findFn tab) 65 [.sl nn (vs GP.av ps)] (· = .sl nn (vs GP.av ps)) := by
  cases nn with
  | false =>
    obtain rfl := hn rfl
    refine pureP_of rfl rfl ?_
    (conv => whnf); repeat' (first | ((with_reducible first | apply kN | apply kW | apply kX | apply kG | apply kQ); (· exact sd); conv => whnf) | (refine pcase.mk ?_ ?_ <;> intro hc <;> (try rw [List.length_nil] at hc) <;> first | (exfalso; omega) | (exact absurd rfl hc) | conv => whnf)  | (refine bcase_intro ?_ ?_ <;> intro hc <;> conv => whnf))
    refine ownK_nil rfl clonePn ?_
    (conv => whnf); repeat' (first | ((with_reducible first | apply kN | apply kW | apply kX | apply kG | apply kQ); (· exact sd); conv => whnf) | (refine pcase.mk ?_ ?_ <;> intro hc <;> (try rw [List.length_nil] at hc) <;> first | (exfalso; omega) | (exact absurd rfl hc) | conv => whnf)  | (refine bcase_intro ?_ ?_ <;> intro hc <;> conv => whnf))
    refine loop_step ?_ rfl
    (conv => whnf); repeat' (first | ((with_reducible first | apply kN | apply kW | apply kX | apply kG | apply kQ); (· exact sd); conv => whnf) | (refine pcase.mk ?_ ?_ <;> intro hc <;> (try rw [List.length_nil] at hc) <;> first | (exfalso; omega) | (exact absurd rfl hc) | conv => whnf)  | (refine bcase_intro ?_ ?_ <;> intro hc <;> conv => whnf))
    rfl
  | true =>
    refine pureP_of rfl rfl ?_
    (conv => whnf); repeat' (first | ((with_reducible first | apply kN | apply kW | apply kX | apply kG | apply kQ); (· exact sd); conv => whnf) | (refine pcase.mk ?_ ?_ <;> intro hc <;> (try rw [List.length_nil] at hc) <;> first | (exfalso; omega) | (exact absurd rfl hc) | conv => whnf)  | (refine bcase_intro ?_ ?_ <;> intro hc <;> conv => whnf))
    refine ownK rfl (cloneP hl) ?_
    (conv => whnf); repeat' (first | ((with_reducible first | apply kN | apply kW | apply kX | apply kG | apply kQ); (· exact sd); conv => whnf) | (refine pcase.mk ?_ ?_ <;> intro hc <;> (try rw [List.length_nil] at hc) <;> first | (exfalso; omega) | (exact absurd rfl hc) | conv => whnf)  | (refine bcase_intro ?_ ?_ <;> intro hc <;> conv => whnf))
    refine loop_inv (fun m env st => ∃ i : Nat, m = ps.length - i ∧ env = [(3, .own 0 0 0 (vs GP.av ps).length), (8, .int .i64 (vs GP.av ps).length), (9, .int .i64 i)] ∧ st = ⟨[.arr 0 6 true true (vs GP.av ps)], 1⟩) ?_ _ _ _ ⟨0, rfl, rfl, rfl⟩
    rintro _ _ _ ⟨i, rfl, rfl, rfl⟩
    refine ⟨rfl, ?_⟩
    have hll : (vs GP.av ps).length = ps.length := lV _
    have ho : ∀ h : i < ps.length, (ps[i]).v.ok ∧ Lite 12 (ps[i]).v.av := fun h => ⟨(hok _ (List.getElem_mem h)).2, hL _ (List.getElem_mem h)⟩
    (conv => whnf); repeat' (first | (refine callK_of (cloneVal 12 (g := ps[i].v) (ho (by omega)).1 (ho (by omega)).2) ?_; rintro _ rfl; conv => whnf) | (apply eqK_intro; (· exact set_sameL (x := (ps[i]).av) (nVN (by omega))); conv => whnf) | ((with_reducible first | apply kN | apply kW | apply kX | apply kG | apply kQ); (· exact sd); conv => whnf) | (refine pcase.mk ?_ ?_ <;> intro hc <;> (try rw [List.length_nil] at hc) <;> first | (exfalso; omega) | (exact absurd rfl hc) | conv => whnf) | (refine bcase_intro ?_ ?_ <;> intro hc <;> conv => whnf))
    · exact again.mk ⟨_, by omega, i + 1, rfl, rfl, rfl⟩
    · rw [subAll]


end AI
end Go.Proofs.YtkknpgebiihkfaaGreatDoor
set_option linter.unusedVariables false
namespace Go.Proofs.YtkknpgebiihkfaaGreatDoor
namespace AI

def GoodN (n : GN) : Prop := n.labels.length ≤ 2000 ∧ (n.ln = false → n.labels = []) ∧ (n.pn = false → n.props = []) ∧ GoodP n.props
def GoodE (e : GE) : Prop := (e.pn = false → e.props = []) ∧ GoodP e.props
theorem nodeA {g : GG} (hl : g.nodes.length < 2^63) (hg : ∀ n ∈ g.nodes, GoodN n) {id : Int} : PureP (findFn tab) 34 [g.av, .int .i64 id] (· = nodeR g.nodes id) := by
  refine pureP_of rfl rfl ?_
  (conv => whnf); repeat' (first | ((with_reducible first | apply kN | apply kW | apply kX | apply kG | apply kQ); (· exact sd); conv => whnf) | (refine pcase.mk ?_ ?_ <;> intro hc <;> (try rw [List.length_nil] at hc) <;> first | (exfalso; omega) | (exact absurd rfl hc) | conv => whnf)  | (refine bcase_intro ?_ ?_ <;> intro hc <;> conv => whnf))
  refine loop_inv (fun m env s => ∃ i c : Nat, m = g.nodes.length - i ∧ (∀ x ∈ g.nodes.take i, isN id x = false) ∧ env = [(1, .int .i64 id), (4, .ref 1 1 0 0), (9, .sl g.nn (vs GN.av g.nodes)), (10, .int .i64 g.nodes.length), (11, .int .i64 i)] ∧ s = ⟨[.arr 0 4 true true [g.av], .arr 1 3 true true [.agg [.int .i64 0, .sl false [], .sl false []]]], c⟩) ?_ _ _ _ ⟨0, _, rfl, by simp, rfl, rfl⟩
  rintro _ _ _ ⟨i, c, rfl, hx, rfl, rfl⟩
  refine ⟨rfl, ?_⟩
  have ho : ∀ h : i < g.nodes.length, GoodN g.nodes[i] := fun h => hg _ (List.getElem_mem h)
  (conv => whnf); repeat' (first | ((with_reducible first | apply kN | apply kW | apply kX | apply kG | apply kQ); (· exact sd); conv => whnf) | (refine pcase.mk ?_ ?_ <;> intro hc <;> (try rw [List.length_nil] at hc) <;> first | (exfalso; omega) | (exact absurd rfl hc) | conv => whnf) | (refine callK_of (cloneS (l := g.nodes[i].labels) (ho (by omega)).1 (ho (by omega)).2.1) ?_; rintro _ rfl; conv => whnf) | (refine callK_of (clonePs (ps := g.nodes[i].props) (ho (by omega)).2.2.2.1 (ho (by omega)).2.2.1 (fun p hp => ((ho (by omega)).2.2.2.2 p hp).1) (fun p hp => ((ho (by omega)).2.2.2.2 p hp).2)) ?_; rintro _ rfl; conv => whnf) | (refine bcase_intro ?_ ?_ <;> intro hc <;> conv => whnf))
  · rw [nodeR, find_at (by omega) hx (decide_eq_true hc)]
    simp only
    unfold GN.av
    rw [hc]; rfl
  · exact again.mk ⟨_, by omega, i + 1, _, rfl, take_no (by omega) hx (decide_eq_false hc), rfl, rfl⟩
  · rw [take_all hc] at hx
    rw [nodeR, find_no hx]; rfl

theorem edgeA {g : GG} (hl : g.edges.length < 2^63) (hg : ∀ n ∈ g.edges, GoodE n) {id : Int} : PureP (findFn tab) 31 [g.av, .int .i64 id] (· = edgeR g.edges id) := by
  refine pureP_of rfl rfl ?_
  (conv => whnf); repeat' (first | ((with_reducible first | apply kN | apply kW | apply kX | apply kG | apply kQ); (· exact sd); conv => whnf) | (refine pcase.mk ?_ ?_ <;> intro hc <;> (try rw [List.length_nil] at hc) <;> first | (exfalso; omega) | (exact absurd rfl hc) | conv => whnf)  | (refine bcase_intro ?_ ?_ <;> intro hc <;> conv => whnf))
  refine loop_inv (fun m env s => ∃ i c : Nat, m = g.edges.length - i ∧ (∀ x ∈ g.edges.take i, isE id x = false) ∧ env = [(1, .int .i64 id), (4, .ref 1 1 0 0), (9, .sl g.en (vs GE.av g.edges)), (10, .int .i64 g.edges.length), (11, .int .i64 i)] ∧ s = ⟨[.arr 0 4 true true [g.av], .arr 1 5 true true [.agg [.int .i64 0, .int .i64 0, .int .i64 0, .str [], .sl false []]]], c⟩) ?_ _ _ _ ⟨0, _, rfl, by simp, rfl, rfl⟩
  rintro _ _ _ ⟨i, c, rfl, hx, rfl, rfl⟩
  refine ⟨rfl, ?_⟩
  have ho : ∀ h : i < g.edges.length, GoodE g.edges[i] := fun h => hg _ (List.getElem_mem h)
  (conv => whnf); repeat' (first | ((with_reducible first | apply kN | apply kW | apply kX | apply kG | apply kQ); (· exact sd); conv => whnf) | (refine pcase.mk ?_ ?_ <;> intro hc <;> (try rw [List.length_nil] at hc) <;> first | (exfalso; omega) | (exact absurd rfl hc) | conv => whnf) | (refine callK_of (clonePs (ps := g.edges[i].props) (ho (by omega)).2.1 (ho (by omega)).1 (fun p hp => ((ho (by omega)).2.2 p hp).1) (fun p hp => ((ho (by omega)).2.2 p hp).2)) ?_; rintro _ rfl; conv => whnf) | (refine bcase_intro ?_ ?_ <;> intro hc <;> conv => whnf))
  · rw [edgeR, find_at (by omega) hx (decide_eq_true hc)]; rfl
  · exact again.mk ⟨_, by omega, i + 1, _, rfl, take_no (by omega) hx (decide_eq_false hc), rfl, rfl⟩
  · rw [take_all hc] at hx
    rw [edgeR, find_no hx]; rfl

end AI
end Go.Proofs.YtkknpgebiihkfaaGreatDoor
