/- The reference looks up nodes and edges. The reference looks up nodes and edges; strings and properties compared with themselves. -/
import Derived.Test.YtnfdpfeeenmffaaGreatDoorMT
import Derived.Test.YtnfdpfeeenmffaaGreatDoorMZ
import Derived.Test.YtnfdpfeeenmffaaGreatDoorMH
set_option linter.unusedVariables false
set_option maxRecDepth 4000
namespace Go.Proofs.YtnfdpfeeenmffaaGreatDoor
namespace AI

def N0 : GN := ⟨0, false, [], false, []⟩
def E0 : GE := ⟨0, 0, 0, [], false, []⟩
def isN (id : Int) (n : GN) : Bool := decide (n.id = id)
def isE (id : Int) (n : GE) : Bool := decide (n.id = id)
def nodeR (l : List GN) (id : Int) : AV := match l.find? (isN id) with
  | some n => .tup [n.av, .bool true]
  | none => .tup [N0.av, .bool false]
def edgeR (l : List GE) (id : Int) : AV := match l.find? (isE id) with
  | some n => .tup [n.av, .bool true]
  | none => .tup [E0.av, .bool false]

theorem nodeB {g : GG} (hl : g.nodes.length < 2^63) {id : Int} : PureP (findFn tab) 33 [g.av, .int .i64 id] (· = nodeR g.nodes id) := by
  refine pureP_of rfl rfl ?_
  (conv => whnf); repeat' (first | ((with_reducible first | apply kN | apply kW | apply kX | apply kG | apply kQ); (· exact sd); conv => whnf) | (refine pcase.mk ?_ ?_ <;> intro hc <;> (try rw [List.length_nil] at hc) <;> first | (exfalso; omega) | (exact absurd rfl hc) | conv => whnf)  | (refine bcase_intro ?_ ?_ <;> intro hc <;> conv => whnf))
  refine loop_inv (fun m env s => ∃ i : Nat, m = g.nodes.length - i ∧ (∀ x ∈ g.nodes.take i, isN id x = false) ∧ env = [(1, .int .i64 id), (2, .ref 0 0 0 0), (4, .ref 1 1 0 0), (6, .int .i64 i)] ∧ s = ⟨[.arr 0 4 true true [g.av], .arr 1 3 true true [.agg [.int .i64 0, .sl false [], .sl false []]]], 2⟩) ?_ _ _ _ ⟨0, rfl, by simp, rfl, rfl⟩
  rintro _ _ _ ⟨i, rfl, hx, rfl, rfl⟩
  refine ⟨rfl, ?_⟩
  (conv => whnf); repeat' (first | ((with_reducible first | apply kN | apply kW | apply kX | apply kG | apply kQ); (· exact sd); conv => whnf) | (refine pcase.mk ?_ ?_ <;> intro hc <;> (try rw [List.length_nil] at hc) <;> first | (exfalso; omega) | (exact absurd rfl hc) | conv => whnf)  | (refine bcase_intro ?_ ?_ <;> intro hc <;> conv => whnf))
  · rw [nodeR, find_at (by omega) hx (decide_eq_true hc)]; rfl
  · exact again.mk ⟨_, by omega, i + 1, rfl, take_no (by omega) hx (decide_eq_false hc), rfl, rfl⟩
  · rw [take_all hc] at hx
    rw [nodeR, find_no hx]; rfl

theorem edgeB {g : GG} (hl : g.edges.length < 2^63) {id : Int} : PureP (findFn tab) 34 [g.av, .int .i64 id] (· = edgeR g.edges id) := by
  refine pureP_of rfl rfl ?_
  (conv => whnf); repeat' (first | ((with_reducible first | apply kN | apply kW | apply kX | apply kG | apply kQ); (· exact sd); conv => whnf) | (refine pcase.mk ?_ ?_ <;> intro hc <;> (try rw [List.length_nil] at hc) <;> first | (exfalso; omega) | (exact absurd rfl hc) | conv => whnf)  | (refine bcase_intro ?_ ?_ <;> intro hc <;> conv => whnf))
  refine loop_inv (fun m env s => ∃ i : Nat, m = g.edges.length - i ∧ (∀ x ∈ g.edges.take i, isE id x = false) ∧ env = [(1, .int .i64 id), (2, .ref 0 0 0 0), (4, .ref 1 1 0 0), (6, .int .i64 i)] ∧ s = ⟨[.arr 0 4 true true [g.av], .arr 1 5 true true [.agg [.int .i64 0, .int .i64 0, .int .i64 0, .str [], .sl false []]]], 2⟩) ?_ _ _ _ ⟨0, rfl, by simp, rfl, rfl⟩
  rintro _ _ _ ⟨i, rfl, hx, rfl, rfl⟩
  refine ⟨rfl, ?_⟩
  (conv => whnf); repeat' (first | ((with_reducible first | apply kN | apply kW | apply kX | apply kG | apply kQ); (· exact sd); conv => whnf) | (refine pcase.mk ?_ ?_ <;> intro hc <;> (try rw [List.length_nil] at hc) <;> first | (exfalso; omega) | (exact absurd rfl hc) | conv => whnf)  | (refine bcase_intro ?_ ?_ <;> intro hc <;> conv => whnf))
  · rw [edgeR, find_at (by omega) hx (decide_eq_true hc)]; rfl
  · exact again.mk ⟨_, by omega, i + 1, rfl, take_no (by omega) hx (decide_eq_false hc), rfl, rfl⟩
  · rw [take_all hc] at hx
    rw [edgeR, find_no hx]; rfl


end AI
end Go.Proofs.YtnfdpfeeenmffaaGreatDoor
set_option linter.unusedVariables false
namespace Go.Proofs.YtnfdpfeeenmffaaGreatDoor
namespace AI

theorem sameStrs0 {l : List (List UInt8)} {nn : Bool} (hl : l.length < 2^63) : PureP (findFn tab) 82 [.sl nn (vs .str l), .sl nn (vs .str l)] (· = .bool (decide True)) := by
  refine pureP_of rfl rfl ?_
  (conv => whnf); repeat' (first | ((with_reducible first | apply kN | apply kW | apply kX | apply kG | apply kQ); (· exact sd); conv => whnf) | (refine pcase.mk ?_ ?_ <;> intro hc <;> (try rw [List.length_nil] at hc) <;> first | (exfalso; omega) | (exact absurd rfl hc) | conv => whnf)  | (refine bcase_intro ?_ ?_ <;> intro hc <;> conv => whnf))
  refine loop_inv (fun m env s => ∃ i : Nat, m = l.length - i ∧ env = [(0, .sl nn (vs .str l)), (1, .sl nn (vs .str l)), (5, .int .i64 i)] ∧ s = ⟨[], 0⟩) ?_ _ _ _ ⟨0, rfl, rfl, rfl⟩
  rintro _ _ _ ⟨i, rfl, rfl, rfl⟩
  refine ⟨rfl, ?_⟩
  (conv => whnf); repeat' (first | ((with_reducible first | apply kN | apply kW | apply kX | apply kG | apply kQ); (· exact sd); conv => whnf) | (refine pcase.mk ?_ ?_ <;> intro hc <;> (try rw [List.length_nil] at hc) <;> first | (exfalso; omega) | (exact absurd rfl hc) | conv => whnf)  | (refine bcase_intro ?_ ?_ <;> intro hc <;> conv => whnf))
  all_goals first | rfl | exact again.mk ⟨_, by omega, i + 1, rfl, rfl, rfl⟩


theorem sameProps0 {ps : List GP} {nn : Bool} (h : GoodP ps) : PureP (findFn tab) 83 [.sl nn (vs GP.av ps), .sl nn (vs GP.av ps)] (· = .bool (decide True)) := by
  obtain ⟨hl, hp⟩ := h
  refine pureP_of rfl rfl ?_
  (conv => whnf); repeat' (first | ((with_reducible first | apply kN | apply kW | apply kX | apply kG | apply kQ); (· exact sd); conv => whnf) | (refine pcase.mk ?_ ?_ <;> intro hc <;> (try rw [List.length_nil] at hc) <;> first | (exfalso; omega) | (exact absurd rfl hc) | conv => whnf)  | (refine bcase_intro ?_ ?_ <;> intro hc <;> conv => whnf))
  refine loop_inv (fun m env s => ∃ i : Nat, m = ps.length - i ∧ env = [(0, .sl nn (vs GP.av ps)), (1, .sl nn (vs GP.av ps)), (5, .int .i64 i)] ∧ s = ⟨[], 0⟩) ?_ _ _ _ ⟨0, rfl, rfl, rfl⟩
  rintro _ _ _ ⟨i, rfl, rfl, rfl⟩
  refine ⟨rfl, ?_⟩
  have ho : ∀ h : i < ps.length, (ps[i]).v.ok ∧ Lite 12 (ps[i]).v.av := fun h => ⟨(hp _ (List.getElem_mem h)).1.2, (hp _ (List.getElem_mem h)).2⟩
  (conv => whnf); repeat' (first | ((with_reducible first | apply kN | apply kW | apply kX | apply kG | apply kQ); (· exact sd); conv => whnf) | (refine pcase.mk ?_ ?_ <;> intro hc <;> (try rw [List.length_nil] at hc) <;> first | (exfalso; omega) | (exact absurd rfl hc) | conv => whnf) | (refine callK_of (order0V 12 (g := ps[i].v) (ho (by omega)).1 (ho (by omega)).2) ?_; rintro _ rfl; conv => whnf) | (refine bcase_intro ?_ ?_ <;> intro hc <;> conv => whnf))
  all_goals first | rfl | exact again.mk ⟨_, by omega, i + 1, rfl, rfl, rfl⟩

def GoodN (n : GN) : Prop := n.labels.length ≤ 2000 ∧ (n.ln = false → n.labels = []) ∧ (n.pn = false → n.props = []) ∧ GoodP n.props
def GoodE (e : GE) : Prop := (e.pn = false → e.props = []) ∧ GoodP e.props

end AI
end Go.Proofs.YtnfdpfeeenmffaaGreatDoor
