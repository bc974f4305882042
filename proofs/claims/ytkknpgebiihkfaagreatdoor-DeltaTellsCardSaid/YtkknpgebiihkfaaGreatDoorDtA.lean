/- What a change leaves alone: plain. Changes as arguments. -/
import Derived.Test.YtkknpgebiihkfaaGreatDoorMT
set_option linter.unusedVariables false
set_option maxRecDepth 4000
namespace Go.Proofs.YtkknpgebiihkfaaGreatDoor
namespace AI

/-- a change -/
structure GC where
  op : Int
  id : Int
  fr : Int
  to : Int
  name : List UInt8
  v : GV
def GC.av (c : GC) : AV := .agg [.int .i64 c.op, .int .i64 c.id, .int .i64 c.fr, .int .i64 c.to, .str c.name, .int .i64 c.v.k, .int .i64 c.v.n, .int .i64 c.v.d, .str c.v.s, .sl c.v.nn c.v.l]
def GC.ok (c : GC) : Prop := I64 c.op ∧ I64 c.id ∧ I64 c.fr ∧ I64 c.to ∧ Ln c.name ∧ c.v.ok

/-- the nodes that are not among those -/
def keepN (ns : List Int) (N : List GN) : List GN := N.filter fun n => decide (n.id ∉ ns)
def keepE (es : List Int) (E : List GE) : List GE := E.filter fun e => decide (e.id ∉ es)

theorem keepN_app {ns : List Int} {A B : List GN} : keepN ns (A ++ B) = keepN ns A ++ keepN ns B := List.filter_append ..
theorem keepE_app {ns : List Int} {A B : List GE} : keepE ns (A ++ B) = keepE ns A ++ keepE ns B := List.filter_append ..
theorem keepN_in {ns : List Int} {n : GN} (h : n.id ∈ ns) : keepN ns [n] = [] := by simp [keepN, h]
theorem keepE_in {ns : List Int} {n : GE} (h : n.id ∈ ns) : keepE ns [n] = [] := by simp [keepE, h]
theorem keepN_succ {ns : List Int} {N : List GN} {i : Nat} (h : i < N.length) : keepN ns (N.take (i + 1)) = keepN ns (N.take i) ++ keepN ns [N[i]] := by
  rw [List.take_succ_eq_append_getElem h, keepN_app]
theorem keepE_succ {ns : List Int} {N : List GE} {i : Nat} (h : i < N.length) : keepE ns (N.take (i + 1)) = keepE ns (N.take i) ++ keepE ns [N[i]] := by
  rw [List.take_succ_eq_append_getElem h, keepE_app]
/-- one more that is not kept -/
theorem keepN_no {ns : List Int} {L N : List GN} {n : GN} (h : keepN ns L = keepN ns N) (hn : n.id ∈ ns) : keepN ns (L ++ [n]) = keepN ns N := by
  rw [keepN_app, keepN_in hn, List.append_nil, h]
theorem keepE_no {ns : List Int} {L N : List GE} {n : GE} (h : keepE ns L = keepE ns N) (hn : n.id ∈ ns) : keepE ns (L ++ [n]) = keepE ns N := by
  rw [keepE_app, keepE_in hn, List.append_nil, h]
/-- one more of the old ones -/
theorem keepN_yes {ns : List Int} {L N : List GN} {i : Nat} (hi : i < N.length) (h : keepN ns L = keepN ns (N.take i)) : keepN ns (L ++ [N[i]]) = keepN ns (N.take (i + 1)) := by
  rw [keepN_app, keepN_succ hi, h]
theorem keepE_yes {ns : List Int} {L N : List GE} {i : Nat} (hi : i < N.length) (h : keepE ns L = keepE ns (N.take i)) : keepE ns (L ++ [N[i]]) = keepE ns (N.take (i + 1)) := by
  rw [keepE_app, keepE_succ hi, h]
/-- one of the old ones is left out -/
theorem keepN_out {ns : List Int} {L N : List GN} {i : Nat} (hi : i < N.length) (h : keepN ns L = keepN ns (N.take i)) (hn : (N[i]).id ∈ ns) : keepN ns L = keepN ns (N.take (i + 1)) := by
  rw [keepN_succ hi, keepN_in hn, List.append_nil, h]
theorem keepE_out {ns : List Int} {L N : List GE} {i : Nat} (hi : i < N.length) (h : keepE ns L = keepE ns (N.take i)) (hn : (N[i]).id ∈ ns) : keepE ns L = keepE ns (N.take (i + 1)) := by
  rw [keepE_succ hi, keepE_in hn, List.append_nil, h]

theorem cellsN : ∀ n : GN, n.av.cells.length = 3 := fun _ => rfl
theorem cellsE : ∀ n : GE, n.av.cells.length = 5 := fun _ => rfl
theorem cellsP : ∀ n : GP, n.av.cells.length = 6 := fun _ => rfl

/-- few labels and properties -/
def FewN (n : GN) : Prop := n.ok ∧ n.labels.length ≤ 2000 ∧ n.props.length ≤ 2000
def FewE (n : GE) : Prop := n.ok ∧ n.props.length ≤ 2000
/-- few of all -/
def FewG (a b : Nat) (g : GG) : Prop := g.ok ∧ g.nodes.length ≤ a ∧ g.edges.length ≤ b ∧ (∀ n ∈ g.nodes, FewN n) ∧ ∀ e ∈ g.edges, FewE e

/-- what holds between a graph and the next -/
def Spares (ns es : List Int) (g h : GG) : Prop := keepN ns h.nodes = keepN ns g.nodes ∧ keepE es h.edges = keepE es g.edges
theorem Spares.refl (ns es : List Int) (g : GG) : Spares ns es g g := ⟨rfl, rfl⟩
theorem Spares.trans {ns es : List Int} {g h k : GG} (h1 : Spares ns es g h) (h2 : Spares ns es h k) : Spares ns es g k := ⟨h2.1.trans h1.1, h2.2.trans h1.2⟩

end AI
end Go.Proofs.YtkknpgebiihkfaaGreatDoor
