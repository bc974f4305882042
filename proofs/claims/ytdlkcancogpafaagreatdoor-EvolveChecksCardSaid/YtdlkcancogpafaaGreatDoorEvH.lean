/- Is the new name of a migration in use. -/
import Derived.Test.YtdlkcancogpafaaGreatDoorEX3
import Derived.Test.YtdlkcancogpafaaGreatDoorGc1p
import Derived.Test.YtdlkcancogpafaaGreatDoorEX2
set_option linter.unusedVariables false
set_option maxRecDepth 4000
namespace Go.Proofs.YtdlkcancogpafaaGreatDoor
namespace AI

/-- a small and valid graph -/
def Fair (g : GG) : Prop := g.ok ∧ g.nodes.length ≤ 2000 ∧ g.edges.length ≤ 4000 ∧ (∀ n ∈ g.nodes, n.labels.length ≤ 2000 ∧ FairP n.props) ∧ ∀ e ∈ g.edges, FairP e.props
def tk3 (n : GN) (m : GM) : Prop := m.label ∈ n.labels ∧ hasK n.props m.fr ∧ hasK n.props m.to
instance (n : GN) (m : GM) : Decidable (tk3 n m) := by unfold tk3; infer_instance
def tkN (n : GN) (m : GM) : Prop := (m.k = 1 ∧ m.to ∈ n.labels) ∨ (m.k = 3 ∧ tk3 n m)
instance (n : GN) (m : GM) : Decidable (tkN n m) := by unfold tkN; infer_instance
def takenM (g : GG) (m : GM) : Prop := (∃ n ∈ g.nodes, tkN n m) ∨ ∃ e ∈ g.edges, m.k = 2 ∧ e.ty = m.to
instance (g : GG) (m : GM) : Decidable (takenM g m) := by unfold takenM; infer_instance
theorem taken_1 {g : GG} {m : GM} (h : m.k = 1) : takenM g m ↔ ∃ n ∈ g.nodes, m.to ∈ n.labels := by unfold takenM tkN; simp [h]
theorem taken_2 {g : GG} {m : GM} (h : m.k = 2) : takenM g m ↔ ∃ e ∈ g.edges, e.ty = m.to := by unfold takenM tkN; simp [h]
theorem taken_3 {g : GG} {m : GM} (h : m.k = 3) : takenM g m ↔ ∃ n ∈ g.nodes, tk3 n m := by unfold takenM tkN; simp [h]
theorem taken_n {g : GG} {m : GM} (h1 : m.k ≠ 1) (h2 : m.k ≠ 2) (h3 : m.k ≠ 3) : ¬ takenM g m := by unfold takenM tkN; simp [h1, h2, h3]
theorem mem_labelsOf {N : List GN} {x : List UInt8} : x ∈ labelsOf N ↔ ∃ n ∈ N, x ∈ n.labels := List.mem_flatMap
theorem mem_typesOf {E : List GE} {x : List UInt8} : x ∈ typesOf E ↔ ∃ e ∈ E, e.ty = x := List.mem_map
theorem labelsOf_len {N : List GN} (h : ∀ n ∈ N, n.labels.length ≤ 2000) : (labelsOf N).length ≤ 2000 * N.length := by
  induction N with
  | nil => simp [labelsOf]
  | cons n N ih =>
    have h1 := ih fun x hx => h x (by simp [hx])
    have h2 := h n (by simp)
    have : labelsOf (n :: N) = n.labels ++ labelsOf N := rfl
    rw [this, List.length_append, List.length_cons]; omega

theorem snap_fnM {σ : List Obj} {n f o g i off es : Nat} {nn : Bool} {elems : List AV} {x : AV} (h1 : nth σ o = some (.arr g es nn true elems)) (h2 : nth elems i = some x) : snap σ (n + 3) (.fn f [.ref o g i off]) = some (.fn f [.fref (x.cells.drop off)]) := by
  simp [snap, snapL, h1, h2]

theorem tkn1 {n : GN} {m : GM} (hl : n.labels.length < 2^63) (hp : FairP n.props) : PureP (findFn tab) 79 [n.av, .fref m.av.cells] (· = .bool (decide (tk3 n m))) := by
  refine pureP_of rfl rfl ?_
  (conv => whnf); repeat' (first | (refine callB (hasLabel1 (n := n) (s := m.label) hl) (fun hb => ?_) (fun hb => ?_) <;> conv => whnf) | (refine callB (hasEv (nn := n.pn) hp (k := m.fr)) (fun hd => ?_) (fun hd => ?_) <;> conv => whnf) | (refine callB (hasEv (nn := n.pn) hp (k := m.to)) (fun he => ?_) (fun he => ?_) <;> conv => whnf) | ((with_reducible first | apply kN | apply kW | apply kX | apply kG | apply kQ); (· exact sd); conv => whnf) | (refine pcase.mk ?_ ?_ <;> intro hc <;> (try rw [List.length_nil] at hc) <;> first | (exfalso; omega) | (exact absurd rfl hc) | conv => whnf) | (refine bcase_intro ?_ ?_ <;> intro hc <;> conv => whnf))
  all_goals first | exact bool_t ⟨hb, hd, he⟩ | exact bool_f (by unfold tk3; grind) | (trace_state; fail "tkn1")

theorem idxN {N : List GN} {nn : Bool} {m : GM} (hN : N.length < 2^63) (h : ∀ n ∈ N, n.labels.length ≤ 2000 ∧ FairP n.props) : PureP (findFn tab) 125 [.sl nn (vs GN.av N), .fn 79 [.fref m.av.cells]] (fun v => ∃ z, v = .int .i64 z ∧ (0 ≤ z ↔ ∃ n ∈ N, tk3 n m)) := by
  refine pureP_of rfl rfl ?_
  (conv => whnf); repeat' (first  | ((with_reducible first | apply kN | apply kW | apply kX | apply kG | apply kQ); (· exact sd); conv => whnf) | (refine pcase.mk ?_ ?_ <;> intro hc <;> (try rw [List.length_nil] at hc) <;> first | (exfalso; omega) | (exact absurd rfl hc) | conv => whnf) | (refine bcase_intro ?_ ?_ <;> intro hc <;> conv => whnf))
  refine loop_inv (fun y env s => ∃ i : Nat, y = N.length - i ∧ (∀ x ∈ N.take i, ¬ tk3 x m) ∧ env = [(0, .sl nn (vs GN.av N)), (1, .fn 79 [.fref m.av.cells]), (7, .int .i64 N.length), (8, .int .i64 i)] ∧ s = ⟨[], 0⟩) ?_ _ _ _ ⟨0, rfl, by simp, by rw [← lV (f := GN.av) N]; rfl, rfl⟩
  rintro _ _ _ ⟨i, rfl, hx, rfl, rfl⟩
  refine ⟨rfl, ?_⟩
  by_cases hlt : i < N.length
  · have hn := h _ (List.getElem_mem hlt)
    (conv => whnf); repeat' (first | (refine callB (tkn1 (n := N[i]) (m := m) (by have := hn.1; omega) hn.2) (fun hb => ?_) (fun hb => ?_) <;> conv => whnf) | ((with_reducible first | apply kN | apply kW | apply kX | apply kG | apply kQ); (· exact sd); conv => whnf) | (refine pcase.mk ?_ ?_ <;> intro hc <;> (try rw [List.length_nil] at hc) <;> first | (exfalso; omega) | (exact absurd rfl hc) | conv => whnf) | (refine bcase_intro ?_ ?_ <;> intro hc <;> conv => whnf))
    all_goals first
      | exact again.mk ⟨_, by omega, i + 1, rfl, all_take_succ hlt hx hb, rfl, rfl⟩
      | exact ⟨_, rfl, fun _ => ⟨_, List.getElem_mem hlt, hb⟩, fun _ => by omega⟩
      | (trace_state; fail "idxN")
  · rw [List.take_of_length_le (by omega)] at hx
    (conv => whnf); repeat' (first  | ((with_reducible first | apply kN | apply kW | apply kX | apply kG | apply kQ); (· exact sd); conv => whnf) | (refine pcase.mk ?_ ?_ <;> intro hc <;> (try rw [List.length_nil] at hc) <;> first | (exfalso; omega) | (exact absurd rfl hc) | conv => whnf) | (refine bcase_intro ?_ ?_ <;> intro hc <;> conv => whnf))
    all_goals first | exact ⟨_, rfl, fun h => absurd h (by decide), fun ⟨n, h1, h2⟩ => absurd h2 (hx n h1)⟩ | (trace_state; fail "idxN2")

theorem contN {N : List GN} {nn : Bool} {m : GM} (hN : N.length < 2^63) (h : ∀ n ∈ N, n.labels.length ≤ 2000 ∧ FairP n.props) : PureP (findFn tab) 78 [.sl nn (vs GN.av N), .fn 79 [.fref m.av.cells]] (· = .bool (decide (∃ n ∈ N, tk3 n m))) := by
  refine pureP_of rfl rfl ?_
  (conv => whnf); repeat' (first | (refine callK_of (idxN (m := m) hN h) ?_; rintro _ ⟨z, rfl, hz⟩; conv => whnf) | ((with_reducible first | apply kN | apply kW | apply kX | apply kG | apply kQ); (· exact sd); conv => whnf) | (refine pcase.mk ?_ ?_ <;> intro hc <;> (try rw [List.length_nil] at hc) <;> first | (exfalso; omega) | (exact absurd rfl hc) | conv => whnf) | (refine bcase_intro ?_ ?_ <;> intro hc <;> conv => whnf))
  all_goals first | exact bool_t (hz.1 hc) | exact bool_f (mt hz.2 hc) | exact bool_t (hz.1 (by omega)) | exact bool_f (mt hz.2 (by omega)) | (trace_state; fail "contN")

theorem takenP {g : GG} {m : GM} (hf : Fair g) : PureP (findFn tab) 34 [g.av, m.av] (· = .bool (decide (takenM g m))) := by
  have hN := hf.2.1
  have hE := hf.2.2.1
  obtain ⟨_, ⟨n1, R1, rfl, i1, m1⟩, p1⟩ := (labelsP hf.1 hN fun n hn => (hf.2.2.2.1 n hn).1).det
  obtain ⟨_, ⟨n2, R2, rfl, i2, m2⟩, p2⟩ := (typesP hf.1 hE).det
  have l1 := inc_len i1 m1
  have l1' := labelsOf_len fun n hn => (hf.2.2.2.1 n hn).1
  have l2 := inc_len i2 m2
  have l2' : (typesOf g.edges).length = g.edges.length := by simp [typesOf]
  refine pureP_of rfl rfl ?_
  (conv => whnf); repeat' (first | (refine callK_of p1 ?_; rintro _ rfl; conv => whnf) | (refine callK_of p2 ?_; rintro _ rfl; conv => whnf) | (refine callB (contS (l := R1) (x := m.to) (by omega)) (fun ha => ?_) (fun ha => ?_) <;> conv => whnf) | (refine callB (contS (l := R2) (x := m.to) (by omega)) (fun hb => ?_) (fun hb => ?_) <;> conv => whnf) | (apply getK_intro; (· exact snap_fnM (n := 35) rfl rfl); conv => whnf) | (refine callB (contN (N := g.nodes) (nn := g.nn) (m := m) (by omega) hf.2.2.2.1) (fun hd => ?_) (fun hd => ?_) <;> conv => whnf) | ((with_reducible first | apply kN | apply kW | apply kX | apply kG | apply kQ); (· exact sd); conv => whnf) | (refine pcase.mk ?_ ?_ <;> intro hc <;> (try rw [List.length_nil] at hc) <;> first | (exfalso; omega) | (exact absurd rfl hc) | conv => whnf) | (refine bcase_intro ?_ ?_ <;> intro hc <;> conv => whnf))
  all_goals first
    | exact bool_t ((taken_1 (by assumption)).2 (mem_labelsOf.1 ((m1 _).1 ha)))
    | exact bool_f fun h => ha ((m1 _).2 (mem_labelsOf.2 ((taken_1 (by assumption)).1 h)))
    | exact bool_t ((taken_2 (by assumption)).2 (mem_typesOf.1 ((m2 _).1 hb)))
    | exact bool_f fun h => hb ((m2 _).2 (mem_typesOf.2 ((taken_2 (by assumption)).1 h)))
    | exact bool_t ((taken_3 (by assumption)).2 hd)
    | exact bool_f fun h => hd ((taken_3 (by assumption)).1 h)
    | exact bool_f (taken_n (by assumption) (by assumption) (by assumption))
    | (trace_state; fail "takenP")

set_option maxHeartbeats 2000000 in
theorem takenR {g : GG} {m : GM} (hf : Fair g) : PureP (findFn tab) 38 [g.av, m.av] (· = .bool (decide (takenM g m))) := by
  have hN := hf.2.1
  have hE := hf.2.2.1
  refine pureP_of rfl rfl ?_
  (conv => whnf); repeat' (first  | ((with_reducible first | apply kN | apply kW | apply kX | apply kG | apply kQ); (· exact sd); conv => whnf) | (refine pcase.mk ?_ ?_ <;> intro hc <;> (try rw [List.length_nil] at hc) <;> first | (exfalso; omega) | (exact absurd rfl hc) | conv => whnf) | (refine bcase_intro ?_ ?_ <;> intro hc <;> conv => whnf))
  refine loop_inv (fun z env s => ∃ i c : Nat, z = g.nodes.length - i ∧ env = [(2, .ref 0 0 0 0), (3, .ref 1 1 0 0), (5, .int .i64 i)] ∧ s = ⟨[.arr 0 4 true true [g.av], .arr 1 15 true true [m.av]], c⟩ ∧ ∀ n ∈ g.nodes.take i, ¬ tkN n m) ?_ _ _ _ ⟨0, _, rfl, rfl, rfl, by simp⟩
  rintro _ _ _ ⟨i, c, rfl, rfl, rfl, hx⟩
  refine ⟨rfl, ?_⟩
  by_cases hlt : i < g.nodes.length
  · have hn := hf.2.2.2.1 _ (List.getElem_mem hlt)
    have hl : (g.nodes[i]).labels.length < 2^63 := by have := hn.1; omega
    (conv => whnf); repeat' (first | (refine callB (hasLabel2 (n := g.nodes[i]) (s := m.to) hl) (fun ha => ?_) (fun ha => ?_) <;> conv => whnf) | (refine callB (hasLabel2 (n := g.nodes[i]) (s := m.label) hl) (fun hb => ?_) (fun hb => ?_) <;> conv => whnf) | (refine callB (hasRf (n := g.nodes[i]) hn.2.len (k := m.fr)) (fun hd => ?_) (fun hd => ?_) <;> conv => whnf) | (refine callB (hasRf (n := g.nodes[i]) hn.2.len (k := m.to)) (fun he => ?_) (fun he => ?_) <;> conv => whnf) | ((with_reducible first | apply kN | apply kW | apply kX | apply kG | apply kQ); (· exact sd); conv => whnf) | (refine pcase.mk ?_ ?_ <;> intro hc <;> (try rw [List.length_nil] at hc) <;> first | (exfalso; omega) | (exact absurd rfl hc) | conv => whnf) | (refine bcase_intro ?_ ?_ <;> intro hc <;> conv => whnf))
    all_goals first
      | exact again.mk ⟨_, by omega, i + 1, _, rfl, rfl, rfl, all_take_succ hlt hx (by unfold tkN tk3; grind)⟩
      | exact bool_t (.inl ⟨_, List.getElem_mem hlt, by unfold tkN tk3; grind⟩)
      | (exfalso; omega)
      | (trace_state; fail "takenR")
  · rw [List.take_of_length_le (by omega)] at hx
    (conv => whnf); repeat' (first  | ((with_reducible first | apply kN | apply kW | apply kX | apply kG | apply kQ); (· exact sd); conv => whnf) | (refine pcase.mk ?_ ?_ <;> intro hc <;> (try rw [List.length_nil] at hc) <;> first | (exfalso; omega) | (exact absurd rfl hc) | conv => whnf) | (refine bcase_intro ?_ ?_ <;> intro hc <;> conv => whnf))
    refine loop_inv (fun z env s => ∃ i c : Nat, z = g.edges.length - i ∧ env = [(2, .ref 0 0 0 0), (3, .ref 1 1 0 0), (7, .int .i64 i)] ∧ s = ⟨[.arr 0 4 true true [g.av], .arr 1 15 true true [m.av]], c⟩ ∧ ∀ e ∈ g.edges.take i, ¬ (m.k = 2 ∧ e.ty = m.to)) ?_ _ _ _ ⟨0, _, rfl, rfl, rfl, by simp⟩
    rintro _ _ _ ⟨i, c, rfl, rfl, rfl, hy⟩
    refine ⟨rfl, ?_⟩
    by_cases hlt : i < g.edges.length
    · (conv => whnf); repeat' (first  | ((with_reducible first | apply kN | apply kW | apply kX | apply kG | apply kQ); (· exact sd); conv => whnf) | (refine pcase.mk ?_ ?_ <;> intro hc <;> (try rw [List.length_nil] at hc) <;> first | (exfalso; omega) | (exact absurd rfl hc) | conv => whnf) | (refine bcase_intro ?_ ?_ <;> intro hc <;> conv => whnf))
      all_goals first
        | exact again.mk ⟨_, by omega, i + 1, _, rfl, rfl, rfl, all_take_succ hlt hy (by grind)⟩
        | exact bool_t (.inr ⟨_, List.getElem_mem hlt, by grind⟩)
        | (trace_state; fail "takenR2")
    · rw [List.take_of_length_le (by omega)] at hy
      (conv => whnf); repeat' (first  | ((with_reducible first | apply kN | apply kW | apply kX | apply kG | apply kQ); (· exact sd); conv => whnf) | (refine pcase.mk ?_ ?_ <;> intro hc <;> (try rw [List.length_nil] at hc) <;> first | (exfalso; omega) | (exact absurd rfl hc) | conv => whnf) | (refine bcase_intro ?_ ?_ <;> intro hc <;> conv => whnf))
      all_goals first
        | exact bool_f (fun h => h.elim (fun ⟨n, h1, h2⟩ => hx n h1 h2) fun ⟨e, h1, h2⟩ => hy e h1 h2)
        | (trace_state; fail "takenR3")

end AI
end Go.Proofs.YtdlkcancogpafaaGreatDoor
