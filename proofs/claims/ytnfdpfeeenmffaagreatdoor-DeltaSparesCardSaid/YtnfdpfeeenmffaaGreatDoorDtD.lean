/- One change of the reference: what it leaves alone. -/
import Derived.Test.YtnfdpfeeenmffaaGreatDoorDtB
import Derived.Test.YtnfdpfeeenmffaaGreatDoorDT1
import Derived.Test.YtnfdpfeeenmffaaGreatDoorDtS
import Derived.Test.YtnfdpfeeenmffaaGreatDoorDT4
import Derived.Test.YtnfdpfeeenmffaaGreatDoorMG
import Derived.Test.YtnfdpfeeenmffaaGreatDoorMH
set_option linter.unusedVariables false
set_option maxRecDepth 4000
namespace Go.Proofs.YtnfdpfeeenmffaaGreatDoor
namespace AI

theorem nodeQ (l : List GN) (id : Int) : ∃ (n : GN) (b : Bool), nodeR l id = .tup [n.av, .bool b] ∧ (b = true → n.id = id ∧ n ∈ l) := by
  unfold nodeR
  cases h : l.find? (isN id) with
  | none => exact ⟨N0, false, rfl, fun h => Bool.noConfusion h⟩
  | some n => exact ⟨n, true, rfl, fun _ => ⟨by have h2 := List.find?_some h; exact of_decide_eq_true h2, List.mem_of_find?_eq_some h⟩⟩
theorem edgeQ (l : List GE) (id : Int) : ∃ (n : GE) (b : Bool), edgeR l id = .tup [n.av, .bool b] ∧ (b = true → n.id = id ∧ n ∈ l) := by
  unfold edgeR
  cases h : l.find? (isE id) with
  | none => exact ⟨E0, false, rfl, fun h => Bool.noConfusion h⟩
  | some n => exact ⟨n, true, rfl, fun _ => ⟨by have h2 := List.find?_some h; exact of_decide_eq_true h2, List.mem_of_find?_eq_some h⟩⟩

theorem idR {n : Int} : PureP (findFn tab) 61 [.int .i64 n] (· = .bool (decide (1 ≤ n ∧ n ≤ 1000000))) := by
  refine pureP_of rfl rfl ?_
  (conv => whnf); repeat' (first  | ((with_reducible first | apply kN | apply kW | apply kX | apply kG | apply kQ); (· exact sd); conv => whnf) | (refine pcase.mk ?_ ?_ <;> intro hc <;> (try rw [List.length_nil] at hc) <;> first | (exfalso; omega) | (exact absurd rfl hc) | conv => whnf) | (refine bcase_intro ?_ ?_ <;> intro hc <;> conv => whnf))
  all_goals first | exact bool_t (by omega) | exact bool_f (by omega)
theorem namedR {n : Int} : PureP (findFn tab) 62 [.int .i64 n] (fun v => ∃ b, v = .bool b) := by
  refine pureP_of rfl rfl ?_
  (conv => whnf); repeat' (first  | ((with_reducible first | apply kN | apply kW | apply kX | apply kG | apply kQ); (· exact sd); conv => whnf) | (refine pcase.mk ?_ ?_ <;> intro hc <;> (try rw [List.length_nil] at hc) <;> first | (exfalso; omega) | (exact absurd rfl hc) | conv => whnf) | (refine bcase_intro ?_ ?_ <;> intro hc <;> conv => whnf))
  all_goals exact ⟨_, rfl⟩
theorem valuedR {n : Int} : PureP (findFn tab) 63 [.int .i64 n] (fun v => ∃ b, v = .bool b) := by
  refine pureP_of rfl rfl ?_
  (conv => whnf); repeat' (first  | ((with_reducible first | apply kN | apply kW | apply kX | apply kG | apply kQ); (· exact sd); conv => whnf) | (refine pcase.mk ?_ ?_ <;> intro hc <;> (try rw [List.length_nil] at hc) <;> first | (exfalso; omega) | (exact absurd rfl hc) | conv => whnf) | (refine bcase_intro ?_ ?_ <;> intro hc <;> conv => whnf))
  all_goals exact ⟨_, rfl⟩

set_option maxHeartbeats 1000000 in
theorem checkC {c : GC} (hc : c.ok) : PureP (findFn tab) 32 [c.av] (fun v => ∃ z, v = .int .i64 z ∧ (z = 0 → 1 ≤ c.op ∧ c.op ≤ 8 ∧ 1 ≤ c.id ∧ c.id ≤ 1000000)) := by
  obtain ⟨c1, c2, c3, c4, c5, c6⟩ := hc
  unfold Ln at c5
  obtain ⟨_, ⟨bn, rfl⟩, hn⟩ := (namedR (n := c.op)).det
  obtain ⟨_, ⟨bv, rfl⟩, hv⟩ := (valuedR (n := c.op)).det
  obtain ⟨b0, h0⟩ : ∃ b0, PureP (findFn tab) 64 [c.v.av] (· = .bool b0) := ⟨_, nullR c6⟩
  cases bn <;> cases bv <;> cases b0
  all_goals
    refine pureP_of rfl rfl ?_
    (conv => whnf); repeat' (first | (refine callK_of hn ?_; rintro _ rfl; conv => whnf) | (refine callK_of hv ?_; rintro _ rfl; conv => whnf) | (refine callK_of h0 ?_; rintro _ rfl; conv => whnf) | (refine callB (idR (n := c.id)) (fun hc => ?_) (fun hc => ?_) <;> conv => whnf) | (refine callB (idR (n := c.fr)) (fun hc => ?_) (fun hc => ?_) <;> conv => whnf) | (refine callB (idR (n := c.to)) (fun hc => ?_) (fun hc => ?_) <;> conv => whnf) | (refine callB (name2 (s := c.name) c5) (fun hc => ?_) (fun hc => ?_) <;> conv => whnf) | (refine callB (plain2 c6) (fun hc => ?_) (fun hc => ?_) <;> conv => whnf) | ((with_reducible first | apply kN | apply kW | apply kX | apply kG | apply kQ); (· exact sd); conv => whnf) | (refine pcase.mk ?_ ?_ <;> intro hc <;> (try rw [List.length_nil] at hc) <;> first | (exfalso; omega) | (exact absurd rfl hc) | conv => whnf) | (refine bcase_intro ?_ ?_ <;> intro hc <;> conv => whnf))
  all_goals first | exact ⟨_, rfl, fun h => absurd h (by decide)⟩ | exact ⟨_, rfl, fun _ => ⟨by omega, by omega, by omega, by omega⟩⟩

/-- the next graph -/
def Next (ns es : List Int) (g h : GG) : Prop := h.ok ∧ h.nodes.length ≤ g.nodes.length + 1 ∧ h.edges.length ≤ g.edges.length + 1 ∧ (∀ n ∈ h.nodes, FewN n) ∧ (∀ e ∈ h.edges, FewE e) ∧ Spares ns es g h
/-- what a step answers -/
def StepR (ns es : List Int) (g : GG) (v : AV) : Prop := ∃ (h : GG) (e : Int), v = .tup [h.av, .int .i64 e] ∧ (e = 0 → Next ns es g h)

theorem next_putN {ns es : List Int} {a b : Nat} {g : GG} {n : GN} {v : AV} (hg : FewG a b g) (ha : a ≤ 3000) (hn : FewN n) (h : PutN ns g n v) : ∃ k : GG, v = k.av ∧ Next ns es g k := by
  obtain ⟨fl, l, z, rfl, h1, h2, h3, h4, h5⟩ := h
  obtain ⟨⟨g1, g2, g3, g4, g5, g6, g7, g8⟩, f2, f3, f4, f5⟩ := hg
  have hN : ∀ x ∈ l, FewN x := fun x hx => by
    rcases h4 x hx with rfl | hx
    · exact hn
    · exact f4 x hx
  exact ⟨_, rfl, ⟨by unfold Ln; dsimp only; omega, h1, fun x hx => (hN x hx).1, g4, g5, g6, h2, g8⟩, h3, Nat.le_succ _, hN, f5, h5, rfl⟩
theorem next_putE {ns es : List Int} {a b : Nat} {g : GG} {n : GE} {v : AV} (hg : FewG a b g) (hb : b ≤ 3000) (hn : FewE n) (h : PutE es g n v) : ∃ k : GG, v = k.av ∧ Next ns es g k := by
  obtain ⟨fl, l, z, rfl, h1, h2, h3, h4, h5⟩ := h
  obtain ⟨⟨g1, g2, g3, g4, g5, g6, g7, g8⟩, f2, f3, f4, f5⟩ := hg
  have hN : ∀ x ∈ l, FewE x := fun x hx => by
    rcases h4 x hx with rfl | hx
    · exact hn
    · exact f5 x hx
  exact ⟨_, rfl, ⟨g1, g2, g3, by unfold Ln; dsimp only; omega, h1, fun x hx => (hN x hx).1, g7, h2⟩, Nat.le_succ _, h3, f4, hN, rfl, h5⟩

theorem few_lab {n : GN} {b1 : Bool} {r1 : List (List UInt8)} {x : List UInt8} (hn : FewN n) (hx : Ln x) (p1 : b1 = false → r1 = []) (p2 : r1.length ≤ 2000) (p3 : ∀ y ∈ r1, y = x ∨ y ∈ n.labels) : FewN ⟨n.id, b1, r1, n.pn, n.props⟩ := by
  obtain ⟨⟨o1, o2, o3, o4, o5, o6, o7⟩, h2, h3⟩ := hn
  refine ⟨⟨o1, by unfold Ln; dsimp only; omega, p1, fun s hs => ?_, o5, o6, o7⟩, p2, h3⟩
  rcases p3 s hs with rfl | h
  · exact hx
  · exact o4 s h
theorem few_props {n : GN} {b1 : Bool} {r1 : List GP} {key : List UInt8} {v : GV} (hn : FewN n) (hk : Ln key) (hv : v.ok) (p1 : b1 = false → r1 = []) (p2 : r1.length ≤ 2000) (p3 : ∀ p ∈ r1, p = ⟨key, v⟩ ∨ p ∈ n.props) : FewN ⟨n.id, n.ln, n.labels, b1, r1⟩ := by
  obtain ⟨⟨o1, o2, o3, o4, o5, o6, o7⟩, h2, h3⟩ := hn
  refine ⟨⟨o1, o2, o3, o4, by unfold Ln; dsimp only; omega, p1, fun s hs => ?_⟩, h2, p2⟩
  rcases p3 s hs with rfl | h
  · exact ⟨hk, hv⟩
  · exact o7 s h
theorem few_propsE {n : GE} {b1 : Bool} {r1 : List GP} {key : List UInt8} {v : GV} (hn : FewE n) (hk : Ln key) (hv : v.ok) (p1 : b1 = false → r1 = []) (p2 : r1.length ≤ 2000) (p3 : ∀ p ∈ r1, p = ⟨key, v⟩ ∨ p ∈ n.props) : FewE ⟨n.id, n.fr, n.to, n.ty, b1, r1⟩ := by
  obtain ⟨⟨o1, o2, o3, o4, o5, o6, o7⟩, h2⟩ := hn
  refine ⟨⟨o1, o2, o3, o4, by unfold Ln; dsimp only; omega, p1, fun s hs => ?_⟩, p2⟩
  rcases p3 s hs with rfl | h
  · exact ⟨hk, hv⟩
  · exact o7 s h

theorem snap_own' {α : Type} {f : α → AV} {L : List α} {σ : List Obj} {n o g es len : Nat} {nn : Bool} (h : nth σ o = some (.arr g es nn true (vs f L))) (hl : len = L.length) : snap σ (n + 1) (.own o g 0 len) = some (.sl nn (vs f L)) := by
  subst hl
  simp only [snap, h]
  rw [if_pos ⟨trivial, by rw [lV]; omega⟩, if_pos trivial, sub_vs, List.drop_zero, List.take_length]
theorem snapL_c' {σ : List Obj} {n : Nat} {v a : AV} {vs b : List AV} (h1 : snap σ n v = some a) (h2 : snapL σ n vs = some b) : snapL σ (n + 1) (v :: vs) = some (a :: b) := by
  rw [snapL, h1, h2]
theorem snap4 {σ : List Obj} {N E : Int} {a b a' b' : AV} (ha : ∀ n, snap σ (n + 1) a = some a') (hb : ∀ n, snap σ (n + 1) b = some b') {m : Nat} :
    snap σ (m + 20) (.agg [a, b, .int .i64 N, .int .i64 E]) = some (.agg [a', b', .int .i64 N, .int .i64 E]) := by
  have hi : ∀ {k : IntKind} {z : Int} {n : Nat}, snap σ (n + 1) (.int k z) = some (.int k z) := by intro k z n; simp only [snap]
  have : snapL σ (m + 19) [a, b, .int .i64 N, .int .i64 E] = some [a', b', .int .i64 N, .int .i64 E] :=
    snapL_c' (n := m + 18) (ha _) (snapL_c' (n := m + 17) (hb _) (snapL_c' (n := m + 16) hi (snapL_c' (n := m + 15) hi (by rw [snapL]))))
  show snap σ (m + 19 + 1) _ = _
  simp only [snap, this, Option.map]

/-- no graph -/
def gz : GG := ⟨false, [], false, [], 0, 0⟩

theorem next_delN {ns es : List Int} {a b : Nat} {g : GG} (hg : FewG a b g) {f : Bool} {l : List GN} (h1 : f = false → l = []) (h2 : l.length ≤ g.nodes.length) (h3 : ∀ x ∈ l, x ∈ g.nodes) (h4 : keepN ns l = keepN ns g.nodes) : Next ns es g ⟨f, l, g.en, g.edges, g.nextN, g.nextE⟩ := by
  obtain ⟨⟨g1, g2, g3, g4, g5, g6, g7, g8⟩, f2, f3, f4, f5⟩ := hg
  unfold Ln at g1
  exact ⟨⟨by unfold Ln; dsimp only; omega, h1, fun x hx => g3 x (h3 x hx), g4, g5, g6, g7, g8⟩, Nat.le_succ_of_le h2, Nat.le_succ _, fun x hx => f4 x (h3 x hx), f5, h4, rfl⟩
theorem next_delE {ns es : List Int} {a b : Nat} {g : GG} (hg : FewG a b g) {f : Bool} {l : List GE} (h1 : f = false → l = []) (h2 : l.length ≤ g.edges.length) (h3 : ∀ x ∈ l, x ∈ g.edges) (h4 : keepE es l = keepE es g.edges) : Next ns es g ⟨g.nn, g.nodes, f, l, g.nextN, g.nextE⟩ := by
  obtain ⟨⟨g1, g2, g3, g4, g5, g6, g7, g8⟩, f2, f3, f4, f5⟩ := hg
  unfold Ln at g4
  exact ⟨⟨g1, g2, g3, by unfold Ln; dsimp only; omega, h1, fun x hx => g6 x (h3 x hx), g7, g8⟩, Nat.le_succ _, Nat.le_succ_of_le h2, f4, fun x hx => f5 x (h3 x hx), rfl, h4⟩

set_option maxHeartbeats 4000000 in
theorem onNodeR {ns es : List Int} {a b : Nat} {g : GG} {c : GC} {n : GN} (hg : FewG a b g) (ha : a ≤ 2900) (hb : b ≤ 2900) (hcc : c.ok) (hn : FewN n) (hid : n.id = c.id) (h1 : 1 ≤ c.id) (h2 : c.id ≤ 1000000) (hm : c.id ∈ ns) :
    PureP (findFn tab) 38 [g.av, c.av, n.av] (StepR ns es g) := by
  have hlab : n.labels.length < 2^63 := by have := hn.2.1; omega
  have hlab2 := hn.2.1
  have hpr := hn.2.2
  have hgN := hg.2.1
  have hgE := hg.2.2.1
  have hused : ∃ bu, PureP (findFn tab) 68 [g.av, .int .i64 c.id] (· = .bool bu) := by
    obtain ⟨_, ⟨nn, W, rfl, hW⟩, hS⟩ := (stepsA (g := g) (id := c.id) (dir := 3) hg.1 (by omega)).det
    refine ⟨decide (0 < W.length), ?_⟩
    refine pureP_of rfl rfl ?_
    (conv => whnf); repeat' (first | (refine callK_of hS ?_; rintro _ rfl; conv => whnf) | ((with_reducible first | apply kN | apply kW | apply kX | apply kG | apply kQ); (· exact sd); conv => whnf) | (refine pcase.mk ?_ ?_ <;> intro hc <;> (try rw [List.length_nil] at hc) <;> first | (exfalso; omega) | (exact absurd rfl hc) | conv => whnf) | (refine bcase_intro ?_ ?_ <;> intro hc <;> conv => whnf))
    all_goals first | exact bool_t (by omega) | exact bool_f (by omega) | rfl | trace_state
  obtain ⟨bu, hused⟩ := hused
  have hcn := hcc.2.2.2.2.1
  refine pureP_of rfl rfl ?_
  (conv => whnf); repeat' (first | (refine callB (hasLabel2 (n := n) (s := c.name) hlab) (fun hc => ?_) (fun hc => ?_) <;> conv => whnf) | (refine callK_of hused ?_; rintro _ rfl; conv => whnf) | (refine callK_of (putStrR (x := c.name) (l := n.labels) (by omega)) ?_; rintro _ ⟨b1, r1, rfl, p1, p2, p3⟩; conv => whnf) | (refine callK_of (withoutR (x := c.name) (l := n.labels) (by omega)) ?_; rintro _ ⟨b1, r1, rfl, p1, p2, p3⟩; conv => whnf) | (refine callK_of (setPropR (P := n.props) (key := c.name) (v := c.v) (by omega) hcc.2.2.2.2.2) ?_; rintro _ ⟨b1, r1, ok, rfl, p1, p2, p3⟩; conv => whnf) | (refine callK_of (putN (ns := ns) (n := ⟨n.id, b1, r1, n.pn, n.props⟩) hg.1 (by omega) (by show 1 ≤ n.id; omega) (by show n.id ≤ 1000000; omega) (by show n.id ∈ ns; rw [hid]; exact hm)) ?_; rintro _ hp; obtain ⟨k1, rfl, hnx⟩ := next_putN (es := es) hg (by omega) (few_lab (x := c.name) hn hcn p1 (by omega) (by first | exact p3 | exact fun y hy => .inr (p3 y hy))) hp; conv => whnf) | (refine callK_of (putN (ns := ns) (n := ⟨n.id, n.ln, n.labels, b1, r1⟩) hg.1 (by omega) (by show 1 ≤ n.id; omega) (by show n.id ≤ 1000000; omega) (by show n.id ∈ ns; rw [hid]; exact hm)) ?_; rintro _ hp; obtain ⟨k1, rfl, hnx⟩ := next_putN (es := es) hg (by omega) (few_props hn hcn hcc.2.2.2.2.2 p1 (by have := p2 (by assumption); omega) p3) hp; conv => whnf) | ((with_reducible first | apply kN | apply kW | apply kX | apply kG | apply kQ); (· exact sd); conv => whnf) | (refine pcase.mk ?_ ?_ <;> intro hc <;> (try rw [List.length_nil] at hc) <;> first | (exfalso; omega) | (exact absurd rfl hc) | conv => whnf) | (refine bcase_intro ?_ ?_ <;> intro hc <;> conv => whnf))
  all_goals first
    | exact ⟨gz, _, rfl, fun h => absurd h (by decide)⟩
    | exact ⟨k1, _, rfl, fun _ => hnx⟩
    | skip
  all_goals
    refine loop_inv (fun m env s => ∃ (i c' go k : Nat) (f : Bool) (l : List GN), m = g.nodes.length - i ∧ i ≤ g.nodes.length ∧ k = l.length ∧ l.length ≤ i ∧ (f = false → l = []) ∧ (∀ x ∈ l, x ∈ g.nodes) ∧ keepN ns l = keepN ns (g.nodes.take i) ∧ env = [(3, .ref 0 0 0 0), (4, .ref 1 1 0 0), (6, .ref 3 3 0 0), (9, .own 4 go 0 k), (10, .int .i64 i)] ∧ s = ⟨[.arr 0 4 true true [g.av], .arr 1 10 true true [c.av], .arr 2 3 true true [n.av], .arr 3 4 true true [.agg [.sl false [], .sl false [], .int .i64 0, .int .i64 0]], .arr go 3 f true (vs GN.av l)], c'⟩) ?_ _ _ _ ⟨0, _, _, 0, _, [], rfl, by omega, rfl, by simp, fun _ => rfl, by simp, rfl, rfl, rfl⟩
    rintro _ _ _ ⟨i, c', go, k, f, l, rfl, hi, hk, hl, hf, hx, hkeep, rfl, rfl⟩
    refine ⟨rfl, ?_⟩
    subst hk
    by_cases hlt : i < g.nodes.length
    · have hNi : g.nodes[i] ∈ g.nodes := List.getElem_mem hlt
      (conv => whnf); repeat' (first | (refine apV1 (x := g.nodes[i]) cellsN rfl (by omega) ?_; conv => whnf) | ((with_reducible first | apply kN | apply kW | apply kX | apply kG | apply kQ); (· exact sd); conv => whnf) | (refine pcase.mk ?_ ?_ <;> intro hc <;> (try rw [List.length_nil] at hc) <;> first | (exfalso; omega) | (exact absurd rfl hc) | conv => whnf) | (refine bcase_intro ?_ ?_ <;> intro hc <;> conv => whnf))
      all_goals first
        | exact again.mk ⟨_, by omega, i + 1, _, _, _, _, l ++ [g.nodes[i]], rfl, by omega, by simp, by simp; omega, fun h => Bool.noConfusion h, fun x hx' => (List.mem_append.1 hx').elim (hx x) (fun h => by rw [List.mem_singleton.1 h]; exact hNi), keepN_yes hlt hkeep, rfl, rfl⟩
        | exact again.mk ⟨_, by omega, i + 1, _, _, _, _, l, rfl, by omega, rfl, by omega, hf, hx, keepN_out hlt hkeep (by rw [show (g.nodes[i]).id = c.id by omega]; exact hm), rfl, rfl⟩
        | trace_state
    · rw [show i = g.nodes.length by omega, List.take_length] at hkeep
      (conv => whnf); repeat' (first  | ((with_reducible first | apply kN | apply kW | apply kX | apply kG | apply kQ); (· exact sd); conv => whnf) | (refine pcase.mk ?_ ?_ <;> intro hc <;> (try rw [List.length_nil] at hc) <;> first | (exfalso; omega) | (exact absurd rfl hc) | conv => whnf) | (refine bcase_intro ?_ ?_ <;> intro hc <;> conv => whnf))
      refine getK_intro (x := GG.av ⟨f, l, g.en, g.edges, g.nextN, g.nextE⟩) ?_ ?_
      · exact snap4 (m := 18) (a := .own 4 go 0 l.length) (b := .sl g.en (vs GE.av g.edges)) (N := g.nextN) (E := g.nextE) (fun _ => snap_own' rfl rfl) (fun _ => rfl)
      (conv => whnf); repeat' (first  | ((with_reducible first | apply kN | apply kW | apply kX | apply kG | apply kQ); (· exact sd); conv => whnf) | (refine pcase.mk ?_ ?_ <;> intro hc <;> (try rw [List.length_nil] at hc) <;> first | (exfalso; omega) | (exact absurd rfl hc) | conv => whnf) | (refine bcase_intro ?_ ?_ <;> intro hc <;> conv => whnf))
      exact ⟨⟨f, l, g.en, g.edges, g.nextN, g.nextE⟩, _, rfl, fun _ => next_delN hg hf (by omega) hx hkeep⟩

end AI
end Go.Proofs.YtnfdpfeeenmffaaGreatDoor
