/- One change of the reference, edges and whole: what it leaves alone. -/
import Derived.Test.YtnfdpfeeenmffaaGreatDoorDtD
set_option linter.unusedVariables false
set_option maxRecDepth 4000
namespace Go.Proofs.YtnfdpfeeenmffaaGreatDoor
namespace AI

set_option maxHeartbeats 4000000 in
theorem onEdgeR {ns es : List Int} {a b : Nat} {g : GG} {c : GC} {n : GE} (hg : FewG a b g) (ha : a ≤ 2900) (hb : b ≤ 2900) (hcc : c.ok) (hn : FewE n) (hid : n.id = c.id) (h1 : 1 ≤ c.id) (h2 : c.id ≤ 1000000) (hm : c.id ∈ es) :
    PureP (findFn tab) 37 [g.av, c.av, n.av] (StepR ns es g) := by
  have hpr := hn.2
  have hgN := hg.2.1
  have hgE := hg.2.2.1
  have hcn := hcc.2.2.2.2.1
  refine pureP_of rfl rfl ?_
  (conv => whnf); repeat' (first | (refine callK_of (setPropR (P := n.props) (key := c.name) (v := c.v) (by omega) hcc.2.2.2.2.2) ?_; rintro _ ⟨b1, r1, ok, rfl, p1, p2, p3⟩; conv => whnf) | (refine callK_of (putE (ns := es) (n := ⟨n.id, n.fr, n.to, n.ty, b1, r1⟩) hg.1 (by omega) (by show 1 ≤ n.id; omega) (by show n.id ≤ 1000000; omega) (by show n.id ∈ es; rw [hid]; exact hm)) ?_; rintro _ hp; obtain ⟨k1, rfl, hnx⟩ := next_putE (ns := ns) hg (by omega) (few_propsE hn hcn hcc.2.2.2.2.2 p1 (by have := p2 (by assumption); omega) p3) hp; conv => whnf) | ((with_reducible first | apply kN | apply kW | apply kX | apply kG | apply kQ); (· exact sd); conv => whnf) | (refine pcase.mk ?_ ?_ <;> intro hc <;> (try rw [List.length_nil] at hc) <;> first | (exfalso; omega) | (exact absurd rfl hc) | conv => whnf) | (refine bcase_intro ?_ ?_ <;> intro hc <;> conv => whnf))
  all_goals first
    | exact ⟨gz, _, rfl, fun h => absurd h (by decide)⟩
    | exact ⟨k1, _, rfl, fun _ => hnx⟩
    | skip
  refine loop_inv (fun m env s => ∃ (i c' go k : Nat) (f : Bool) (l : List GE), m = g.edges.length - i ∧ i ≤ g.edges.length ∧ k = l.length ∧ l.length ≤ i ∧ (f = false → l = []) ∧ (∀ x ∈ l, x ∈ g.edges) ∧ keepE es l = keepE es (g.edges.take i) ∧ env = [(3, .ref 0 0 0 0), (4, .ref 1 1 0 0), (6, .ref 3 3 0 0), (10, .own 4 go 0 k), (11, .int .i64 i)] ∧ s = ⟨[.arr 0 4 true true [g.av], .arr 1 10 true true [c.av], .arr 2 5 true true [n.av], .arr 3 4 true true [.agg [.sl false [], .sl false [], .int .i64 0, .int .i64 0]], .arr go 5 f true (vs GE.av l)], c'⟩) ?_ _ _ _ ⟨0, _, _, 0, _, [], rfl, by omega, rfl, by simp, fun _ => rfl, by simp, rfl, rfl, rfl⟩
  rintro _ _ _ ⟨i, c', go, k, f, l, rfl, hi, hk, hl, hf, hx, hkeep, rfl, rfl⟩
  refine ⟨rfl, ?_⟩
  subst hk
  by_cases hlt : i < g.edges.length
  · have hEi : g.edges[i] ∈ g.edges := List.getElem_mem hlt
    (conv => whnf); repeat' (first | (refine apV1 (x := g.edges[i]) cellsE rfl (by omega) ?_; conv => whnf) | ((with_reducible first | apply kN | apply kW | apply kX | apply kG | apply kQ); (· exact sd); conv => whnf) | (refine pcase.mk ?_ ?_ <;> intro hc <;> (try rw [List.length_nil] at hc) <;> first | (exfalso; omega) | (exact absurd rfl hc) | conv => whnf) | (refine bcase_intro ?_ ?_ <;> intro hc <;> conv => whnf))
    all_goals first
      | exact again.mk ⟨_, by omega, i + 1, _, _, _, _, l ++ [g.edges[i]], rfl, by omega, by simp, by simp; omega, fun h => Bool.noConfusion h, fun x hx' => (List.mem_append.1 hx').elim (hx x) (fun h => by rw [List.mem_singleton.1 h]; exact hEi), keepE_yes hlt hkeep, rfl, rfl⟩
      | exact again.mk ⟨_, by omega, i + 1, _, _, _, _, l, rfl, by omega, rfl, by omega, hf, hx, keepE_out hlt hkeep (by rw [show (g.edges[i]).id = c.id by omega]; exact hm), rfl, rfl⟩
  · rw [show i = g.edges.length by omega, List.take_length] at hkeep
    (conv => whnf); repeat' (first  | ((with_reducible first | apply kN | apply kW | apply kX | apply kG | apply kQ); (· exact sd); conv => whnf) | (refine pcase.mk ?_ ?_ <;> intro hc <;> (try rw [List.length_nil] at hc) <;> first | (exfalso; omega) | (exact absurd rfl hc) | conv => whnf) | (refine bcase_intro ?_ ?_ <;> intro hc <;> conv => whnf))
    refine getK_intro (x := GG.av ⟨g.nn, g.nodes, f, l, g.nextN, g.nextE⟩) ?_ ?_
    · exact snap4 (m := 18) (a := .sl g.nn (vs GN.av g.nodes)) (b := .own 4 go 0 l.length) (N := g.nextN) (E := g.nextE) (fun _ => rfl) (fun _ => snap_own' rfl rfl)
    (conv => whnf); repeat' (first  | ((with_reducible first | apply kN | apply kW | apply kX | apply kG | apply kQ); (· exact sd); conv => whnf) | (refine pcase.mk ?_ ?_ <;> intro hc <;> (try rw [List.length_nil] at hc) <;> first | (exfalso; omega) | (exact absurd rfl hc) | conv => whnf) | (refine bcase_intro ?_ ?_ <;> intro hc <;> conv => whnf))
    exact ⟨⟨g.nn, g.nodes, f, l, g.nextN, g.nextE⟩, _, rfl, fun _ => next_delE hg hf (by omega) hx hkeep⟩

/-- a change is within what is touched -/
def Within (ns es : List Int) (c : GC) : Prop := (1 ≤ c.op ∧ c.op ≤ 5 → c.id ∈ ns) ∧ (6 ≤ c.op ∧ c.op ≤ 8 → c.id ∈ es)

theorem few_new {i : Int} (h : I64 i) : FewN ⟨i, false, [], false, []⟩ := ⟨⟨h, by simp [Ln], fun _ => rfl, by simp, by simp [Ln], fun _ => rfl, by simp⟩, by simp, by simp⟩
theorem few_newE {i f t : Int} {s : List UInt8} (h : I64 i) (hf : I64 f) (ht : I64 t) (hs : Ln s) : FewE ⟨i, f, t, s, false, []⟩ := ⟨⟨h, hf, ht, hs, by simp [Ln], fun _ => rfl, by simp⟩, by simp⟩

set_option maxHeartbeats 4000000 in
theorem stepR {ns es : List Int} {a b : Nat} {g : GG} {c : GC} (hg : FewG a b g) (ha : a ≤ 2900) (hb : b ≤ 2900) (hcc : c.ok) (hw : Within ns es c) :
    PureP (findFn tab) 18 [g.av, c.av] (StepR ns es g) := by
  have hgN := hg.2.1
  have hgE := hg.2.2.1
  obtain ⟨n, bn, en, qn⟩ := nodeQ g.nodes c.id
  obtain ⟨x, bx, ex, qx⟩ := edgeQ g.edges c.id
  obtain ⟨nf, bf, ef, qf⟩ := nodeQ g.nodes c.fr
  obtain ⟨nt, bt, et, qt⟩ := nodeQ g.nodes c.to
  have hn := nodeB (g := g) (id := c.id) (by omega)
  have hx := edgeB (g := g) (id := c.id) (by omega)
  have hf := nodeB (g := g) (id := c.fr) (by omega)
  have ht := nodeB (g := g) (id := c.to) (by omega)
  rw [en] at hn; rw [ex] at hx; rw [ef] at hf; rw [et] at ht
  obtain ⟨_, ⟨z, rfl, hz⟩, hck⟩ := (checkC hcc).det
  refine pureP_of rfl rfl ?_
  (conv => whnf); repeat' (first | (refine callK_of hck ?_; rintro _ rfl; conv => whnf) | (refine callK_of hn ?_; rintro _ rfl; conv => whnf) | (refine callK_of hx ?_; rintro _ rfl; conv => whnf) | (refine callK_of hf ?_; rintro _ rfl; conv => whnf) | (refine callK_of ht ?_; rintro _ rfl; conv => whnf) | (have hzz := hz (by omega); refine callK_of (putN (ns := ns) (n := ⟨c.id, false, [], false, []⟩) hg.1 (by omega) (by show 1 ≤ c.id; omega) (by show c.id ≤ 1000000; omega) (hw.1 (by omega))) ?_; rintro _ hp; obtain ⟨k1, rfl, hnx⟩ := next_putN (es := es) hg (by omega) (few_new hcc.2.1) hp; conv => whnf) | (have hzz := hz (by omega); refine callK_of (putE (ns := es) (n := ⟨c.id, c.fr, c.to, c.name, false, []⟩) hg.1 (by omega) (by show 1 ≤ c.id; omega) (by show c.id ≤ 1000000; omega) (hw.2 (by omega))) ?_; rintro _ hp; obtain ⟨k1, rfl, hnx⟩ := next_putE (ns := ns) hg (by omega) (few_newE hcc.2.1 hcc.2.2.1 hcc.2.2.2.1 hcc.2.2.2.2.1) hp; conv => whnf) | (have hzz := hz (by omega); have hq := qx (by assumption); refine callK_of (onEdgeR (ns := ns) hg ha hb hcc (hg.2.2.2.2 _ hq.2) hq.1 (by omega) (by omega) (hw.2 (by omega))) ?_; rintro _ ⟨k1, e1, rfl, hnx⟩; conv => whnf) | (have hzz := hz (by omega); have hq := qn (by assumption); refine callK_of (onNodeR (es := es) hg ha hb hcc (hg.2.2.2.1 _ hq.2) hq.1 (by omega) (by omega) (hw.1 (by omega))) ?_; rintro _ ⟨k1, e1, rfl, hnx⟩; conv => whnf) | ((with_reducible first | apply kN | apply kW | apply kX | apply kG | apply kQ); (· exact sd); conv => whnf) | (refine pcase.mk ?_ ?_ <;> intro hc <;> (try rw [List.length_nil] at hc) <;> first | (exfalso; omega) | (exact absurd rfl hc) | conv => whnf) | (refine bcase_intro ?_ ?_ <;> intro hc <;> conv => whnf))
  all_goals first
    | exact ⟨gz, _, rfl, fun h => absurd h (by decide)⟩
    | exact ⟨gz, _, rfl, fun h => absurd h (by assumption)⟩
    | exact ⟨k1, _, rfl, fun _ => hnx⟩
    | exact ⟨k1, _, rfl, hnx⟩
    | trace_state

end AI
end Go.Proofs.YtnfdpfeeenmffaaGreatDoor
