/- The reference's Steps answers. -/
import Derived.Test.YtnfdpfeeenmffaaGreatDoorDT1
import Derived.Test.YtnfdpfeeenmffaaGreatDoorMH
set_option linter.unusedVariables false
set_option maxRecDepth 4000
namespace Go.Proofs.YtnfdpfeeenmffaaGreatDoor
namespace AI

/-- an entry -/
structure AJ where
  fr : Int
  to : Int
  ed : Int
def AJ.av (a : AJ) : AV := .agg [.int .i64 a.fr, .int .i64 a.to, .int .i64 a.ed]
theorem cellsJ : ∀ a : AJ, a.av.cells.length = 3 := fun _ => rfl

theorem hasType0 {e : GE} : PureP (findFn tab) 137 [e.av, .sl false []] (fun v => ∃ b, v = .bool b) := by
  refine pureP_of rfl rfl ?_
  (conv => whnf); repeat' (first  | ((with_reducible first | apply kN | apply kW | apply kX | apply kG | apply kQ); (· exact sd); conv => whnf) | (refine pcase.mk ?_ ?_ <;> intro hc <;> (try rw [List.length_nil] at hc) <;> first | (exfalso; omega) | (exact absurd rfl hc) | conv => whnf) | (refine bcase_intro ?_ ?_ <;> intro hc <;> conv => whnf))
  all_goals exact ⟨_, rfl⟩

theorem stepJ {e : GE} {id dir : Int} : PureP (findFn tab) 136 [e.av, .int .i64 id, .int .i64 dir] (fun v => ∃ (a : AJ) (b : Bool), v = .tup [a.av, .bool b]) := by
  refine pureP_of rfl rfl ?_
  (conv => whnf); repeat' (first  | ((with_reducible first | apply kN | apply kW | apply kX | apply kG | apply kQ); (· exact sd); conv => whnf) | (refine pcase.mk ?_ ?_ <;> intro hc <;> (try rw [List.length_nil] at hc) <;> first | (exfalso; omega) | (exact absurd rfl hc) | conv => whnf) | (refine bcase_intro ?_ ?_ <;> intro hc <;> conv => whnf))
  all_goals first | exact ⟨⟨_, _, _⟩, _, rfl⟩

theorem sinkJ {g : GG} {len c go gx : Nat} {nn : Bool} {W : List AJ} {x : AJ} {id dir ii : Int} (hl : len = W.length) (h0 : 0 < len) (hs : len < 2^61) {Q : AExit → Env → Sto → Prop}
    (hQ : ∀ (t : Nat) (W' : List AJ), W'.length = len → t < len → Q (.exit 2) [(1, .int .i64 id), (2, .sl false []), (3, .int .i64 dir), (4, .ref 0 0 0 0), (9, .own 1 go 0 len), (10, .int .i64 ii), (11, .ref 2 gx 0 0), (13, .int .i64 t), (84, .bool false)] ⟨[.arr 0 4 true true [g.av], .arr go 3 nn true (vs AJ.av W'), .arr gx 3 true true [x.av]], c⟩) :
    Run (findFn tab) (.loop l111_0_h l111_0_b) [(1, .int .i64 id), (2, .sl false []), (3, .int .i64 dir), (4, .ref 0 0 0 0), (9, .own 1 go 0 len), (10, .int .i64 ii), (11, .ref 2 gx 0 0), (13, .int .i64 (len - 1 : Nat))] ⟨[.arr 0 4 true true [g.av], .arr go 3 nn true (vs AJ.av W), .arr gx 3 true true [x.av]], c⟩ Q := by
  refine loop_inv (fun m env s => ∃ (t : Nat) (W : List AJ), m = t ∧ t < len ∧ W.length = len ∧ env = [(1, .int .i64 id), (2, .sl false []), (3, .int .i64 dir), (4, .ref 0 0 0 0), (9, .own 1 go 0 len), (10, .int .i64 ii), (11, .ref 2 gx 0 0), (13, .int .i64 t)] ∧ s = ⟨[.arr 0 4 true true [g.av], .arr go 3 nn true (vs AJ.av W), .arr gx 3 true true [x.av]], c⟩) ?_ _ _ _ ⟨len - 1, W, rfl, by omega, hl.symm, rfl, rfl⟩
  clear hl
  rintro m _ _ ⟨t, W, hm, ht, hW, rfl, rfl⟩
  subst m
  refine ⟨rfl, ?_⟩
  by_cases h : 0 < t
  · (conv => whnf); repeat' (first | (apply nthK_intro; (· exact nVz (t - 1) (by omega) (by omega)); conv => whnf) | ((with_reducible show eqK _ _); refine tV cellsJ (x := W[t - 1]) t ?_ (by omega); conv => whnf) | ((with_reducible first | apply kN | apply kW | apply kX | apply kG | apply kQ); (· exact sd); conv => whnf) | (refine pcase.mk ?_ ?_ <;> intro hc <;> (try rw [List.length_nil] at hc) <;> first | (exfalso; omega) | (exact absurd rfl hc) | conv => whnf) | (refine bcase_intro ?_ ?_ <;> intro hc <;> conv => whnf))
    all_goals first
      | (refine again.mk ⟨t - 1, by omega, t - 1, W.set t W[t - 1], rfl, by omega, by rw [List.length_set]; exact hW, ?_, rfl⟩; rw [show ((t - 1 : Nat) : Int) = (t : Int) - 1 by omega]; done)
      | (refine again.mk ⟨t - 1, by omega, t - 1, W.set t W[t - 1], rfl, by omega, by rw [List.length_set]; exact hW, ?_, rfl⟩; rw [show ((t - 1 : Nat) : Int) = (t : Int) - 1 by omega]; rfl)
      | exact hQ _ _ hW ht
  · (conv => whnf); repeat' (first  | ((with_reducible first | apply kN | apply kW | apply kX | apply kG | apply kQ); (· exact sd); conv => whnf) | (refine pcase.mk ?_ ?_ <;> intro hc <;> (try rw [List.length_nil] at hc) <;> first | (exfalso; omega) | (exact absurd rfl hc) | conv => whnf) | (refine bcase_intro ?_ ?_ <;> intro hc <;> conv => whnf))
    exact hQ _ _ hW ht

theorem stepsA {g : GG} (hg : g.ok) (hE : g.edges.length ≤ 3000) {id dir : Int} :
    PureP (findFn tab) 111 [g.av, .int .i64 id, .sl false [], .int .i64 dir] (fun v => ∃ nn W, v = .sl nn (vs AJ.av W) ∧ W.length ≤ 3000) := by
  refine pureP_of rfl rfl ?_
  (conv => whnf); repeat' (first  | ((with_reducible first | apply kN | apply kW | apply kX | apply kG | apply kQ); (· exact sd); conv => whnf) | (refine pcase.mk ?_ ?_ <;> intro hc <;> (try rw [List.length_nil] at hc) <;> first | (exfalso; omega) | (exact absurd rfl hc) | conv => whnf) | (refine bcase_intro ?_ ?_ <;> intro hc <;> conv => whnf))
  refine loop_inv (fun m env s => ∃ (i c go n : Nat) (nn : Bool) (W : List AJ), m = g.edges.length - i ∧ i ≤ g.edges.length ∧ n = W.length ∧ W.length ≤ i ∧ env = [(1, .int .i64 id), (2, .sl false []), (3, .int .i64 dir), (4, .ref 0 0 0 0), (9, .own 1 go 0 n), (10, .int .i64 i)] ∧ s = ⟨[.arr 0 4 true true [g.av], .arr go 3 nn true (vs AJ.av W)], c⟩) ?_ _ _ _ ⟨0, _, _, _, _, [], rfl, by omega, rfl, by simp, rfl, rfl⟩
  rintro _ _ _ ⟨i, c, go, n, nn, W, rfl, hi, hn, hW, rfl, rfl⟩
  refine ⟨rfl, ?_⟩
  subst hn
  by_cases hlt : i < g.edges.length
  · obtain ⟨_, ⟨a, b, rfl⟩, hs⟩ := (stepJ (e := g.edges[i]) (id := id) (dir := dir)).det
    obtain ⟨_, ⟨b2, rfl⟩, ht⟩ := (hasType0 (e := g.edges[i])).det
    cases b <;> cases b2
    all_goals
      (conv => whnf); repeat' (first | (refine callK_of hs ?_; rintro _ rfl; conv => whnf) | (refine callK_of ht ?_; rintro _ rfl; conv => whnf) | (refine apV1 (x := a) cellsJ rfl (by omega) ?_; conv => whnf) | ((with_reducible first | apply kN | apply kW | apply kX | apply kG | apply kQ); (· exact sd); conv => whnf) | (refine pcase.mk ?_ ?_ <;> intro hc <;> (try rw [List.length_nil] at hc) <;> first | (exfalso; omega) | (exact absurd rfl hc) | conv => whnf) | (refine bcase_intro ?_ ?_ <;> intro hc <;> conv => whnf))
    all_goals first
      | exact again.mk ⟨_, by omega, i + 1, _, _, _, _, W, rfl, by omega, rfl, by omega, rfl, rfl⟩
      | skip
    refine sinkJ (len := W.length + 1) (W := W ++ [a]) (x := a) (by simp) (by omega) (by omega) ?_
    intro t W' hW' ht'
    (conv => whnf); repeat' (first | ((with_reducible show eqK _ _); refine tV cellsJ (x := a) t ?_ (by omega); conv => whnf) | ((with_reducible first | apply kN | apply kW | apply kX | apply kG | apply kQ); (· exact sd); conv => whnf) | (refine pcase.mk ?_ ?_ <;> intro hc <;> (try rw [List.length_nil] at hc) <;> first | (exfalso; omega) | (exact absurd rfl hc) | conv => whnf) | (refine bcase_intro ?_ ?_ <;> intro hc <;> conv => whnf))
    exact again.mk ⟨_, by omega, i + 1, _, _, _, _, W'.set t a, rfl, by omega, by rw [List.length_set]; omega, by rw [List.length_set]; omega, rfl, rfl⟩
  · (conv => whnf); repeat' (first  | ((with_reducible first | apply kN | apply kW | apply kX | apply kG | apply kQ); (· exact sd); conv => whnf) | (refine pcase.mk ?_ ?_ <;> intro hc <;> (try rw [List.length_nil] at hc) <;> first | (exfalso; omega) | (exact absurd rfl hc) | conv => whnf) | (refine bcase_intro ?_ ?_ <;> intro hc <;> conv => whnf))
    exact ⟨nn, W, rfl, by omega⟩

end AI
end Go.Proofs.YtnfdpfeeenmffaaGreatDoor
