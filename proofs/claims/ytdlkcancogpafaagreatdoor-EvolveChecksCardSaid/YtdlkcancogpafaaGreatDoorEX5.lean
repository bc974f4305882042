/- The worked example in the laws about migrations: reckoned by the kernel. The law EvolveChecks, about the evaluator. -/
import Derived.Test.YtdlkcancogpafaaGreatDoorGrCode
import Derived.Test.YtdlkcancogpafaaGreatDoorEX4
namespace Go.Proofs.YtdlkcancogpafaaGreatDoor
namespace AI

set_option maxRecDepth 100000 in
theorem alive_call : pureCall (run (findFn tab) 80) 6 [] = some (.bool true) := by kernel_rfl

end AI
end Go.Proofs.YtdlkcancogpafaaGreatDoor
set_option linter.unusedVariables false
set_option maxRecDepth 4000
namespace Go.Proofs.YtdlkcancogpafaaGreatDoor
namespace AI

theorem aliveE : PureP (findFn tab) 6 [] (· = .bool (decide True)) := ⟨.bool true, ⟨80, alive_call⟩, rfl⟩

set_option maxRecDepth 10000 in
theorem law_checks : ∀ xs, likes Tryz.prog [40, 29] xs → Calls1 (findFn tab) 4 xs ⟨[], 0⟩ fun out _ => out = .ok (.bool true) := by
  intro xs h
  match xs, h with
  | [a, b], h =>
    obtain ⟨h1, h2, _⟩ := h
    obtain ⟨g, rfl, hg⟩ := like_graph h1
    obtain ⟨m, rfl, hm⟩ := like_migration h2
    obtain ⟨_, ⟨b1, rfl, q1⟩, p1⟩ := (smallM hg).det
    obtain ⟨_, ⟨b2, rfl, q2⟩, p2⟩ := (lightM hm).det
    refine calls1_of rfl rfl ?_
    cases b1 with
    | false =>
      (conv => whnf); repeat' (first | (refine callK_of p1 ?_; rintro _ rfl; conv => whnf) | (refine callB aliveE (fun _ => ?_) (fun h => absurd trivial h); conv => whnf) | ((with_reducible first | apply kN | apply kW | apply kX | apply kG | apply kQ); (· exact sd); conv => whnf) | (refine pcase.mk ?_ ?_ <;> intro hc <;> (try rw [List.length_nil] at hc) <;> first | (exfalso; omega) | (exact absurd rfl hc) | conv => whnf) | (refine bcase_intro ?_ ?_ <;> intro hc <;> conv => whnf))
      all_goals rfl
    | true => cases b2 with
      | false =>
        (conv => whnf); repeat' (first | (refine callK_of p1 ?_; rintro _ rfl; conv => whnf) | (refine callK_of p2 ?_; rintro _ rfl; conv => whnf) | (refine callB aliveE (fun _ => ?_) (fun h => absurd trivial h); conv => whnf) | ((with_reducible first | apply kN | apply kW | apply kX | apply kG | apply kQ); (· exact sd); conv => whnf) | (refine pcase.mk ?_ ?_ <;> intro hc <;> (try rw [List.length_nil] at hc) <;> first | (exfalso; omega) | (exact absurd rfl hc) | conv => whnf) | (refine bcase_intro ?_ ?_ <;> intro hc <;> conv => whnf))
        all_goals rfl
      | true =>
        have hf : checkE g = 0 → Fair g := fair_of hg (q1 rfl)
        have hfine := resM_fine (g := g) (m := m) ⟨hm.2.2.2.2.1, q2 rfl⟩ hf
        obtain ⟨_, ⟨n1, rfl⟩, c1⟩ := (changesP hg hm hf).det
        obtain ⟨_, ⟨n2, rfl⟩, c2⟩ := (changesR hg hm hf).det
        obtain ⟨M, bi, hi⟩ : ∃ (M : GM) (bi : Bool), invM m = .tup [M.av, .bool bi] := by
          by_cases h : migE m = 0 ∧ m.k ≤ 3
          · exact ⟨_, _, if_pos h⟩
          · exact ⟨_, _, if_neg h⟩
        have iP := invP hm
        have iR := invR hm
        rw [hi] at iP iR
        have hlen := resM_len (g := g) (m := m) hf
        (conv => whnf); repeat' (first | (refine callK_of p1 ?_; rintro _ rfl; conv => whnf) | (refine callK_of p2 ?_; rintro _ rfl; conv => whnf) | (refine callK_of c1 ?_; rintro _ rfl; conv => whnf) | (refine callK_of c2 ?_; rintro _ rfl; conv => whnf) | (refine callK_of iP ?_; rintro _ rfl; conv => whnf) | (refine callK_of iR ?_; rintro _ rfl; conv => whnf) | (refine callK_of (migP hm) ?_; rintro _ rfl; conv => whnf) | (refine callK_of (migR hm) ?_; rintro _ rfl; conv => whnf) | (refine callB (sameAllC hlen hfine) (fun _ => ?_) (fun h => absurd trivial h); conv => whnf) | (refine callB aliveE (fun _ => ?_) (fun h => absurd trivial h); conv => whnf) | ((with_reducible first | apply kN | apply kW | apply kX | apply kG | apply kQ); (· exact sd); conv => whnf) | (refine pcase.mk ?_ ?_ <;> intro hc <;> (try rw [List.length_nil] at hc) <;> first | (exfalso; omega) | (exact absurd rfl hc) | conv => whnf) | (refine bcase_intro ?_ ?_ <;> intro hc <;> conv => whnf))
        all_goals first | rfl | exact absurd rfl (by assumption) | (cases bi <;> rfl) | (exfalso; simp_all; done) | (trace_state; fail "law")

end AI
end Go.Proofs.YtdlkcancogpafaaGreatDoor
