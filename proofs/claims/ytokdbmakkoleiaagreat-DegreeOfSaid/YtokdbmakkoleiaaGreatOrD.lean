/- The reference's Of: the statistics of a graph. -/
import Derived.Test.YtokdbmakkoleiaaGreatOfD
import Derived.Test.YtokdbmakkoleiaaGreatMU
import Derived.Test.YtokdbmakkoleiaaGreatOrC
set_option linter.unusedVariables false
namespace Go.Proofs.YtokdbmakkoleiaaGreat
namespace AI

/-- what the reference's Of answers for a valid graph -/
def OfRk (g : GG) (v : AV) : Prop := ∃ (ln tn un vn : Bool) (R T : List (List UInt8)) (O I : List (Bool × List Int)),
  v = .tup [.agg [.int .i64 g.nodes.length, .int .i64 g.edges.length, .sl ln (vs CN.av (cnts (cntL g.nodes) R)), .sl tn (vs CN.av (cnts (cntT g.edges) T)), .sl un (vs slI O), .sl vn (vs slI I)], .int .i64 0] ∧
  Inc R ∧ (∀ x, x ∈ R ↔ x ∈ labelsOf g.nodes) ∧ Inc T ∧ (∀ x, x ∈ T ↔ x ∈ typesOf g.edges) ∧ SeqsR g 1 T O ∧ SeqsR g 2 T I

theorem ofR0 {g : GG} (hg : g.ok) (hc0 : checkE g ≠ 0) : PureP (findFn tab) 9 [g.av] (· = .tup [.agg [.int .i64 0, .int .i64 0, .sl false [], .sl false [], .sl false [], .sl false []], .int .i64 (checkE g)]) := by
  refine pureP_of rfl rfl ?_
  (conv => whnf); repeat' (first | (refine callK_of (checkR hg) ?_; rintro _ rfl; conv => whnf) | ((with_reducible first | apply kN | apply kW | apply kX | apply kG | apply kQ); (· exact sd); conv => whnf) | (refine pcase.mk ?_ ?_ <;> intro hc <;> (try rw [List.length_nil] at hc) <;> first | (exfalso; omega) | (exact absurd rfl hc) | conv => whnf) | (refine bcase_intro ?_ ?_ <;> intro hc <;> conv => whnf))
  rfl

set_option maxHeartbeats 1000000 in
theorem ofR {g : GG} (hg : g.ok) (hN : g.nodes.length ≤ 2000) (hE : g.edges.length ≤ 4000) (hc0 : checkE g = 0) (hL : ∀ n ∈ g.nodes, n.labels.length ≤ 2000) : PureP (findFn tab) 9 [g.av] (OfRk g) := by
  refine pureP_of rfl rfl ?_
  (conv => whnf); repeat' (first | (refine callK_of (checkR hg) ?_; rintro _ rfl; conv => whnf) | ((with_reducible first | apply kN | apply kW | apply kX | apply kG | apply kQ); (· exact sd); conv => whnf) | (refine pcase.mk ?_ ?_ <;> intro hc <;> (try rw [List.length_nil] at hc) <;> first | (exfalso; omega) | (exact absurd rfl hc) | conv => whnf) | (refine bcase_intro ?_ ?_ <;> intro hc <;> conv => whnf))
  refine callK_of (labelsR hg hN hL) ?_
  rintro _ ⟨nn, R, rfl, hi, hm, _⟩
  have hR : R.length ≤ 100000000 := by
    have h1 := nodup_len (inc_nodup hi) fun x hx => (hm x).1 hx
    have h2 := labs_len (R := R) hL
    omega
  (conv => whnf); repeat' (first  | ((with_reducible first | apply kN | apply kW | apply kX | apply kG | apply kQ); (· exact sd); conv => whnf) | (refine pcase.mk ?_ ?_ <;> intro hc <;> (try rw [List.length_nil] at hc) <;> first | (exfalso; omega) | (exact absurd rfl hc) | conv => whnf) | (refine bcase_intro ?_ ?_ <;> intro hc <;> conv => whnf))
  refine labR hg hN hR ?_ ?_
  · intro hR0 c' tl
    (conv => whnf); repeat' (first  | ((with_reducible first | apply kN | apply kW | apply kX | apply kG | apply kQ); (· exact sd); conv => whnf) | (refine pcase.mk ?_ ?_ <;> intro hc <;> (try rw [List.length_nil] at hc) <;> first | (exfalso; omega) | (exact absurd rfl hc) | conv => whnf) | (refine bcase_intro ?_ ?_ <;> intro hc <;> conv => whnf))
    refine callK_of (typesR hg hE) ?_
    rintro _ ⟨nt, T, rfl, ti, tm, _⟩
    have hT : T.length ≤ 100000000 := by
      have h1 := nodup_len (inc_nodup ti) fun x hx => (tm x).1 hx
      simp only [typesOf, List.length_map] at h1
      omega
    (conv => whnf); repeat' (first  | ((with_reducible first | apply kN | apply kW | apply kX | apply kG | apply kQ); (· exact sd); conv => whnf) | (refine pcase.mk ?_ ?_ <;> intro hc <;> (try rw [List.length_nil] at hc) <;> first | (exfalso; omega) | (exact absurd rfl hc) | conv => whnf) | (refine bcase_intro ?_ ?_ <;> intro hc <;> conv => whnf))
    refine tyR0 hg hc0 hN hE hT ?_ ?_
    · intro hT0 c' tl
      (conv => whnf); repeat' (first  | ((with_reducible first | apply kN | apply kW | apply kX | apply kG | apply kQ); (· exact sd); conv => whnf) | (refine pcase.mk ?_ ?_ <;> intro hc <;> (try rw [List.length_nil] at hc) <;> first | (exfalso; omega) | (exact absurd rfl hc) | conv => whnf) | (refine bcase_intro ?_ ?_ <;> intro hc <;> conv => whnf))
      exact ⟨_, _, _, _, [], [], [], [], rfl, hR0 ▸ hi, hR0 ▸ hm, hT0 ▸ ti, hT0 ▸ tm, rfl, rfl⟩
    · intro hT0 c' ga gb gc n O I tl hn hO hI
      have l1 := seqsR_len hO
      have l2 := seqsR_len hI
      (conv => whnf); repeat' (first  | ((with_reducible first | apply kN | apply kW | apply kX | apply kG | apply kQ); (· exact sd); conv => whnf) | (refine pcase.mk ?_ ?_ <;> intro hc <;> (try rw [List.length_nil] at hc) <;> first | (exfalso; omega) | (exact absurd rfl hc) | conv => whnf) | (refine bcase_intro ?_ ?_ <;> intro hc <;> conv => whnf))
      have e1 : n = (cnts (cntT g.edges) T).length := by simp [cnts]; omega
      refine getK_intro (x := .agg [.int .i64 g.nodes.length, .int .i64 g.edges.length, .sl false [], .sl true (vs CN.av (cnts (cntT g.edges) T)), .sl true (vs slI O), .sl true (vs slI I)]) ?_ ?_
      · refine snapS (N := g.nodes.length) (E := g.edges.length) (i := 3) (j := 4) (k := 5) (ga := ga) (gb := gb) (gc := gc) (lab := .sl false []) (lab' := .sl false []) ?_ ?_ ?_ ?_ e1 (hn.trans l1.symm) (hn.trans l2.symm)
        · exact fun n => rfl
        all_goals rfl
      (conv => whnf); repeat' (first  | ((with_reducible first | apply kN | apply kW | apply kX | apply kG | apply kQ); (· exact sd); conv => whnf) | (refine pcase.mk ?_ ?_ <;> intro hc <;> (try rw [List.length_nil] at hc) <;> first | (exfalso; omega) | (exact absurd rfl hc) | conv => whnf) | (refine bcase_intro ?_ ?_ <;> intro hc <;> conv => whnf))
      exact ⟨_, _, _, _, [], T, O, I, rfl, hR0 ▸ hi, hR0 ▸ hm, ti, tm, hO, hI⟩
  · intro hR0 c' g3 tl
    have e0 : R.length = (cnts (cntL g.nodes) R).length := by simp [cnts]
    (conv => whnf); repeat' (first  | ((with_reducible first | apply kN | apply kW | apply kX | apply kG | apply kQ); (· exact sd); conv => whnf) | (refine pcase.mk ?_ ?_ <;> intro hc <;> (try rw [List.length_nil] at hc) <;> first | (exfalso; omega) | (exact absurd rfl hc) | conv => whnf) | (refine bcase_intro ?_ ?_ <;> intro hc <;> conv => whnf))
    refine callK_of (typesR hg hE) ?_
    rintro _ ⟨nt, T, rfl, ti, tm, _⟩
    have hT : T.length ≤ 100000000 := by
      have h1 := nodup_len (inc_nodup ti) fun x hx => (tm x).1 hx
      simp only [typesOf, List.length_map] at h1
      omega
    (conv => whnf); repeat' (first  | ((with_reducible first | apply kN | apply kW | apply kX | apply kG | apply kQ); (· exact sd); conv => whnf) | (refine pcase.mk ?_ ?_ <;> intro hc <;> (try rw [List.length_nil] at hc) <;> first | (exfalso; omega) | (exact absurd rfl hc) | conv => whnf) | (refine bcase_intro ?_ ?_ <;> intro hc <;> conv => whnf))
    refine tyR1 hg hc0 hN hE hT ?_ ?_
    · intro hT0 c' tl
      (conv => whnf); repeat' (first  | ((with_reducible first | apply kN | apply kW | apply kX | apply kG | apply kQ); (· exact sd); conv => whnf) | (refine pcase.mk ?_ ?_ <;> intro hc <;> (try rw [List.length_nil] at hc) <;> first | (exfalso; omega) | (exact absurd rfl hc) | conv => whnf) | (refine bcase_intro ?_ ?_ <;> intro hc <;> conv => whnf))
      refine getK_intro (x := .agg [.int .i64 g.nodes.length, .int .i64 g.edges.length, .sl true (vs CN.av (cnts (cntL g.nodes) R)), .sl false [], .sl false [], .sl false []]) ?_ ?_
      · refine snap6 (m := 18) (N := g.nodes.length) (E := g.edges.length) (a := .own 3 g3 0 R.length) (b := .sl false []) (c := .sl false []) (d := .sl false []) ?_ ?_ ?_ ?_
        · exact fun _ => snap_own rfl e0
        all_goals exact fun n => rfl
      (conv => whnf); repeat' (first  | ((with_reducible first | apply kN | apply kW | apply kX | apply kG | apply kQ); (· exact sd); conv => whnf) | (refine pcase.mk ?_ ?_ <;> intro hc <;> (try rw [List.length_nil] at hc) <;> first | (exfalso; omega) | (exact absurd rfl hc) | conv => whnf) | (refine bcase_intro ?_ ?_ <;> intro hc <;> conv => whnf))
      exact ⟨_, _, _, _, R, [], [], [], rfl, hi, hm, hT0 ▸ ti, hT0 ▸ tm, rfl, rfl⟩
    · intro hT0 c' ga gb gc n O I tl hn hO hI
      have l1 := seqsR_len hO
      have l2 := seqsR_len hI
      (conv => whnf); repeat' (first  | ((with_reducible first | apply kN | apply kW | apply kX | apply kG | apply kQ); (· exact sd); conv => whnf) | (refine pcase.mk ?_ ?_ <;> intro hc <;> (try rw [List.length_nil] at hc) <;> first | (exfalso; omega) | (exact absurd rfl hc) | conv => whnf) | (refine bcase_intro ?_ ?_ <;> intro hc <;> conv => whnf))
      have e1 : n = (cnts (cntT g.edges) T).length := by simp [cnts]; omega
      refine getK_intro (x := .agg [.int .i64 g.nodes.length, .int .i64 g.edges.length, .sl true (vs CN.av (cnts (cntL g.nodes) R)), .sl true (vs CN.av (cnts (cntT g.edges) T)), .sl true (vs slI O), .sl true (vs slI I)]) ?_ ?_
      · refine snapS (N := g.nodes.length) (E := g.edges.length) (i := 4) (j := 5) (k := 6) (ga := ga) (gb := gb) (gc := gc) (lab := .own 3 g3 0 R.length) (lab' := .sl true (vs CN.av (cnts (cntL g.nodes) R))) ?_ ?_ ?_ ?_ e1 (hn.trans l1.symm) (hn.trans l2.symm)
        · exact fun _ => snap_own rfl e0
        all_goals rfl
      (conv => whnf); repeat' (first  | ((with_reducible first | apply kN | apply kW | apply kX | apply kG | apply kQ); (· exact sd); conv => whnf) | (refine pcase.mk ?_ ?_ <;> intro hc <;> (try rw [List.length_nil] at hc) <;> first | (exfalso; omega) | (exact absurd rfl hc) | conv => whnf) | (refine bcase_intro ?_ ?_ <;> intro hc <;> conv => whnf))
      exact ⟨_, _, _, _, R, T, O, I, rfl, hi, hm, ti, tm, hO, hI⟩


end AI
end Go.Proofs.YtokdbmakkoleiaaGreat
