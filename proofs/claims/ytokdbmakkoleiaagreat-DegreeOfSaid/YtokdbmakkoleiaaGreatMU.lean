/- The inner loops of the reference's Of. The reference's Of: the loop over the labels. -/
import Derived.Test.YtokdbmakkoleiaaGreatMO
set_option linter.unusedVariables false
namespace Go.Proofs.YtokdbmakkoleiaaGreat
namespace AI

theorem ilr0 {g : GG} (hg : g.ok) (hN : g.nodes.length ≤ 2000) {g1 g2 c j : Nat} {nn : Bool} {R : List (List UInt8)} (hj : j < R.length) (hR : R.length ≤ 100000000) {o1 o2 : Obj} {Q : AExit → Env → Sto → Prop}
    (hQ : ∀ c' tl, Q (.exit 2) ([(1, .ref 0 0 0 0), (2, .ref 1 g1 0 0), (5, .ref 2 g2 0 0), (6, .sl nn (vs .str R)), (7, .int .i64 j), (8, .int .i64 (cntL g.nodes R[j]))] ++ tl) ⟨[.arr 0 4 true true [g.av], o1, o2], c'⟩) :
    Run (findFn tab) (.loop l9_0_h l9_0_b) [(1, .ref 0 0 0 0), (2, .ref 1 g1 0 0), (5, .ref 2 g2 0 0), (6, .sl nn (vs .str R)), (7, .int .i64 j), (8, .int .i64 0), (9, .int .i64 0)] ⟨[.arr 0 4 true true [g.av], o1, o2], c⟩ Q := by
  have hlab : ∀ n ∈ g.nodes, n.labels.length < 2^63 := fun n hn => (hg.2.2.1 n hn).2.1
  refine loop_inv (fun m env s => ∃ (i c : Nat) (z : Int), m = g.nodes.length - i ∧ i ≤ g.nodes.length ∧ z = cntL (g.nodes.take i) R[j] ∧ env = [(1, .ref 0 0 0 0), (2, .ref 1 g1 0 0), (5, .ref 2 g2 0 0), (6, .sl nn (vs .str R)), (7, .int .i64 j), (8, .int .i64 z), (9, .int .i64 i)] ∧ s = ⟨[.arr 0 4 true true [g.av], o1, o2], c⟩) ?_ _ _ _ ⟨0, c, 0, rfl, by omega, rfl, rfl, rfl⟩
  rintro _ _ _ ⟨i, c, z, rfl, hi, hz, rfl, rfl⟩
  refine ⟨rfl, ?_⟩
  by_cases hlt : i < g.nodes.length
  · have hb := @cntL_bound (g.nodes.take i) R[j]
    rw [List.length_take, ← hz] at hb
    have h1 : R[j] ∈ (g.nodes[i]).labels → z + 1 = cntL (g.nodes.take (i + 1)) R[j] := fun h => by rw [cntL_take hlt, hz, show labI R[j] g.nodes[i] = 1 from if_pos h]
    have h0 : ¬ R[j] ∈ (g.nodes[i]).labels → z = cntL (g.nodes.take (i + 1)) R[j] := fun h => by rw [cntL_take hlt, hz, show labI R[j] g.nodes[i] = 0 from if_neg h, Int.add_zero]
    clear hz
    (conv => whnf); repeat' (first | (refine callB (hasLabel2 (hlab _ (List.getElem_mem hlt))) (fun hc => ?_) (fun hc => ?_) <;> conv => whnf) | ((with_reducible first | apply kN | apply kW | apply kX | apply kG | apply kQ); (· exact sd); conv => whnf) | (refine pcase.mk ?_ ?_ <;> intro hc <;> (try rw [List.length_nil] at hc) <;> first | (exfalso; omega) | (exact absurd rfl hc) | conv => whnf) | (refine bcase_intro ?_ ?_ <;> intro hc <;> conv => whnf))
    · exact again.mk ⟨_, by omega, i + 1, _, _, rfl, by omega, h1 hc, rfl, rfl⟩
    · exact again.mk ⟨_, by omega, i + 1, _, z, rfl, by omega, h0 hc, rfl, rfl⟩
  · rw [List.take_of_length_le (by omega)] at hz
    subst hz
    (conv => whnf); repeat' (first  | ((with_reducible first | apply kN | apply kW | apply kX | apply kG | apply kQ); (· exact sd); conv => whnf) | (refine pcase.mk ?_ ?_ <;> intro hc <;> (try rw [List.length_nil] at hc) <;> first | (exfalso; omega) | (exact absurd rfl hc) | conv => whnf) | (refine bcase_intro ?_ ?_ <;> intro hc <;> conv => whnf))
    exact hQ _ _
theorem ilr1 {g : GG} (hg : g.ok) (hN : g.nodes.length ≤ 2000) {g1 g2 c j : Nat} {nn : Bool} {R : List (List UInt8)} (hj : j < R.length) (hR : R.length ≤ 100000000) {o1 o2 o3 : Obj} {Q : AExit → Env → Sto → Prop}
    (hQ : ∀ c' tl, Q (.exit 2) ([(1, .ref 0 0 0 0), (2, .ref 1 g1 0 0), (5, .ref 2 g2 0 0), (6, .sl nn (vs .str R)), (7, .int .i64 j), (8, .int .i64 (cntL g.nodes R[j]))] ++ tl) ⟨[.arr 0 4 true true [g.av], o1, o2, o3], c'⟩) :
    Run (findFn tab) (.loop l9_0_h l9_0_b) [(1, .ref 0 0 0 0), (2, .ref 1 g1 0 0), (5, .ref 2 g2 0 0), (6, .sl nn (vs .str R)), (7, .int .i64 j), (8, .int .i64 0), (9, .int .i64 0)] ⟨[.arr 0 4 true true [g.av], o1, o2, o3], c⟩ Q := by
  have hlab : ∀ n ∈ g.nodes, n.labels.length < 2^63 := fun n hn => (hg.2.2.1 n hn).2.1
  refine loop_inv (fun m env s => ∃ (i c : Nat) (z : Int), m = g.nodes.length - i ∧ i ≤ g.nodes.length ∧ z = cntL (g.nodes.take i) R[j] ∧ env = [(1, .ref 0 0 0 0), (2, .ref 1 g1 0 0), (5, .ref 2 g2 0 0), (6, .sl nn (vs .str R)), (7, .int .i64 j), (8, .int .i64 z), (9, .int .i64 i)] ∧ s = ⟨[.arr 0 4 true true [g.av], o1, o2, o3], c⟩) ?_ _ _ _ ⟨0, c, 0, rfl, by omega, rfl, rfl, rfl⟩
  rintro _ _ _ ⟨i, c, z, rfl, hi, hz, rfl, rfl⟩
  refine ⟨rfl, ?_⟩
  by_cases hlt : i < g.nodes.length
  · have hb := @cntL_bound (g.nodes.take i) R[j]
    rw [List.length_take, ← hz] at hb
    have h1 : R[j] ∈ (g.nodes[i]).labels → z + 1 = cntL (g.nodes.take (i + 1)) R[j] := fun h => by rw [cntL_take hlt, hz, show labI R[j] g.nodes[i] = 1 from if_pos h]
    have h0 : ¬ R[j] ∈ (g.nodes[i]).labels → z = cntL (g.nodes.take (i + 1)) R[j] := fun h => by rw [cntL_take hlt, hz, show labI R[j] g.nodes[i] = 0 from if_neg h, Int.add_zero]
    clear hz
    (conv => whnf); repeat' (first | (refine callB (hasLabel2 (hlab _ (List.getElem_mem hlt))) (fun hc => ?_) (fun hc => ?_) <;> conv => whnf) | ((with_reducible first | apply kN | apply kW | apply kX | apply kG | apply kQ); (· exact sd); conv => whnf) | (refine pcase.mk ?_ ?_ <;> intro hc <;> (try rw [List.length_nil] at hc) <;> first | (exfalso; omega) | (exact absurd rfl hc) | conv => whnf) | (refine bcase_intro ?_ ?_ <;> intro hc <;> conv => whnf))
    · exact again.mk ⟨_, by omega, i + 1, _, _, rfl, by omega, h1 hc, rfl, rfl⟩
    · exact again.mk ⟨_, by omega, i + 1, _, z, rfl, by omega, h0 hc, rfl, rfl⟩
  · rw [List.take_of_length_le (by omega)] at hz
    subst hz
    (conv => whnf); repeat' (first  | ((with_reducible first | apply kN | apply kW | apply kX | apply kG | apply kQ); (· exact sd); conv => whnf) | (refine pcase.mk ?_ ?_ <;> intro hc <;> (try rw [List.length_nil] at hc) <;> first | (exfalso; omega) | (exact absurd rfl hc) | conv => whnf) | (refine bcase_intro ?_ ?_ <;> intro hc <;> conv => whnf))
    exact hQ _ _
theorem itr00 {g : GG} (hN : g.edges.length ≤ 4000) {g1 g2 c j : Nat} {nn : Bool} {R : List (List UInt8)} (hj : j < R.length) (hR : R.length ≤ 100000000) {o1 o2 : Obj} {Q : AExit → Env → Sto → Prop}
    (hQ : ∀ c' tl, Q (.exit 6) ([(1, .ref 0 0 0 0), (2, .ref 1 g1 0 0), (5, .ref 2 g2 0 0), (10, .sl nn (vs .str R)), (11, .int .i64 j), (12, .int .i64 (cntT g.edges R[j]))] ++ tl) ⟨[.arr 0 4 true true [g.av], o1, o2], c'⟩) :
    Run (findFn tab) (.loop l9_2_h l9_2_b) [(1, .ref 0 0 0 0), (2, .ref 1 g1 0 0), (5, .ref 2 g2 0 0), (10, .sl nn (vs .str R)), (11, .int .i64 j), (12, .int .i64 0), (13, .int .i64 0)] ⟨[.arr 0 4 true true [g.av], o1, o2], c⟩ Q := by
  refine loop_inv (fun m env s => ∃ (i c : Nat) (z : Int), m = g.edges.length - i ∧ i ≤ g.edges.length ∧ z = cntT (g.edges.take i) R[j] ∧ env = [(1, .ref 0 0 0 0), (2, .ref 1 g1 0 0), (5, .ref 2 g2 0 0), (10, .sl nn (vs .str R)), (11, .int .i64 j), (12, .int .i64 z), (13, .int .i64 i)] ∧ s = ⟨[.arr 0 4 true true [g.av], o1, o2], c⟩) ?_ _ _ _ ⟨0, c, 0, rfl, by omega, rfl, rfl, rfl⟩
  rintro _ _ _ ⟨i, c, z, rfl, hi, hz, rfl, rfl⟩
  refine ⟨rfl, ?_⟩
  by_cases hlt : i < g.edges.length
  · have hb := @cntT_bound (g.edges.take i) R[j]
    rw [List.length_take, ← hz] at hb
    have h1 : (g.edges[i]).ty = R[j] → z + 1 = cntT (g.edges.take (i + 1)) R[j] := fun h => by rw [cntT_take hlt, hz, show tyI R[j] g.edges[i] = 1 from if_pos h]
    have h0 : ¬ (g.edges[i]).ty = R[j] → z = cntT (g.edges.take (i + 1)) R[j] := fun h => by rw [cntT_take hlt, hz, show tyI R[j] g.edges[i] = 0 from if_neg h, Int.add_zero]
    clear hz
    (conv => whnf); repeat' (first  | ((with_reducible first | apply kN | apply kW | apply kX | apply kG | apply kQ); (· exact sd); conv => whnf) | (refine pcase.mk ?_ ?_ <;> intro hc <;> (try rw [List.length_nil] at hc) <;> first | (exfalso; omega) | (exact absurd rfl hc) | conv => whnf) | (refine bcase_intro ?_ ?_ <;> intro hc <;> conv => whnf))
    · exact again.mk ⟨_, by omega, i + 1, _, _, rfl, by omega, h1 hc, rfl, rfl⟩
    · exact again.mk ⟨_, by omega, i + 1, _, z, rfl, by omega, h0 hc, rfl, rfl⟩
  · rw [List.take_of_length_le (by omega)] at hz
    subst hz
    (conv => whnf); repeat' (first  | ((with_reducible first | apply kN | apply kW | apply kX | apply kG | apply kQ); (· exact sd); conv => whnf) | (refine pcase.mk ?_ ?_ <;> intro hc <;> (try rw [List.length_nil] at hc) <;> first | (exfalso; omega) | (exact absurd rfl hc) | conv => whnf) | (refine bcase_intro ?_ ?_ <;> intro hc <;> conv => whnf))
    exact hQ _ _
theorem itr10 {g : GG} (hN : g.edges.length ≤ 4000) {g1 g2 c j : Nat} {nn : Bool} {R : List (List UInt8)} (hj : j < R.length) (hR : R.length ≤ 100000000) {o1 o2 o3 : Obj} {Q : AExit → Env → Sto → Prop}
    (hQ : ∀ c' tl, Q (.exit 6) ([(1, .ref 0 0 0 0), (2, .ref 1 g1 0 0), (5, .ref 2 g2 0 0), (10, .sl nn (vs .str R)), (11, .int .i64 j), (12, .int .i64 (cntT g.edges R[j]))] ++ tl) ⟨[.arr 0 4 true true [g.av], o1, o2, o3], c'⟩) :
    Run (findFn tab) (.loop l9_2_h l9_2_b) [(1, .ref 0 0 0 0), (2, .ref 1 g1 0 0), (5, .ref 2 g2 0 0), (10, .sl nn (vs .str R)), (11, .int .i64 j), (12, .int .i64 0), (13, .int .i64 0)] ⟨[.arr 0 4 true true [g.av], o1, o2, o3], c⟩ Q := by
  refine loop_inv (fun m env s => ∃ (i c : Nat) (z : Int), m = g.edges.length - i ∧ i ≤ g.edges.length ∧ z = cntT (g.edges.take i) R[j] ∧ env = [(1, .ref 0 0 0 0), (2, .ref 1 g1 0 0), (5, .ref 2 g2 0 0), (10, .sl nn (vs .str R)), (11, .int .i64 j), (12, .int .i64 z), (13, .int .i64 i)] ∧ s = ⟨[.arr 0 4 true true [g.av], o1, o2, o3], c⟩) ?_ _ _ _ ⟨0, c, 0, rfl, by omega, rfl, rfl, rfl⟩
  rintro _ _ _ ⟨i, c, z, rfl, hi, hz, rfl, rfl⟩
  refine ⟨rfl, ?_⟩
  by_cases hlt : i < g.edges.length
  · have hb := @cntT_bound (g.edges.take i) R[j]
    rw [List.length_take, ← hz] at hb
    have h1 : (g.edges[i]).ty = R[j] → z + 1 = cntT (g.edges.take (i + 1)) R[j] := fun h => by rw [cntT_take hlt, hz, show tyI R[j] g.edges[i] = 1 from if_pos h]
    have h0 : ¬ (g.edges[i]).ty = R[j] → z = cntT (g.edges.take (i + 1)) R[j] := fun h => by rw [cntT_take hlt, hz, show tyI R[j] g.edges[i] = 0 from if_neg h, Int.add_zero]
    clear hz
    (conv => whnf); repeat' (first  | ((with_reducible first | apply kN | apply kW | apply kX | apply kG | apply kQ); (· exact sd); conv => whnf) | (refine pcase.mk ?_ ?_ <;> intro hc <;> (try rw [List.length_nil] at hc) <;> first | (exfalso; omega) | (exact absurd rfl hc) | conv => whnf) | (refine bcase_intro ?_ ?_ <;> intro hc <;> conv => whnf))
    · exact again.mk ⟨_, by omega, i + 1, _, _, rfl, by omega, h1 hc, rfl, rfl⟩
    · exact again.mk ⟨_, by omega, i + 1, _, z, rfl, by omega, h0 hc, rfl, rfl⟩
  · rw [List.take_of_length_le (by omega)] at hz
    subst hz
    (conv => whnf); repeat' (first  | ((with_reducible first | apply kN | apply kW | apply kX | apply kG | apply kQ); (· exact sd); conv => whnf) | (refine pcase.mk ?_ ?_ <;> intro hc <;> (try rw [List.length_nil] at hc) <;> first | (exfalso; omega) | (exact absurd rfl hc) | conv => whnf) | (refine bcase_intro ?_ ?_ <;> intro hc <;> conv => whnf))
    exact hQ _ _
theorem itr01 {g : GG} (hN : g.edges.length ≤ 4000) {g1 g2 c j : Nat} {nn : Bool} {R : List (List UInt8)} (hj : j < R.length) (hR : R.length ≤ 100000000) {o1 o2 o3 o4 o5 : Obj} {Q : AExit → Env → Sto → Prop}
    (hQ : ∀ c' tl, Q (.exit 6) ([(1, .ref 0 0 0 0), (2, .ref 1 g1 0 0), (5, .ref 2 g2 0 0), (10, .sl nn (vs .str R)), (11, .int .i64 j), (12, .int .i64 (cntT g.edges R[j]))] ++ tl) ⟨[.arr 0 4 true true [g.av], o1, o2, o3, o4, o5], c'⟩) :
    Run (findFn tab) (.loop l9_2_h l9_2_b) [(1, .ref 0 0 0 0), (2, .ref 1 g1 0 0), (5, .ref 2 g2 0 0), (10, .sl nn (vs .str R)), (11, .int .i64 j), (12, .int .i64 0), (13, .int .i64 0)] ⟨[.arr 0 4 true true [g.av], o1, o2, o3, o4, o5], c⟩ Q := by
  refine loop_inv (fun m env s => ∃ (i c : Nat) (z : Int), m = g.edges.length - i ∧ i ≤ g.edges.length ∧ z = cntT (g.edges.take i) R[j] ∧ env = [(1, .ref 0 0 0 0), (2, .ref 1 g1 0 0), (5, .ref 2 g2 0 0), (10, .sl nn (vs .str R)), (11, .int .i64 j), (12, .int .i64 z), (13, .int .i64 i)] ∧ s = ⟨[.arr 0 4 true true [g.av], o1, o2, o3, o4, o5], c⟩) ?_ _ _ _ ⟨0, c, 0, rfl, by omega, rfl, rfl, rfl⟩
  rintro _ _ _ ⟨i, c, z, rfl, hi, hz, rfl, rfl⟩
  refine ⟨rfl, ?_⟩
  by_cases hlt : i < g.edges.length
  · have hb := @cntT_bound (g.edges.take i) R[j]
    rw [List.length_take, ← hz] at hb
    have h1 : (g.edges[i]).ty = R[j] → z + 1 = cntT (g.edges.take (i + 1)) R[j] := fun h => by rw [cntT_take hlt, hz, show tyI R[j] g.edges[i] = 1 from if_pos h]
    have h0 : ¬ (g.edges[i]).ty = R[j] → z = cntT (g.edges.take (i + 1)) R[j] := fun h => by rw [cntT_take hlt, hz, show tyI R[j] g.edges[i] = 0 from if_neg h, Int.add_zero]
    clear hz
    (conv => whnf); repeat' (first  | ((with_reducible first | apply kN | apply kW | apply kX | apply kG | apply kQ); (· exact sd); conv => whnf) | (refine pcase.mk ?_ ?_ <;> intro hc <;> (try rw [List.length_nil] at hc) <;> first | (exfalso; omega) | (exact absurd rfl hc) | conv => whnf) | (refine bcase_intro ?_ ?_ <;> intro hc <;> conv => whnf))
    · exact again.mk ⟨_, by omega, i + 1, _, _, rfl, by omega, h1 hc, rfl, rfl⟩
    · exact again.mk ⟨_, by omega, i + 1, _, z, rfl, by omega, h0 hc, rfl, rfl⟩
  · rw [List.take_of_length_le (by omega)] at hz
    subst hz
    (conv => whnf); repeat' (first  | ((with_reducible first | apply kN | apply kW | apply kX | apply kG | apply kQ); (· exact sd); conv => whnf) | (refine pcase.mk ?_ ?_ <;> intro hc <;> (try rw [List.length_nil] at hc) <;> first | (exfalso; omega) | (exact absurd rfl hc) | conv => whnf) | (refine bcase_intro ?_ ?_ <;> intro hc <;> conv => whnf))
    exact hQ _ _
theorem itr11 {g : GG} (hN : g.edges.length ≤ 4000) {g1 g2 c j : Nat} {nn : Bool} {R : List (List UInt8)} (hj : j < R.length) (hR : R.length ≤ 100000000) {o1 o2 o3 o4 o5 o6 : Obj} {Q : AExit → Env → Sto → Prop}
    (hQ : ∀ c' tl, Q (.exit 6) ([(1, .ref 0 0 0 0), (2, .ref 1 g1 0 0), (5, .ref 2 g2 0 0), (10, .sl nn (vs .str R)), (11, .int .i64 j), (12, .int .i64 (cntT g.edges R[j]))] ++ tl) ⟨[.arr 0 4 true true [g.av], o1, o2, o3, o4, o5, o6], c'⟩) :
    Run (findFn tab) (.loop l9_2_h l9_2_b) [(1, .ref 0 0 0 0), (2, .ref 1 g1 0 0), (5, .ref 2 g2 0 0), (10, .sl nn (vs .str R)), (11, .int .i64 j), (12, .int .i64 0), (13, .int .i64 0)] ⟨[.arr 0 4 true true [g.av], o1, o2, o3, o4, o5, o6], c⟩ Q := by
  refine loop_inv (fun m env s => ∃ (i c : Nat) (z : Int), m = g.edges.length - i ∧ i ≤ g.edges.length ∧ z = cntT (g.edges.take i) R[j] ∧ env = [(1, .ref 0 0 0 0), (2, .ref 1 g1 0 0), (5, .ref 2 g2 0 0), (10, .sl nn (vs .str R)), (11, .int .i64 j), (12, .int .i64 z), (13, .int .i64 i)] ∧ s = ⟨[.arr 0 4 true true [g.av], o1, o2, o3, o4, o5, o6], c⟩) ?_ _ _ _ ⟨0, c, 0, rfl, by omega, rfl, rfl, rfl⟩
  rintro _ _ _ ⟨i, c, z, rfl, hi, hz, rfl, rfl⟩
  refine ⟨rfl, ?_⟩
  by_cases hlt : i < g.edges.length
  · have hb := @cntT_bound (g.edges.take i) R[j]
    rw [List.length_take, ← hz] at hb
    have h1 : (g.edges[i]).ty = R[j] → z + 1 = cntT (g.edges.take (i + 1)) R[j] := fun h => by rw [cntT_take hlt, hz, show tyI R[j] g.edges[i] = 1 from if_pos h]
    have h0 : ¬ (g.edges[i]).ty = R[j] → z = cntT (g.edges.take (i + 1)) R[j] := fun h => by rw [cntT_take hlt, hz, show tyI R[j] g.edges[i] = 0 from if_neg h, Int.add_zero]
    clear hz
    (conv => whnf); repeat' (first  | ((with_reducible first | apply kN | apply kW | apply kX | apply kG | apply kQ); (· exact sd); conv => whnf) | (refine pcase.mk ?_ ?_ <;> intro hc <;> (try rw [List.length_nil] at hc) <;> first | (exfalso; omega) | (exact absurd rfl hc) | conv => whnf) | (refine bcase_intro ?_ ?_ <;> intro hc <;> conv => whnf))
    · exact again.mk ⟨_, by omega, i + 1, _, _, rfl, by omega, h1 hc, rfl, rfl⟩
    · exact again.mk ⟨_, by omega, i + 1, _, z, rfl, by omega, h0 hc, rfl, rfl⟩
  · rw [List.take_of_length_le (by omega)] at hz
    subst hz
    (conv => whnf); repeat' (first  | ((with_reducible first | apply kN | apply kW | apply kX | apply kG | apply kQ); (· exact sd); conv => whnf) | (refine pcase.mk ?_ ?_ <;> intro hc <;> (try rw [List.length_nil] at hc) <;> first | (exfalso; omega) | (exact absurd rfl hc) | conv => whnf) | (refine bcase_intro ?_ ?_ <;> intro hc <;> conv => whnf))
    exact hQ _ _

end AI
end Go.Proofs.YtokdbmakkoleiaaGreat
set_option linter.unusedVariables false
namespace Go.Proofs.YtokdbmakkoleiaaGreat
namespace AI

set_option maxHeartbeats 1000000 in
theorem labR {g : GG} (hg : g.ok) (hN : g.nodes.length ≤ 2000) {R : List (List UInt8)} (hR : R.length ≤ 100000000) {nn : Bool} {N E : Int} {o1 : Obj} {c : Nat} {Q : AExit → Env → Sto → Prop}
    (hQ0 : R = [] → ∀ c' tl, Q (.exit 0) ([(1, .ref 0 0 0 0), (2, .ref 1 1 0 0), (5, .ref 2 2 0 0)] ++ tl) ⟨[.arr 0 4 true true [g.av], o1, .arr 2 6 true true [.agg [.int .i64 N, .int .i64 E, .sl false [], .sl false [], .sl false [], .sl false []]]], c'⟩)
    (hQ1 : R ≠ [] → ∀ c' g3 tl, Q (.exit 0) ([(1, .ref 0 0 0 0), (2, .ref 1 1 0 0), (5, .ref 2 2 0 0)] ++ tl) ⟨[.arr 0 4 true true [g.av], o1, .arr 2 6 true false [.agg [.int .i64 N, .int .i64 E, .own 3 g3 0 R.length, .sl false [], .sl false [], .sl false []]], .arr g3 2 true true (vs CN.av (cnts (cntL g.nodes) R))], c'⟩) :
    Run (findFn tab) (.loop l9_1_h l9_1_b) [(1, .ref 0 0 0 0), (2, .ref 1 1 0 0), (5, .ref 2 2 0 0), (6, .sl nn (vs .str R)), (7, .int .i64 0)] ⟨[.arr 0 4 true true [g.av], o1, .arr 2 6 true true [.agg [.int .i64 N, .int .i64 E, .sl false [], .sl false [], .sl false [], .sl false []]]], c⟩ Q := by
  refine loop_inv (fun m env s => ∃ (i c : Nat), m = R.length - i ∧ i ≤ R.length ∧ env = [(1, .ref 0 0 0 0), (2, .ref 1 1 0 0), (5, .ref 2 2 0 0), (6, .sl nn (vs .str R)), (7, .int .i64 i)] ∧
    (i = 0 ∧ s = ⟨[.arr 0 4 true true [g.av], o1, .arr 2 6 true true [.agg [.int .i64 N, .int .i64 E, .sl false [], .sl false [], .sl false [], .sl false []]]], c⟩ ∨
     0 < i ∧ ∃ g3 n L, n = i ∧ L = cnts (cntL g.nodes) (R.take i) ∧ n = L.length ∧ s = ⟨[.arr 0 4 true true [g.av], o1, .arr 2 6 true false [.agg [.int .i64 N, .int .i64 E, .own 3 g3 0 n, .sl false [], .sl false [], .sl false []]], .arr g3 2 true true (vs CN.av L)], c⟩)) ?_ _ _ _ ⟨0, c, rfl, by omega, rfl, .inl ⟨rfl, rfl⟩⟩
  rintro _ _ _ ⟨i, c, rfl, hi, rfl, h⟩
  have hgl : g.nodes.length < 2^62 := by omega
  rcases h with ⟨rfl, rfl⟩ | ⟨hpos, g3, n, L, hni, hLe, hn, rfl⟩
  · refine ⟨rfl, ?_⟩
    by_cases hlt : 0 < R.length
    · have hs := @cnts_succ (cntL g.nodes) R 0 hlt
      (conv => whnf); repeat' (first  | ((with_reducible first | apply kN | apply kW | apply kX | apply kG | apply kQ); (· exact sd); conv => whnf) | (refine pcase.mk ?_ ?_ <;> intro hc <;> (try rw [List.length_nil] at hc) <;> first | (exfalso; omega) | (exact absurd rfl hc) | conv => whnf) | (refine bcase_intro ?_ ?_ <;> intro hc <;> conv => whnf))
      refine ilr0 hg hN hlt hR ?_
      intro c' tl
      (conv => whnf); repeat' (first | (refine apV1 (l := []) (x := (⟨R[0], cntL g.nodes R[0]⟩ : CN)) cellsC rfl (by simp) ?_; conv => whnf) | ((with_reducible first | apply kN | apply kW | apply kX | apply kG | apply kQ); (· exact sd); conv => whnf) | (refine pcase.mk ?_ ?_ <;> intro hc <;> (try rw [List.length_nil] at hc) <;> first | (exfalso; omega) | (exact absurd rfl hc) | conv => whnf) | (refine bcase_intro ?_ ?_ <;> intro hc <;> conv => whnf))
      exact again.mk ⟨_, by omega, 1, _, rfl, by omega, rfl, .inr ⟨by omega, _, _, _, rfl, hs.symm, rfl, rfl⟩⟩
    · (conv => whnf); repeat' (first  | ((with_reducible first | apply kN | apply kW | apply kX | apply kG | apply kQ); (· exact sd); conv => whnf) | (refine pcase.mk ?_ ?_ <;> intro hc <;> (try rw [List.length_nil] at hc) <;> first | (exfalso; omega) | (exact absurd rfl hc) | conv => whnf) | (refine bcase_intro ?_ ?_ <;> intro hc <;> conv => whnf))
      exact hQ0 (List.eq_nil_of_length_eq_zero (by omega)) _ _
  · refine ⟨rfl, ?_⟩
    by_cases hlt : i < R.length
    · have hs := @cnts_succ (cntL g.nodes) R i hlt
      (conv => whnf); repeat' (first  | ((with_reducible first | apply kN | apply kW | apply kX | apply kG | apply kQ); (· exact sd); conv => whnf) | (refine pcase.mk ?_ ?_ <;> intro hc <;> (try rw [List.length_nil] at hc) <;> first | (exfalso; omega) | (exact absurd rfl hc) | conv => whnf) | (refine bcase_intro ?_ ?_ <;> intro hc <;> conv => whnf))
      refine ilr1 hg hN hlt hR ?_
      intro c' tl
      (conv => whnf); repeat' (first | (refine apV1 (x := (⟨R[i], cntL g.nodes R[i]⟩ : CN)) cellsC hn (by omega) ?_; conv => whnf) | ((with_reducible first | apply kN | apply kW | apply kX | apply kG | apply kQ); (· exact sd); conv => whnf) | (refine pcase.mk ?_ ?_ <;> intro hc <;> (try rw [List.length_nil] at hc) <;> first | (exfalso; omega) | (exact absurd rfl hc) | conv => whnf) | (refine bcase_intro ?_ ?_ <;> intro hc <;> conv => whnf))
      rw [← hLe] at hs
      exact again.mk ⟨_, by omega, i + 1, _, rfl, by omega, rfl, .inr ⟨by omega, _, _, _, by omega, hs.symm, by simp, rfl⟩⟩
    · rw [List.take_of_length_le (by omega)] at hLe
      (conv => whnf); repeat' (first  | ((with_reducible first | apply kN | apply kW | apply kX | apply kG | apply kQ); (· exact sd); conv => whnf) | (refine pcase.mk ?_ ?_ <;> intro hc <;> (try rw [List.length_nil] at hc) <;> first | (exfalso; omega) | (exact absurd rfl hc) | conv => whnf) | (refine bcase_intro ?_ ?_ <;> intro hc <;> conv => whnf))
      subst hLe
      obtain rfl : n = R.length := by omega
      exact hQ1 (fun h => by rw [h] at hni; simp at hni; omega) _ _ _

end AI
end Go.Proofs.YtokdbmakkoleiaaGreat
