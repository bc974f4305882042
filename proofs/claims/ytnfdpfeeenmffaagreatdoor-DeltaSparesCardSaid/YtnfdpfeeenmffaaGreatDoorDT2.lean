/- Few changes; the reference's ApplyAll: what it leaves alone. The law's graph without some nodes and edges. Graphs with the same nodes and edges are alike. -/
import Derived.Test.YtnfdpfeeenmffaaGreatDoorDtE
import Derived.Test.YtnfdpfeeenmffaaGreatDoorDT1
import Derived.Test.YtnfdpfeeenmffaaGreatDoorMZ
import Derived.Test.YtnfdpfeeenmffaaGreatDoorDT4
set_option linter.unusedVariables false
set_option maxRecDepth 4000
namespace Go.Proofs.YtnfdpfeeenmffaaGreatDoor
namespace AI

theorem fewC {L : List GC} {nn : Bool} (hL : Ln L) (hc : ∀ c ∈ L, c.ok) : PureP (findFn tab) 5 [.sl nn (vs GC.av L), .int .i64 30] (fun v => ∃ b, v = .bool b ∧ (b = true → L.length ≤ 30)) := by
  unfold Ln at hL
  refine pureP_of rfl rfl ?_
  (conv => whnf); repeat' (first  | ((with_reducible first | apply kN | apply kW | apply kX | apply kG | apply kQ); (· exact sd); conv => whnf) | (refine pcase.mk ?_ ?_ <;> intro hc <;> (try rw [List.length_nil] at hc) <;> first | (exfalso; omega) | (exact absurd rfl hc) | conv => whnf) | (refine bcase_intro ?_ ?_ <;> intro hc <;> conv => whnf))
  refine loop_inv (fun m env s => ∃ (i : Nat) (left : Int), m = L.length - i ∧ -368934881474191048 ≤ left ∧ left ≤ 2000 ∧ env = [(0, .sl nn (vs GC.av L)), (1, .int .i64 30), (5, .int .i64 left), (6, .int .i64 i)] ∧ s = ⟨[], 0⟩) ?_ _ _ _ ⟨0, _, rfl, by omega, by omega, rfl, rfl⟩
  rintro _ _ _ ⟨i, left, rfl, h1, h2, rfl, rfl⟩
  refine ⟨rfl, ?_⟩
  by_cases hlt : i < L.length
  · have hci := hc _ (List.getElem_mem hlt)
    have hk : (L[i]).name.length < 2^63 := hci.2.2.2.2.1
    (conv => whnf); repeat' (first | (refine wrapQ hk ?_; conv => whnf) | (have hwr := hk; apply wrapK_intro; (· exact wrap_i64 (by omega) (by omega)); clear hwr; conv => whnf) | (refine callK_of (wei 12 (by omega) hci.2.2.2.2.2 (by omega) (by omega)) ?_; rintro _ ⟨r, rfl, r1, r2, r3⟩; conv => whnf) | ((with_reducible first | apply kN | apply kW | apply kX | apply kG | apply kQ); (· exact sd); conv => whnf) | (refine pcase.mk ?_ ?_ <;> intro hc <;> (try rw [List.length_nil] at hc) <;> first | (exfalso; omega) | (exact absurd rfl hc) | conv => whnf) | (refine bcase_intro ?_ ?_ <;> intro hc <;> conv => whnf))
    all_goals first
      | exact again.mk ⟨_, by omega, i + 1, _, rfl, by omega, by omega, rfl, rfl⟩
      | exact ⟨_, rfl, fun h => by omega⟩
      | exact ⟨_, rfl, fun h => Bool.noConfusion h⟩
      | (trace_state; fail "fewC")
  · (conv => whnf); repeat' (first  | ((with_reducible first | apply kN | apply kW | apply kX | apply kG | apply kQ); (· exact sd); conv => whnf) | (refine pcase.mk ?_ ?_ <;> intro hc <;> (try rw [List.length_nil] at hc) <;> first | (exfalso; omega) | (exact absurd rfl hc) | conv => whnf) | (refine bcase_intro ?_ ?_ <;> intro hc <;> conv => whnf))
    all_goals first
      | exact ⟨_, rfl, fun h => by omega⟩
      | exact ⟨_, rfl, fun h => Bool.noConfusion h⟩
      | (trace_state; fail "fewC2")

theorem FewG.mono {a b a' b' : Nat} {g : GG} (h : FewG a b g) (ha : a ≤ a') (hb : b ≤ b') : FewG a' b' g := ⟨h.1, by have := h.2.1; omega, by have := h.2.2.1; omega, h.2.2.2⟩

set_option maxHeartbeats 2000000 in
theorem applyR {g : GG} {L : List GC} {nn : Bool} {ns es : List Int} (hg : FewG 100 100 g) (hL : L.length ≤ 30) (hcc : ∀ c ∈ L, c.ok) (hw : ∀ c ∈ L, Within ns es c) :
    PureP (findFn tab) 7 [g.av, .sl nn (vs GC.av L)] (fun v => ∃ (h : GG) (k e : Int), v = .tup [h.av, .int .i64 k, .int .i64 e] ∧ (e = 0 → FewG 130 130 h ∧ Spares ns es g h)) := by
  have hck := checkR hg.1
  refine pureP_of rfl rfl ?_
  (conv => whnf); repeat' (first | (refine callK_of hck ?_; rintro _ rfl; conv => whnf) | ((with_reducible first | apply kN | apply kW | apply kX | apply kG | apply kQ); (· exact sd); conv => whnf) | (refine pcase.mk ?_ ?_ <;> intro hc <;> (try rw [List.length_nil] at hc) <;> first | (exfalso; omega) | (exact absurd rfl hc) | conv => whnf) | (refine bcase_intro ?_ ?_ <;> intro hc <;> conv => whnf))
  all_goals try exact ⟨gz, _, _, rfl, fun h => absurd h (by assumption)⟩
  refine loop_inv (fun m env s => ∃ (i c : Nat) (h : GG), m = L.length - i ∧ i ≤ L.length ∧ FewG (100 + i) (100 + i) h ∧ Spares ns es g h ∧ env = [(1, .sl nn (vs GC.av L)), (2, .ref 0 0 0 0), (4, .ref 1 1 0 0), (8, .int .i64 i)] ∧ s = ⟨[.arr 0 4 true true [h.av], .arr 1 4 true true [gz.av]], c⟩) ?_ _ _ _ ⟨0, _, g, rfl, by omega, hg, Spares.refl _ _ _, rfl, rfl⟩
  rintro _ _ _ ⟨i, c, h, rfl, hi, hh, hs, rfl, rfl⟩
  refine ⟨rfl, ?_⟩
  by_cases hlt : i < L.length
  · have hci := hcc _ (List.getElem_mem hlt)
    have hwi := hw _ (List.getElem_mem hlt)
    (conv => whnf); repeat' (first | (refine callK_of (stepR hh (by omega) (by omega) hci hwi) ?_; rintro _ ⟨k, e, rfl, hk⟩; conv => whnf) | ((with_reducible first | apply kN | apply kW | apply kX | apply kG | apply kQ); (· exact sd); conv => whnf) | (refine pcase.mk ?_ ?_ <;> intro hc <;> (try rw [List.length_nil] at hc) <;> first | (exfalso; omega) | (exact absurd rfl hc) | conv => whnf) | (refine bcase_intro ?_ ?_ <;> intro hc <;> conv => whnf))
    all_goals first
      | exact ⟨gz, _, _, rfl, fun h => absurd h (by assumption)⟩
      | (obtain ⟨n1, n2, n3, n4, n5, n6⟩ := hk (by omega)
         exact again.mk ⟨_, by omega, i + 1, _, k, rfl, by omega, ⟨n1, by have := hh.2.1; omega, by have := hh.2.2.1; omega, n4, n5⟩, hs.trans n6, rfl, rfl⟩)
      | (trace_state; fail "applyR")
  · (conv => whnf); repeat' (first  | ((with_reducible first | apply kN | apply kW | apply kX | apply kG | apply kQ); (· exact sd); conv => whnf) | (refine pcase.mk ?_ ?_ <;> intro hc <;> (try rw [List.length_nil] at hc) <;> first | (exfalso; omega) | (exact absurd rfl hc) | conv => whnf) | (refine bcase_intro ?_ ?_ <;> intro hc <;> conv => whnf))
    all_goals first
      | exact ⟨h, _, _, rfl, fun _ => ⟨hh.mono (by omega) (by omega), hs⟩⟩
      | (trace_state; fail "applyR2")

end AI
end Go.Proofs.YtnfdpfeeenmffaaGreatDoor
set_option linter.unusedVariables false
namespace Go.Proofs.YtnfdpfeeenmffaaGreatDoor
namespace AI

theorem hasI {l : List Int} {x : Int} {nn : Bool} (hl : l.length < 2^63) : PureP (findFn tab) 21 [.sl nn (vs (.int .i64) l), .int .i64 x] (· = .bool (decide (x ∈ l))) := by
  refine pureP_of rfl rfl ?_
  (conv => whnf); repeat' (first  | ((with_reducible first | apply kN | apply kW | apply kX | apply kG | apply kQ); (· exact sd); conv => whnf) | (refine pcase.mk ?_ ?_ <;> intro hc <;> (try rw [List.length_nil] at hc) <;> first | (exfalso; omega) | (exact absurd rfl hc) | conv => whnf) | (refine bcase_intro ?_ ?_ <;> intro hc <;> conv => whnf))
  refine loop_inv (fun m env s => ∃ i : Nat, m = l.length - i ∧ env = [(1, .int .i64 x), (7, .sl nn (vs (.int .i64) l)), (8, .int .i64 l.length), (9, .int .i64 i)] ∧ s = ⟨[], 0⟩ ∧ x ∉ l.take i) ?_ _ _ _ ⟨0, rfl, by first | rfl | (rw [← lV (f := .int .i64) l]; rfl), rfl, by simp⟩
  rintro _ _ _ ⟨i, rfl, rfl, rfl, hx⟩
  refine ⟨rfl, ?_⟩
  by_cases hlt : i < l.length
  · (conv => whnf); repeat' (first  | ((with_reducible first | apply kN | apply kW | apply kX | apply kG | apply kQ); (· exact sd); conv => whnf) | (refine pcase.mk ?_ ?_ <;> intro hc <;> (try rw [List.length_nil] at hc) <;> first | (exfalso; omega) | (exact absurd rfl hc) | conv => whnf) | (refine bcase_intro ?_ ?_ <;> intro hc <;> conv => whnf))
    all_goals first
      | (refine bool_t ?_; rw [← show l[i] = x by assumption]; exact List.getElem_mem hlt)
      | exact again.mk ⟨_, by omega, i + 1, rfl, rfl, rfl, not_mem_take_succ hlt hx (by assumption)⟩
      | (trace_state; fail "hasI")
  · rw [List.take_of_length_le (by omega)] at hx
    (conv => whnf); repeat' (first  | ((with_reducible first | apply kN | apply kW | apply kX | apply kG | apply kQ); (· exact sd); conv => whnf) | (refine pcase.mk ?_ ?_ <;> intro hc <;> (try rw [List.length_nil] at hc) <;> first | (exfalso; omega) | (exact absurd rfl hc) | conv => whnf) | (refine bcase_intro ?_ ?_ <;> intro hc <;> conv => whnf))
    all_goals first | exact bool_f hx | (trace_state; fail "hasI2")

set_option maxHeartbeats 2000000 in
theorem wiN {g : GG} {ns es : List Int} {bn be : Bool} (hg : FewG 200 200 g) (hns : ns.length ≤ 1000) {c : Nat} {Q : AExit → Env → Sto → Prop}
    (hQ0 : keepN ns g.nodes = [] → ∀ c' tl, Q (.exit 0) ([(1, .sl bn (vs (.int .i64) ns)), (2, .sl be (vs (.int .i64) es)), (3, .ref 0 0 0 0), (6, .ref 1 1 0 0), (7, .ref 2 2 0 0)] ++ tl) ⟨[.arr 0 4 true true [g.av], .arr 1 4 true true [gz.av], .arr 2 4 true true [gz.av]], c'⟩)
    (hQ1 : keepN ns g.nodes ≠ [] → ∀ c' ga n tl, n = (keepN ns g.nodes).length → Q (.exit 0) ([(1, .sl bn (vs (.int .i64) ns)), (2, .sl be (vs (.int .i64) es)), (3, .ref 0 0 0 0), (6, .ref 1 1 0 0), (7, .ref 2 2 0 0)] ++ tl) ⟨[.arr 0 4 true true [g.av], .arr 1 4 true true [gz.av], .arr 2 4 true false [.agg [.own 3 ga 0 n, .sl false [], .int .i64 0, .int .i64 0]], .arr ga 3 true true (vs GN.av (keepN ns g.nodes))], c'⟩) :
    Run (findFn tab) (.loop l9_0_h l9_0_b) [(1, .sl bn (vs (.int .i64) ns)), (2, .sl be (vs (.int .i64) es)), (3, .ref 0 0 0 0), (6, .ref 1 1 0 0), (7, .ref 2 2 0 0), (13, .sl g.nn (vs GN.av g.nodes)), (14, .int .i64 g.nodes.length), (15, .int .i64 0)] ⟨[.arr 0 4 true true [g.av], .arr 1 4 true true [gz.av], .arr 2 4 true true [gz.av]], c⟩ Q := by
  have hE := hg.2.1
  refine loop_inv (fun z env s => ∃ (i c : Nat) (L : List GN), z = g.nodes.length - i ∧ i ≤ g.nodes.length ∧ L = keepN ns (g.nodes.take i) ∧ env = [(1, .sl bn (vs (.int .i64) ns)), (2, .sl be (vs (.int .i64) es)), (3, .ref 0 0 0 0), (6, .ref 1 1 0 0), (7, .ref 2 2 0 0), (13, .sl g.nn (vs GN.av g.nodes)), (14, .int .i64 g.nodes.length), (15, .int .i64 i)] ∧
    (L = [] ∧ s = ⟨[.arr 0 4 true true [g.av], .arr 1 4 true true [gz.av], .arr 2 4 true true [gz.av]], c⟩ ∨
     L ≠ [] ∧ ∃ ga n, n = L.length ∧ L.length ≤ i ∧ s = ⟨[.arr 0 4 true true [g.av], .arr 1 4 true true [gz.av], .arr 2 4 true false [.agg [.own 3 ga 0 n, .sl false [], .int .i64 0, .int .i64 0]], .arr ga 3 true true (vs GN.av L)], c⟩)) ?_ _ _ _ ⟨0, _, [], rfl, by omega, rfl, rfl, .inl ⟨rfl, rfl⟩⟩
  rintro _ _ _ ⟨i, c, L, rfl, hi, hL, rfl, h⟩
  refine ⟨?_, ?_⟩
  · rcases h with ⟨_, rfl⟩ | ⟨_, _, _, _, _, rfl⟩ <;> rfl
  by_cases hlt : i < g.nodes.length
  · have hsy : (g.nodes[i]).id ∈ ns → L = keepN ns (g.nodes.take (i + 1)) := fun h => by rw [keepN_succ hlt, keepN_in h, List.append_nil, hL]
    have hsn : ¬ (g.nodes[i]).id ∈ ns → L ++ [g.nodes[i]] = keepN ns (g.nodes.take (i + 1)) := fun h => by rw [keepN_succ hlt, hL]; simp [keepN, h]
    rcases h with ⟨hnil, rfl⟩ | ⟨hne, ga, n, hn, hni, rfl⟩
    · (conv => whnf); repeat' (first | (refine callB (hasI (l := ns) (nn := bn) (x := (g.nodes[i]).id) (by omega)) (fun hb => ?_) (fun hb => ?_) <;> conv => whnf) | (refine apV1 (l := []) (x := g.nodes[i]) cellsN rfl (by simp) ?_; conv => whnf) | ((with_reducible first | apply kN | apply kW | apply kX | apply kG | apply kQ); (· exact sd); conv => whnf) | (refine pcase.mk ?_ ?_ <;> intro hc <;> (try rw [List.length_nil] at hc) <;> first | (exfalso; omega) | (exact absurd rfl hc) | conv => whnf) | (refine bcase_intro ?_ ?_ <;> intro hc <;> conv => whnf))
      all_goals first
        | exact again.mk ⟨_, by omega, i + 1, _, L, rfl, by omega, hsy hb, rfl, .inl ⟨hnil, rfl⟩⟩
        | exact again.mk ⟨_, by omega, i + 1, _, [g.nodes[i]], rfl, by omega, by rw [← hsn hb, hnil]; rfl, rfl, .inr ⟨by simp, _, _, rfl, by simp, rfl⟩⟩
        | (trace_state; fail "wiN1")
    · (conv => whnf); repeat' (first | (refine callB (hasI (l := ns) (nn := bn) (x := (g.nodes[i]).id) (by omega)) (fun hb => ?_) (fun hb => ?_) <;> conv => whnf) | (refine apV1 (l := L) (x := g.nodes[i]) cellsN hn (by omega) ?_; conv => whnf) | ((with_reducible first | apply kN | apply kW | apply kX | apply kG | apply kQ); (· exact sd); conv => whnf) | (refine pcase.mk ?_ ?_ <;> intro hc <;> (try rw [List.length_nil] at hc) <;> first | (exfalso; omega) | (exact absurd rfl hc) | conv => whnf) | (refine bcase_intro ?_ ?_ <;> intro hc <;> conv => whnf))
      all_goals first
        | exact again.mk ⟨_, by omega, i + 1, _, L, rfl, by omega, hsy hb, rfl, .inr ⟨hne, _, _, hn, by omega, rfl⟩⟩
        | exact again.mk ⟨_, by omega, i + 1, _, L ++ [g.nodes[i]], rfl, by omega, hsn hb, rfl, .inr ⟨by simp, _, _, by simp, by simp; omega, rfl⟩⟩
        | (trace_state; fail "wiN2")
  · rw [List.take_of_length_le (by omega)] at hL
    subst hL
    rcases h with ⟨hnil, rfl⟩ | ⟨hne, ga, n, hn, hni, rfl⟩
    · (conv => whnf); repeat' (first  | ((with_reducible first | apply kN | apply kW | apply kX | apply kG | apply kQ); (· exact sd); conv => whnf) | (refine pcase.mk ?_ ?_ <;> intro hc <;> (try rw [List.length_nil] at hc) <;> first | (exfalso; omega) | (exact absurd rfl hc) | conv => whnf) | (refine bcase_intro ?_ ?_ <;> intro hc <;> conv => whnf))
      exact hQ0 hnil _ _
    · (conv => whnf); repeat' (first  | ((with_reducible first | apply kN | apply kW | apply kX | apply kG | apply kQ); (· exact sd); conv => whnf) | (refine pcase.mk ?_ ?_ <;> intro hc <;> (try rw [List.length_nil] at hc) <;> first | (exfalso; omega) | (exact absurd rfl hc) | conv => whnf) | (refine bcase_intro ?_ ?_ <;> intro hc <;> conv => whnf))
      exact hQ1 hne _ _ _ _ hn

set_option maxHeartbeats 2000000 in
theorem wiE0 {g : GG} {es : List Int} {be : Bool} (hg : FewG 200 200 g) (hes : es.length ≤ 1000) {c : Nat} {Q : AExit → Env → Sto → Prop}
    (hQ0 : keepE es g.edges = [] → ∀ c' tl, Q (.exit 2) ([(2, .sl be (vs (.int .i64) es)), (6, .ref 1 1 0 0), (7, .ref 2 2 0 0)] ++ tl) ⟨[.arr 0 4 true true [g.av], .arr 1 4 true true [gz.av], .arr 2 4 true true [.agg [.sl false [], .sl false [], .int .i64 0, .int .i64 0]]], c'⟩)
    (hQ1 : keepE es g.edges ≠ [] → ∀ c' gb m tl, m = (keepE es g.edges).length → Q (.exit 2) ([(2, .sl be (vs (.int .i64) es)), (6, .ref 1 1 0 0), (7, .ref 2 2 0 0)] ++ tl) ⟨[.arr 0 4 true true [g.av], .arr 1 4 true true [gz.av], .arr 2 4 true false [.agg [.sl false [], .own 3 gb 0 m, .int .i64 0, .int .i64 0]], .arr gb 5 true true (vs GE.av (keepE es g.edges))], c'⟩) :
    Run (findFn tab) (.loop l9_1_h l9_1_b) [(2, .sl be (vs (.int .i64) es)), (6, .ref 1 1 0 0), (7, .ref 2 2 0 0), (32, .sl g.en (vs GE.av g.edges)), (33, .int .i64 g.edges.length), (34, .int .i64 0)] ⟨[.arr 0 4 true true [g.av], .arr 1 4 true true [gz.av], .arr 2 4 true true [.agg [.sl false [], .sl false [], .int .i64 0, .int .i64 0]]], c⟩ Q := by
  have hE := hg.2.2.1
  refine loop_inv (fun z env s => ∃ (i c : Nat) (L : List GE), z = g.edges.length - i ∧ i ≤ g.edges.length ∧ L = keepE es (g.edges.take i) ∧ env = [(2, .sl be (vs (.int .i64) es)), (6, .ref 1 1 0 0), (7, .ref 2 2 0 0), (32, .sl g.en (vs GE.av g.edges)), (33, .int .i64 g.edges.length), (34, .int .i64 i)] ∧
    (L = [] ∧ s = ⟨[.arr 0 4 true true [g.av], .arr 1 4 true true [gz.av], .arr 2 4 true true [.agg [.sl false [], .sl false [], .int .i64 0, .int .i64 0]]], c⟩ ∨
     L ≠ [] ∧ ∃ gb m, m = L.length ∧ L.length ≤ i ∧ s = ⟨[.arr 0 4 true true [g.av], .arr 1 4 true true [gz.av], .arr 2 4 true false [.agg [.sl false [], .own 3 gb 0 m, .int .i64 0, .int .i64 0]], .arr gb 5 true true (vs GE.av L)], c⟩)) ?_ _ _ _ ⟨0, _, [], rfl, by omega, rfl, rfl, .inl ⟨rfl, rfl⟩⟩
  rintro _ _ _ ⟨i, c, L, rfl, hi, hL, rfl, h⟩
  refine ⟨?_, ?_⟩
  · rcases h with ⟨_, rfl⟩ | ⟨_, _, _, _, _, rfl⟩ <;> rfl
  by_cases hlt : i < g.edges.length
  · have hsy : (g.edges[i]).id ∈ es → L = keepE es (g.edges.take (i + 1)) := fun h => by rw [keepE_succ hlt, keepE_in h, List.append_nil, hL]
    have hsn : ¬ (g.edges[i]).id ∈ es → L ++ [g.edges[i]] = keepE es (g.edges.take (i + 1)) := fun h => by rw [keepE_succ hlt, hL]; simp [keepE, h]
    rcases h with ⟨hnil, rfl⟩ | ⟨hne, gb, m, hm, hmi, rfl⟩
    · (conv => whnf); repeat' (first | (refine callB (hasI (l := es) (nn := be) (x := (g.edges[i]).id) (by omega)) (fun hb => ?_) (fun hb => ?_) <;> conv => whnf) | (refine apV1 (l := []) (x := g.edges[i]) cellsE rfl (by simp) ?_; conv => whnf) | ((with_reducible first | apply kN | apply kW | apply kX | apply kG | apply kQ); (· exact sd); conv => whnf) | (refine pcase.mk ?_ ?_ <;> intro hc <;> (try rw [List.length_nil] at hc) <;> first | (exfalso; omega) | (exact absurd rfl hc) | conv => whnf) | (refine bcase_intro ?_ ?_ <;> intro hc <;> conv => whnf))
      all_goals first
        | exact again.mk ⟨_, by omega, i + 1, _, L, rfl, by omega, hsy hb, rfl, .inl ⟨hnil, rfl⟩⟩
        | exact again.mk ⟨_, by omega, i + 1, _, [g.edges[i]], rfl, by omega, by rw [← hsn hb, hnil]; rfl, rfl, .inr ⟨by simp, _, _, rfl, by simp, rfl⟩⟩
        | (trace_state; fail "wiE1")
    · (conv => whnf); repeat' (first | (refine callB (hasI (l := es) (nn := be) (x := (g.edges[i]).id) (by omega)) (fun hb => ?_) (fun hb => ?_) <;> conv => whnf) | (refine apV1 (l := L) (x := g.edges[i]) cellsE hm (by omega) ?_; conv => whnf) | ((with_reducible first | apply kN | apply kW | apply kX | apply kG | apply kQ); (· exact sd); conv => whnf) | (refine pcase.mk ?_ ?_ <;> intro hc <;> (try rw [List.length_nil] at hc) <;> first | (exfalso; omega) | (exact absurd rfl hc) | conv => whnf) | (refine bcase_intro ?_ ?_ <;> intro hc <;> conv => whnf))
      all_goals first
        | exact again.mk ⟨_, by omega, i + 1, _, L, rfl, by omega, hsy hb, rfl, .inr ⟨hne, _, _, hm, by omega, rfl⟩⟩
        | exact again.mk ⟨_, by omega, i + 1, _, L ++ [g.edges[i]], rfl, by omega, hsn hb, rfl, .inr ⟨by simp, _, _, by simp, by simp; omega, rfl⟩⟩
        | (trace_state; fail "wiE2")
  · rw [List.take_of_length_le (by omega)] at hL
    subst hL
    rcases h with ⟨hnil, rfl⟩ | ⟨hne, gb, m, hm, hmi, rfl⟩
    · (conv => whnf); repeat' (first  | ((with_reducible first | apply kN | apply kW | apply kX | apply kG | apply kQ); (· exact sd); conv => whnf) | (refine pcase.mk ?_ ?_ <;> intro hc <;> (try rw [List.length_nil] at hc) <;> first | (exfalso; omega) | (exact absurd rfl hc) | conv => whnf) | (refine bcase_intro ?_ ?_ <;> intro hc <;> conv => whnf))
      exact hQ0 hnil _ _
    · (conv => whnf); repeat' (first  | ((with_reducible first | apply kN | apply kW | apply kX | apply kG | apply kQ); (· exact sd); conv => whnf) | (refine pcase.mk ?_ ?_ <;> intro hc <;> (try rw [List.length_nil] at hc) <;> first | (exfalso; omega) | (exact absurd rfl hc) | conv => whnf) | (refine bcase_intro ?_ ?_ <;> intro hc <;> conv => whnf))
      exact hQ1 hne _ _ _ _ hm
set_option maxHeartbeats 2000000 in
theorem wiE1 {g : GG} {es : List Int} {be : Bool} (hg : FewG 200 200 g) (hes : es.length ≤ 1000) {c : Nat} {ga n : Nat} {o3 : Obj} {Q : AExit → Env → Sto → Prop}
    (hQ0 : keepE es g.edges = [] → ∀ c' tl, Q (.exit 2) ([(2, .sl be (vs (.int .i64) es)), (6, .ref 1 1 0 0), (7, .ref 2 2 0 0)] ++ tl) ⟨[.arr 0 4 true true [g.av], .arr 1 4 true true [gz.av], .arr 2 4 true false [.agg [.own 3 ga 0 n, .sl false [], .int .i64 0, .int .i64 0]], o3], c'⟩)
    (hQ1 : keepE es g.edges ≠ [] → ∀ c' gb m tl, m = (keepE es g.edges).length → Q (.exit 2) ([(2, .sl be (vs (.int .i64) es)), (6, .ref 1 1 0 0), (7, .ref 2 2 0 0)] ++ tl) ⟨[.arr 0 4 true true [g.av], .arr 1 4 true true [gz.av], .arr 2 4 true false [.agg [.own 3 ga 0 n, .own 4 gb 0 m, .int .i64 0, .int .i64 0]], o3, .arr gb 5 true true (vs GE.av (keepE es g.edges))], c'⟩) :
    Run (findFn tab) (.loop l9_1_h l9_1_b) [(2, .sl be (vs (.int .i64) es)), (6, .ref 1 1 0 0), (7, .ref 2 2 0 0), (32, .sl g.en (vs GE.av g.edges)), (33, .int .i64 g.edges.length), (34, .int .i64 0)] ⟨[.arr 0 4 true true [g.av], .arr 1 4 true true [gz.av], .arr 2 4 true false [.agg [.own 3 ga 0 n, .sl false [], .int .i64 0, .int .i64 0]], o3], c⟩ Q := by
  have hE := hg.2.2.1
  refine loop_inv (fun z env s => ∃ (i c : Nat) (L : List GE), z = g.edges.length - i ∧ i ≤ g.edges.length ∧ L = keepE es (g.edges.take i) ∧ env = [(2, .sl be (vs (.int .i64) es)), (6, .ref 1 1 0 0), (7, .ref 2 2 0 0), (32, .sl g.en (vs GE.av g.edges)), (33, .int .i64 g.edges.length), (34, .int .i64 i)] ∧
    (L = [] ∧ s = ⟨[.arr 0 4 true true [g.av], .arr 1 4 true true [gz.av], .arr 2 4 true false [.agg [.own 3 ga 0 n, .sl false [], .int .i64 0, .int .i64 0]], o3], c⟩ ∨
     L ≠ [] ∧ ∃ gb m, m = L.length ∧ L.length ≤ i ∧ s = ⟨[.arr 0 4 true true [g.av], .arr 1 4 true true [gz.av], .arr 2 4 true false [.agg [.own 3 ga 0 n, .own 4 gb 0 m, .int .i64 0, .int .i64 0]], o3, .arr gb 5 true true (vs GE.av L)], c⟩)) ?_ _ _ _ ⟨0, _, [], rfl, by omega, rfl, rfl, .inl ⟨rfl, rfl⟩⟩
  rintro _ _ _ ⟨i, c, L, rfl, hi, hL, rfl, h⟩
  refine ⟨?_, ?_⟩
  · rcases h with ⟨_, rfl⟩ | ⟨_, _, _, _, _, rfl⟩ <;> rfl
  by_cases hlt : i < g.edges.length
  · have hsy : (g.edges[i]).id ∈ es → L = keepE es (g.edges.take (i + 1)) := fun h => by rw [keepE_succ hlt, keepE_in h, List.append_nil, hL]
    have hsn : ¬ (g.edges[i]).id ∈ es → L ++ [g.edges[i]] = keepE es (g.edges.take (i + 1)) := fun h => by rw [keepE_succ hlt, hL]; simp [keepE, h]
    rcases h with ⟨hnil, rfl⟩ | ⟨hne, gb, m, hm, hmi, rfl⟩
    · (conv => whnf); repeat' (first | (refine callB (hasI (l := es) (nn := be) (x := (g.edges[i]).id) (by omega)) (fun hb => ?_) (fun hb => ?_) <;> conv => whnf) | (refine apV1 (l := []) (x := g.edges[i]) cellsE rfl (by simp) ?_; conv => whnf) | ((with_reducible first | apply kN | apply kW | apply kX | apply kG | apply kQ); (· exact sd); conv => whnf) | (refine pcase.mk ?_ ?_ <;> intro hc <;> (try rw [List.length_nil] at hc) <;> first | (exfalso; omega) | (exact absurd rfl hc) | conv => whnf) | (refine bcase_intro ?_ ?_ <;> intro hc <;> conv => whnf))
      all_goals first
        | exact again.mk ⟨_, by omega, i + 1, _, L, rfl, by omega, hsy hb, rfl, .inl ⟨hnil, rfl⟩⟩
        | exact again.mk ⟨_, by omega, i + 1, _, [g.edges[i]], rfl, by omega, by rw [← hsn hb, hnil]; rfl, rfl, .inr ⟨by simp, _, _, rfl, by simp, rfl⟩⟩
        | (trace_state; fail "wiE1")
    · (conv => whnf); repeat' (first | (refine callB (hasI (l := es) (nn := be) (x := (g.edges[i]).id) (by omega)) (fun hb => ?_) (fun hb => ?_) <;> conv => whnf) | (refine apV1 (l := L) (x := g.edges[i]) cellsE hm (by omega) ?_; conv => whnf) | ((with_reducible first | apply kN | apply kW | apply kX | apply kG | apply kQ); (· exact sd); conv => whnf) | (refine pcase.mk ?_ ?_ <;> intro hc <;> (try rw [List.length_nil] at hc) <;> first | (exfalso; omega) | (exact absurd rfl hc) | conv => whnf) | (refine bcase_intro ?_ ?_ <;> intro hc <;> conv => whnf))
      all_goals first
        | exact again.mk ⟨_, by omega, i + 1, _, L, rfl, by omega, hsy hb, rfl, .inr ⟨hne, _, _, hm, by omega, rfl⟩⟩
        | exact again.mk ⟨_, by omega, i + 1, _, L ++ [g.edges[i]], rfl, by omega, hsn hb, rfl, .inr ⟨by simp, _, _, by simp, by simp; omega, rfl⟩⟩
        | (trace_state; fail "wiE2")
  · rw [List.take_of_length_le (by omega)] at hL
    subst hL
    rcases h with ⟨hnil, rfl⟩ | ⟨hne, gb, m, hm, hmi, rfl⟩
    · (conv => whnf); repeat' (first  | ((with_reducible first | apply kN | apply kW | apply kX | apply kG | apply kQ); (· exact sd); conv => whnf) | (refine pcase.mk ?_ ?_ <;> intro hc <;> (try rw [List.length_nil] at hc) <;> first | (exfalso; omega) | (exact absurd rfl hc) | conv => whnf) | (refine bcase_intro ?_ ?_ <;> intro hc <;> conv => whnf))
      exact hQ0 hnil _ _
    · (conv => whnf); repeat' (first  | ((with_reducible first | apply kN | apply kW | apply kX | apply kG | apply kQ); (· exact sd); conv => whnf) | (refine pcase.mk ?_ ?_ <;> intro hc <;> (try rw [List.length_nil] at hc) <;> first | (exfalso; omega) | (exact absurd rfl hc) | conv => whnf) | (refine bcase_intro ?_ ?_ <;> intro hc <;> conv => whnf))
      exact hQ1 hne _ _ _ _ hm

set_option maxHeartbeats 4000000 in
theorem withoutP {g : GG} {ns es : List Int} {bn be : Bool} (hg : FewG 200 200 g) (hns : ns.length ≤ 1000) (hes : es.length ≤ 1000) : PureP (findFn tab) 9 [g.av, .sl bn (vs (.int .i64) ns), .sl be (vs (.int .i64) es)] (fun v => ∃ b1 b2, v = (GG.mk b1 (keepN ns g.nodes) b2 (keepE es g.edges) 0 0).av) := by
  refine pureP_of rfl rfl ?_
  (conv => whnf); repeat' (first  | ((with_reducible first | apply kN | apply kW | apply kX | apply kG | apply kQ); (· exact sd); conv => whnf) | (refine pcase.mk ?_ ?_ <;> intro hc <;> (try rw [List.length_nil] at hc) <;> first | (exfalso; omega) | (exact absurd rfl hc) | conv => whnf) | (refine bcase_intro ?_ ?_ <;> intro hc <;> conv => whnf))
  refine wiN hg hns ?_ ?_
  · intro h0 c' tl
    (conv => whnf); repeat' (first  | ((with_reducible first | apply kN | apply kW | apply kX | apply kG | apply kQ); (· exact sd); conv => whnf) | (refine pcase.mk ?_ ?_ <;> intro hc <;> (try rw [List.length_nil] at hc) <;> first | (exfalso; omega) | (exact absurd rfl hc) | conv => whnf) | (refine bcase_intro ?_ ?_ <;> intro hc <;> conv => whnf))
    refine wiE0 hg hes ?_ ?_
    · intro h1 c' tl
      rw [h0, h1]
      (conv => whnf); repeat' (first  | ((with_reducible first | apply kN | apply kW | apply kX | apply kG | apply kQ); (· exact sd); conv => whnf) | (refine pcase.mk ?_ ?_ <;> intro hc <;> (try rw [List.length_nil] at hc) <;> first | (exfalso; omega) | (exact absurd rfl hc) | conv => whnf) | (refine bcase_intro ?_ ?_ <;> intro hc <;> conv => whnf))
      all_goals first | exact ⟨false, false, rfl⟩ | (trace_state; fail "without00")
    · intro h1 c' gb m tl hm
      rw [h0]
      subst hm
      (conv => whnf); repeat' (first  | ((with_reducible first | apply kN | apply kW | apply kX | apply kG | apply kQ); (· exact sd); conv => whnf) | (refine pcase.mk ?_ ?_ <;> intro hc <;> (try rw [List.length_nil] at hc) <;> first | (exfalso; omega) | (exact absurd rfl hc) | conv => whnf) | (refine bcase_intro ?_ ?_ <;> intro hc <;> conv => whnf))
      exact ⟨false, true, rfl⟩
  · intro h0 c' ga n tl hn
    subst hn
    (conv => whnf); repeat' (first  | ((with_reducible first | apply kN | apply kW | apply kX | apply kG | apply kQ); (· exact sd); conv => whnf) | (refine pcase.mk ?_ ?_ <;> intro hc <;> (try rw [List.length_nil] at hc) <;> first | (exfalso; omega) | (exact absurd rfl hc) | conv => whnf) | (refine bcase_intro ?_ ?_ <;> intro hc <;> conv => whnf))
    refine wiE1 hg hes ?_ ?_
    · intro h1 c' tl
      rw [h1]
      (conv => whnf); repeat' (first  | ((with_reducible first | apply kN | apply kW | apply kX | apply kG | apply kQ); (· exact sd); conv => whnf) | (refine pcase.mk ?_ ?_ <;> intro hc <;> (try rw [List.length_nil] at hc) <;> first | (exfalso; omega) | (exact absurd rfl hc) | conv => whnf) | (refine bcase_intro ?_ ?_ <;> intro hc <;> conv => whnf))
      exact ⟨true, false, rfl⟩
    · intro h1 c' gb m tl hm
      subst hm
      (conv => whnf); repeat' (first  | ((with_reducible first | apply kN | apply kW | apply kX | apply kG | apply kQ); (· exact sd); conv => whnf) | (refine pcase.mk ?_ ?_ <;> intro hc <;> (try rw [List.length_nil] at hc) <;> first | (exfalso; omega) | (exact absurd rfl hc) | conv => whnf) | (refine bcase_intro ?_ ?_ <;> intro hc <;> conv => whnf))
      exact ⟨true, true, rfl⟩

end AI
end Go.Proofs.YtnfdpfeeenmffaaGreatDoor
set_option linter.unusedVariables false
namespace Go.Proofs.YtnfdpfeeenmffaaGreatDoor
namespace AI

set_option maxHeartbeats 4000000 in
theorem samePartsA {N : List GN} {E : List GE} {a1 a2 b1 b2 : Bool} (hN : N.length ≤ 1000) (hE : E.length ≤ 1000) (h1 : ∀ n ∈ N, GoodN n) (h2 : ∀ e ∈ E, GoodE e) : PureP (findFn tab) 41 [(GG.mk a1 N a2 E 0 0).av, (GG.mk b1 N b2 E 0 0).av] (· = .bool (decide True)) := by
  have q1 : (GG.mk a1 N a2 E 0 0).nodes.length = N.length := rfl
  have q2 : (GG.mk b1 N b2 E 0 0).nodes.length = N.length := rfl
  have q3 : (GG.mk a1 N a2 E 0 0).edges.length = E.length := rfl
  have q4 : (GG.mk b1 N b2 E 0 0).edges.length = E.length := rfl
  refine pureP_of rfl rfl ?_
  (conv => whnf); repeat' (first  | ((with_reducible first | apply kN | apply kW | apply kX | apply kG | apply kQ); (· exact sd); conv => whnf) | (refine pcase.mk ?_ ?_ <;> intro hc <;> (try rw [List.length_nil] at hc) <;> first | (exfalso; omega) | (exact absurd rfl hc) | conv => whnf) | (refine bcase_intro ?_ ?_ <;> intro hc <;> conv => whnf))
  all_goals first | (exfalso; omega) | (exact absurd rfl (by assumption)) | skip
  refine loop_inv (fun m env s => ∃ i c : Nat, m = N.length - i ∧ env = [(2, .ref 0 0 0 0), (3, .ref 1 1 0 0), (5, .int .i64 i)] ∧ s = ⟨[.arr 0 4 true true [(GG.mk a1 N a2 E 0 0).av], .arr 1 4 true true [(GG.mk b1 N b2 E 0 0).av]], c⟩) ?_ _ _ _ ⟨0, _, rfl, rfl, rfl⟩
  rintro _ _ _ ⟨i, c, rfl, rfl, rfl⟩
  refine ⟨rfl, ?_⟩
  by_cases hlt : i < N.length
  · have hg := h1 _ (List.getElem_mem hlt)
    have hl := hg.1
    (conv => whnf); repeat' (first | (refine callB (sameStrs0 (l := (N[i]).labels) (by omega)) (fun _ => ?_) (fun h => absurd trivial h); conv => whnf) | (refine callB (sameProps0 (ps := (N[i]).props) hg.2.2.2) (fun _ => ?_) (fun h => absurd trivial h); conv => whnf) | ((with_reducible first | apply kN | apply kW | apply kX | apply kG | apply kQ); (· exact sd); conv => whnf) | (refine pcase.mk ?_ ?_ <;> intro hc <;> (try rw [List.length_nil] at hc) <;> first | (exfalso; omega) | (exact absurd rfl hc) | conv => whnf) | (refine bcase_intro ?_ ?_ <;> intro hc <;> conv => whnf))
    all_goals first
      | exact again.mk ⟨_, by omega, i + 1, _, rfl, rfl, rfl⟩
      | exact absurd rfl (by assumption)
      | (trace_state; fail "parts1")
  · (conv => whnf); repeat' (first  | ((with_reducible first | apply kN | apply kW | apply kX | apply kG | apply kQ); (· exact sd); conv => whnf) | (refine pcase.mk ?_ ?_ <;> intro hc <;> (try rw [List.length_nil] at hc) <;> first | (exfalso; omega) | (exact absurd rfl hc) | conv => whnf) | (refine bcase_intro ?_ ?_ <;> intro hc <;> conv => whnf))
    refine loop_inv (fun m env s => ∃ i c : Nat, m = E.length - i ∧ env = [(2, .ref 0 0 0 0), (3, .ref 1 1 0 0), (8, .int .i64 i)] ∧ s = ⟨[.arr 0 4 true true [(GG.mk a1 N a2 E 0 0).av], .arr 1 4 true true [(GG.mk b1 N b2 E 0 0).av]], c⟩) ?_ _ _ _ ⟨0, _, rfl, rfl, rfl⟩
    rintro _ _ _ ⟨i, c, rfl, rfl, rfl⟩
    refine ⟨rfl, ?_⟩
    by_cases hlt : i < E.length
    · have hg := h2 _ (List.getElem_mem hlt)
      (conv => whnf); repeat' (first | (refine callB (sameProps0 (ps := (E[i]).props) hg.2) (fun _ => ?_) (fun h => absurd trivial h); conv => whnf) | ((with_reducible first | apply kN | apply kW | apply kX | apply kG | apply kQ); (· exact sd); conv => whnf) | (refine pcase.mk ?_ ?_ <;> intro hc <;> (try rw [List.length_nil] at hc) <;> first | (exfalso; omega) | (exact absurd rfl hc) | conv => whnf) | (refine bcase_intro ?_ ?_ <;> intro hc <;> conv => whnf))
      all_goals first
        | exact again.mk ⟨_, by omega, i + 1, _, rfl, rfl, rfl⟩
        | exact absurd rfl (by assumption)
        | (trace_state; fail "parts2")
    · (conv => whnf); repeat' (first  | ((with_reducible first | apply kN | apply kW | apply kX | apply kG | apply kQ); (· exact sd); conv => whnf) | (refine pcase.mk ?_ ?_ <;> intro hc <;> (try rw [List.length_nil] at hc) <;> first | (exfalso; omega) | (exact absurd rfl hc) | conv => whnf) | (refine bcase_intro ?_ ?_ <;> intro hc <;> conv => whnf))
      all_goals first | rfl | (trace_state; fail "parts3")

theorem sameA {N : List GN} {E : List GE} {a1 a2 b1 b2 : Bool} (hN : N.length ≤ 1000) (hE : E.length ≤ 1000) (h1 : ∀ n ∈ N, GoodN n) (h2 : ∀ e ∈ E, GoodE e) : PureP (findFn tab) 22 [(GG.mk a1 N a2 E 0 0).av, (GG.mk b1 N b2 E 0 0).av] (· = .bool (decide True)) := by
  refine pureP_of rfl rfl ?_
  (conv => whnf); repeat' (first | (refine callB (samePartsA (a1 := a1) (a2 := a2) (b1 := b1) (b2 := b2) hN hE h1 h2) (fun _ => ?_) (fun h => absurd trivial h); conv => whnf) | ((with_reducible first | apply kN | apply kW | apply kX | apply kG | apply kQ); (· exact sd); conv => whnf) | (refine pcase.mk ?_ ?_ <;> intro hc <;> (try rw [List.length_nil] at hc) <;> first | (exfalso; omega) | (exact absurd rfl hc) | conv => whnf) | (refine bcase_intro ?_ ?_ <;> intro hc <;> conv => whnf))
  all_goals first | rfl | exact absurd rfl (by assumption) | (trace_state; fail "sameA")

theorem alikeA {N : List GN} {E : List GE} {a1 a2 b1 b2 : Bool} (hN : N.length ≤ 1000) (hE : E.length ≤ 1000) (h1 : ∀ n ∈ N, GoodN n) (h2 : ∀ e ∈ E, GoodE e) : PureP (findFn tab) 10 [(GG.mk a1 N a2 E 0 0).av, (GG.mk b1 N b2 E 0 0).av] (· = .bool (decide True)) := by
  refine pureP_of rfl rfl ?_
  (conv => whnf); repeat' (first | (refine callB (sameA (a1 := a1) (a2 := a2) (b1 := b1) (b2 := b2) hN hE h1 h2) (fun _ => ?_) (fun h => absurd trivial h); conv => whnf) | ((with_reducible first | apply kN | apply kW | apply kX | apply kG | apply kQ); (· exact sd); conv => whnf) | (refine pcase.mk ?_ ?_ <;> intro hc <;> (try rw [List.length_nil] at hc) <;> first | (exfalso; omega) | (exact absurd rfl hc) | conv => whnf) | (refine bcase_intro ?_ ?_ <;> intro hc <;> conv => whnf))
  all_goals first | rfl | (trace_state; fail "alikeA")

end AI
end Go.Proofs.YtnfdpfeeenmffaaGreatDoor
