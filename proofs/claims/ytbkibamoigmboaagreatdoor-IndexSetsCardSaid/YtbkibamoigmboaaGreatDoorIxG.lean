/- Labels; relations compared; the law about sets. -/
import Derived.Test.YtbkibamoigmboaaGreatDoorIxE
import Derived.Test.YtbkibamoigmboaaGreatDoorIxLives
import Derived.Test.YtbkibamoigmboaaGreatDoorMH
set_option linter.unusedVariables false
set_option maxRecDepth 4000
namespace Go.Proofs.YtbkibamoigmboaaGreatDoor
namespace AI
open Go.Sort

theorem cellsN (x : Int) : (AV.int .i64 x).cells.length = 1 := rfl
def idsOf (lb : List UInt8) (N : List GN) : List Int := (N.filter fun n => decide (lb ∈ n.labels)).map GN.id
theorem idsOf_snoc {lb : List UInt8} {N : List GN} {i : Nat} (h : i < N.length) : idsOf lb (N.take (i + 1)) = idsOf lb (N.take i) ++ if lb ∈ N[i].labels then [N[i].id] else [] := by
  unfold idsOf
  rw [filter_take_succ h, List.map_append]
  congr 1
  by_cases hh : lb ∈ N[i].labels <;> simp [hh]
theorem idsOf_len {lb : List UInt8} {N : List GN} : (idsOf lb N).length ≤ N.length := by
  unfold idsOf; rw [List.length_map]; exact List.length_filter_le _ _

set_option maxHeartbeats 1000000 in
theorem labelP {g : GG} {lb : List UInt8} (hg : g.ok) (hN : (chk g).nodes.length ≤ 100000) (hlab : ∀ n ∈ (chk g).nodes, n.labels.length < 2^63) :
    PureP (findFn tab) 13 [g.av, .str lb] (fun v => ∃ b, v = .sl b (vs (.int .i64) (idsOf lb (chk g).nodes))) := by
  have hc := checkedP hg
  generalize chk g = h at *
  obtain ⟨hn, N, hen, E, z1, z2⟩ := h
  dsimp only at hN hlab ⊢
  refine pureP_of rfl rfl ?_
  (conv => whnf); repeat' (first | (refine callK_of hc ?_; rintro _ rfl; conv => whnf) | ((with_reducible first | apply kN | apply kW | apply kX | apply kG | apply kQ); (· exact sd); conv => whnf) | (refine pcase.mk ?_ ?_ <;> intro hc <;> (try rw [List.length_nil] at hc) <;> first | (exfalso; omega) | (exact absurd rfl hc) | conv => whnf) | (refine bcase_intro ?_ ?_ <;> intro hc <;> conv => whnf))
  refine loop_inv (fun z env s => ∃ (i c ga n : Nat) (fa : Bool) (A : List Int), z = N.length - i ∧ i ≤ N.length ∧ A = idsOf lb (N.take i) ∧ n = A.length ∧ A.length ≤ i ∧ env = [(1, .str lb), (5, .own 1 ga 0 n), (10, .sl hn (vs GN.av N)), (11, .int .i64 N.length), (12, .int .i64 i)] ∧ s = ⟨[.arr 0 4 true true [g.av], .arr ga 1 fa true (vs (.int .i64) A)], c⟩) ?_ _ _ _ ⟨0, _, _, _, _, [], rfl, by omega, rfl, rfl, by simp, by first | rfl | (rw [← lV (f := GN.av) N]; rfl), rfl⟩
  rintro _ _ _ ⟨i, c, ga, n, fa, A, rfl, hi, hA, hn, hAl, rfl, rfl⟩
  refine ⟨rfl, ?_⟩
  by_cases hlt : i < N.length
  · have hs := idsOf_snoc (lb := lb) hlt
    rw [← hA] at hs
    have hty := hasLabel1 (n := N[i]) (s := lb) (hlab _ (List.getElem_mem hlt))
    by_cases h1 : lb ∈ N[i].labels
    · rw [if_pos h1] at hs
      rw [decide_eq_true h1] at hty
      (conv => whnf); repeat' (first | (refine callK_of hty ?_; rintro _ rfl; conv => whnf) | (refine apV1 (f := .int .i64) (l := A) (x := (N[i]).id) cellsN hn (by omega) ?_; conv => whnf) | ((with_reducible first | apply kN | apply kW | apply kX | apply kG | apply kQ); (· exact sd); conv => whnf) | (refine pcase.mk ?_ ?_ <;> intro hc <;> (try rw [List.length_nil] at hc) <;> first | (exfalso; omega) | (exact absurd rfl hc) | conv => whnf) | (refine bcase_intro ?_ ?_ <;> intro hc <;> conv => whnf))
      all_goals first
        | exact again.mk ⟨_, by omega, i + 1, _, _, _, _, A ++ [(N[i]).id], rfl, by omega, hs.symm, by simp, by simp; omega, rfl, rfl⟩
        | (exfalso; omega)
        | (trace_state; fail "labelP1")
    · rw [if_neg h1, List.append_nil] at hs
      rw [decide_eq_false h1] at hty
      (conv => whnf); repeat' (first | (refine callK_of hty ?_; rintro _ rfl; conv => whnf) | ((with_reducible first | apply kN | apply kW | apply kX | apply kG | apply kQ); (· exact sd); conv => whnf) | (refine pcase.mk ?_ ?_ <;> intro hc <;> (try rw [List.length_nil] at hc) <;> first | (exfalso; omega) | (exact absurd rfl hc) | conv => whnf) | (refine bcase_intro ?_ ?_ <;> intro hc <;> conv => whnf))
      all_goals first
        | exact again.mk ⟨_, by omega, i + 1, _, _, _, _, A, rfl, by omega, hs.symm, hn, by omega, rfl, rfl⟩
        | (exfalso; omega)
        | (trace_state; fail "labelP2")
  · rw [List.take_of_length_le (by omega)] at hA
    (conv => whnf); repeat' (first  | ((with_reducible first | apply kN | apply kW | apply kX | apply kG | apply kQ); (· exact sd); conv => whnf) | (refine pcase.mk ?_ ?_ <;> intro hc <;> (try rw [List.length_nil] at hc) <;> first | (exfalso; omega) | (exact absurd rfl hc) | conv => whnf) | (refine bcase_intro ?_ ?_ <;> intro hc <;> conv => whnf))
    exact ⟨fa, by rw [hn, sub_vs, ← hA]; simp⟩

set_option maxHeartbeats 1000000 in
theorem labelR {g : GG} {lb : List UInt8} (hg : g.ok) (hN : (chk g).nodes.length ≤ 100000) (hlab : ∀ n ∈ (chk g).nodes, n.labels.length < 2^63) :
    PureP (findFn tab) 14 [g.av, .str lb] (fun v => ∃ b, v = .sl b (vs (.int .i64) (idsOf lb (chk g).nodes))) := by
  have hc := checkR hg
  by_cases h0 : checkE g = 0
  case neg =>
    have e : chk g = ⟨false, [], false, [], 0, 0⟩ := if_neg h0
    rw [e]
    refine pureP_of rfl rfl ?_
    (conv => whnf); repeat' (first | (refine callK_of hc ?_; rintro _ rfl; conv => whnf) | ((with_reducible first | apply kN | apply kW | apply kX | apply kG | apply kQ); (· exact sd); conv => whnf) | (refine pcase.mk ?_ ?_ <;> intro hc <;> (try rw [List.length_nil] at hc) <;> first | (exfalso; omega) | (exact absurd rfl hc) | conv => whnf) | (refine bcase_intro ?_ ?_ <;> intro hc <;> conv => whnf))
    all_goals first | exact ⟨_, rfl⟩ | (exfalso; omega) | skip
  have e : chk g = g := if_pos h0
  rw [e] at hN hlab ⊢
  rw [h0] at hc
  clear e h0
  refine pureP_of rfl rfl ?_
  (conv => whnf); repeat' (first | (refine callK_of hc ?_; rintro _ rfl; conv => whnf) | ((with_reducible first | apply kN | apply kW | apply kX | apply kG | apply kQ); (· exact sd); conv => whnf) | (refine pcase.mk ?_ ?_ <;> intro hc <;> (try rw [List.length_nil] at hc) <;> first | (exfalso; omega) | (exact absurd rfl hc) | conv => whnf) | (refine bcase_intro ?_ ?_ <;> intro hc <;> conv => whnf))
  all_goals first | (exfalso; omega) | skip
  refine loop_inv (fun z env s => ∃ (i c ga n : Nat) (fa : Bool) (A : List Int), z = g.nodes.length - i ∧ i ≤ g.nodes.length ∧ A = idsOf lb (g.nodes.take i) ∧ n = A.length ∧ A.length ≤ i ∧ env = [(1, .str lb), (2, .ref 0 0 0 0), (5, .own 1 ga 0 n), (6, .int .i64 i)] ∧ s = ⟨[.arr 0 4 true true [g.av], .arr ga 1 fa true (vs (.int .i64) A)], c⟩) ?_ _ _ _ ⟨0, _, _, _, _, [], rfl, by omega, rfl, rfl, by simp, rfl, rfl⟩
  rintro _ _ _ ⟨i, c, ga, n, fa, A, rfl, hi, hA, hn, hAl, rfl, rfl⟩
  refine ⟨rfl, ?_⟩
  by_cases hlt : i < g.nodes.length
  · have hs := idsOf_snoc (lb := lb) hlt
    rw [← hA] at hs
    have hty := hasLabel2 (n := g.nodes[i]) (s := lb) (hlab _ (List.getElem_mem hlt))
    by_cases h1 : lb ∈ g.nodes[i].labels
    · rw [if_pos h1] at hs
      rw [decide_eq_true h1] at hty
      (conv => whnf); repeat' (first | (refine callK_of hty ?_; rintro _ rfl; conv => whnf) | (refine apV1 (f := .int .i64) (l := A) (x := (g.nodes[i]).id) cellsN hn (by omega) ?_; conv => whnf) | ((with_reducible first | apply kN | apply kW | apply kX | apply kG | apply kQ); (· exact sd); conv => whnf) | (refine pcase.mk ?_ ?_ <;> intro hc <;> (try rw [List.length_nil] at hc) <;> first | (exfalso; omega) | (exact absurd rfl hc) | conv => whnf) | (refine bcase_intro ?_ ?_ <;> intro hc <;> conv => whnf))
      all_goals first
        | exact again.mk ⟨_, by omega, i + 1, _, _, _, _, A ++ [(g.nodes[i]).id], rfl, by omega, hs.symm, by simp, by simp; omega, rfl, rfl⟩
        | (exfalso; omega)
        | (trace_state; fail "labelR1")
    · rw [if_neg h1, List.append_nil] at hs
      rw [decide_eq_false h1] at hty
      (conv => whnf); repeat' (first | (refine callK_of hty ?_; rintro _ rfl; conv => whnf) | ((with_reducible first | apply kN | apply kW | apply kX | apply kG | apply kQ); (· exact sd); conv => whnf) | (refine pcase.mk ?_ ?_ <;> intro hc <;> (try rw [List.length_nil] at hc) <;> first | (exfalso; omega) | (exact absurd rfl hc) | conv => whnf) | (refine bcase_intro ?_ ?_ <;> intro hc <;> conv => whnf))
      all_goals first
        | exact again.mk ⟨_, by omega, i + 1, _, _, _, _, A, rfl, by omega, hs.symm, hn, by omega, rfl, rfl⟩
        | (exfalso; omega)
        | (trace_state; fail "labelR2")
  · rw [List.take_of_length_le (by omega)] at hA
    (conv => whnf); repeat' (first  | ((with_reducible first | apply kN | apply kW | apply kX | apply kG | apply kQ); (· exact sd); conv => whnf) | (refine pcase.mk ?_ ?_ <;> intro hc <;> (try rw [List.length_nil] at hc) <;> first | (exfalso; omega) | (exact absurd rfl hc) | conv => whnf) | (refine bcase_intro ?_ ?_ <;> intro hc <;> conv => whnf))
    exact ⟨fa, by rw [hn, sub_vs, ← hA]; simp⟩

set_option maxHeartbeats 1000000 in
theorem relsSame {k : Int} {W : List GW} {b1 b2 : Bool} (hl : W.length ≤ 100000) : PureP (findFn tab) 15 [.agg [.int .i64 k, .sl b1 (vs GW.av W)], .agg [.int .i64 k, .sl b2 (vs GW.av W)]] (· = .bool true) := by
  refine pureP_of rfl rfl ?_
  (conv => whnf); repeat' (first  | ((with_reducible first | apply kN | apply kW | apply kX | apply kG | apply kQ); (· exact sd); conv => whnf) | (refine pcase.mk ?_ ?_ <;> intro hc <;> (try rw [List.length_nil] at hc) <;> first | (exfalso; omega) | (exact absurd rfl hc) | conv => whnf) | (refine bcase_intro ?_ ?_ <;> intro hc <;> conv => whnf))
  all_goals first | (exfalso; omega) | skip
  refine loop_inv (fun m env s => ∃ i c : Nat, m = W.length - i ∧ env = [(2, .ref 0 0 0 0), (3, .ref 1 1 0 0), (5, .int .i64 i)] ∧ s = ⟨[.arr 0 2 true true [.agg [.int .i64 k, .sl b1 (vs GW.av W)]], .arr 1 2 true true [.agg [.int .i64 k, .sl b2 (vs GW.av W)]]], c⟩) ?_ _ _ _ ⟨0, _, rfl, rfl, rfl⟩
  rintro _ _ _ ⟨i, c, rfl, rfl, rfl⟩
  refine ⟨rfl, ?_⟩
  by_cases hlt : i < W.length
  · have h3 := W[i].h
    (conv => whnf); repeat' (first  | ((with_reducible first | apply kN | apply kW | apply kX | apply kG | apply kQ); (· exact sd); conv => whnf) | (refine pcase.mk ?_ ?_ <;> intro hc <;> (try rw [List.length_nil] at hc) <;> first | (exfalso; omega) | (exact absurd rfl hc) | conv => whnf) | (refine bcase_intro ?_ ?_ <;> intro hc <;> conv => whnf))
    all_goals first | (exfalso; omega) | skip
    refine loop_inv (fun m env s => ∃ j c : Nat, m = W[i].l.length - j ∧ env = [(2, .ref 0 0 0 0), (3, .ref 1 1 0 0), (5, .int .i64 i), (6, .int .i64 j)] ∧ s = ⟨[.arr 0 2 true true [.agg [.int .i64 k, .sl b1 (vs GW.av W)]], .arr 1 2 true true [.agg [.int .i64 k, .sl b2 (vs GW.av W)]]], c⟩) ?_ _ _ _ ⟨0, _, rfl, rfl, rfl⟩
    rintro _ _ _ ⟨j, c, rfl, rfl, rfl⟩
    refine ⟨rfl, ?_⟩
    by_cases hj : j < W[i].l.length
    · (conv => whnf); repeat' (first  | ((with_reducible first | apply kN | apply kW | apply kX | apply kG | apply kQ); (· exact sd); conv => whnf) | (refine pcase.mk ?_ ?_ <;> intro hc <;> (try rw [List.length_nil] at hc) <;> first | (exfalso; omega) | (exact absurd rfl hc) | conv => whnf) | (refine bcase_intro ?_ ?_ <;> intro hc <;> conv => whnf))
      all_goals first
        | exact again.mk ⟨_, by omega, j + 1, _, rfl, rfl, rfl⟩
        | (exfalso; simp_all; done)
        | (trace_state; fail "rels1")
    · (conv => whnf); repeat' (first  | ((with_reducible first | apply kN | apply kW | apply kX | apply kG | apply kQ); (· exact sd); conv => whnf) | (refine pcase.mk ?_ ?_ <;> intro hc <;> (try rw [List.length_nil] at hc) <;> first | (exfalso; omega) | (exact absurd rfl hc) | conv => whnf) | (refine bcase_intro ?_ ?_ <;> intro hc <;> conv => whnf))
      all_goals first
        | exact again.mk ⟨_, by omega, i + 1, _, rfl, rfl, rfl⟩
        | (exfalso; omega)
        | (trace_state; fail "rels2")
  · (conv => whnf); repeat' (first  | ((with_reducible first | apply kN | apply kW | apply kX | apply kG | apply kQ); (· exact sd); conv => whnf) | (refine pcase.mk ?_ ?_ <;> intro hc <;> (try rw [List.length_nil] at hc) <;> first | (exfalso; omega) | (exact absurd rfl hc) | conv => whnf) | (refine bcase_intro ?_ ?_ <;> intro hc <;> conv => whnf))
    all_goals first | rfl | (exfalso; omega) | (trace_state; fail "rels3")

theorem SetW_eq {a : Int} {M : GW → Prop} {v w : AV} (h1 : SetW a M v) (h2 : SetW a M w) : PureP (findFn tab) 15 [v, w] (· = .bool true) := by
  obtain ⟨b1, W1, rfl, s1, l1, m1⟩ := h1
  obtain ⟨b2, W2, rfl, s2, l2, m2⟩ := h2
  obtain rfl : W1 = W2 := strict_unique ltW_swo s1 s2 fun x => by rw [m1, m2]
  exact relsSame l1

theorem wrapAnyI {z : Int} {K : AV → Prop} (h : ∀ y, K (.int .i64 y)) : wrapK .i64 z K := wrapK_intro rfl (h _)
theorem smallP {g : GG} (hg : g.ok) : PureP (findFn tab) 10 [g.av] (fun v => ∃ b, v = .bool b ∧ (b = true → g.nodes.length ≤ 40 ∧ g.edges.length ≤ 80)) := by
  have hl : g.nodes.length < 2^63 := hg.1
  have hl2 : g.edges.length < 2^63 := hg.2.2.2.1
  refine pureP_of rfl rfl ?_
  (conv => whnf); repeat' (first  | ((with_reducible first | apply kN | apply kW | apply kX | apply kG | apply kQ); (· exact sd); conv => whnf) | (refine pcase.mk ?_ ?_ <;> intro hc <;> (try rw [List.length_nil] at hc) <;> first | (exfalso; omega) | (exact absurd rfl hc) | conv => whnf) | (refine bcase_intro ?_ ?_ <;> intro hc <;> conv => whnf))
  refine loop_inv (fun m env s => ∃ (i c : Nat) (z : Int), m = g.nodes.length - i ∧ env = [(1, .ref 0 0 0 0), (3, .int .i64 z), (4, .int .i64 i)] ∧ s = ⟨[.arr 0 4 true true [g.av]], c⟩) ?_ _ _ _ ⟨0, _, _, rfl, rfl, rfl⟩
  rintro _ _ _ ⟨i, c, z, rfl, rfl, rfl⟩
  refine ⟨rfl, ?_⟩
  by_cases hlt : i < g.nodes.length
  · (conv => whnf); repeat' (first | (first | refine wrapK_intro (wrap_i64 (by omega) (by omega)) ?_ | refine wrapAnyI (fun y => ?_); conv => whnf) | ((with_reducible first | apply kN | apply kW | apply kX | apply kG | apply kQ); (· exact sd); conv => whnf) | (refine pcase.mk ?_ ?_ <;> intro hc <;> (try rw [List.length_nil] at hc) <;> first | (exfalso; omega) | (exact absurd rfl hc) | conv => whnf) | (refine bcase_intro ?_ ?_ <;> intro hc <;> conv => whnf))
    all_goals first
      | exact again.mk ⟨_, by omega, i + 1, _, _, rfl, rfl, rfl⟩
      | (trace_state; fail "small1")
  · (conv => whnf); repeat' (first  | ((with_reducible first | apply kN | apply kW | apply kX | apply kG | apply kQ); (· exact sd); conv => whnf) | (refine pcase.mk ?_ ?_ <;> intro hc <;> (try rw [List.length_nil] at hc) <;> first | (exfalso; omega) | (exact absurd rfl hc) | conv => whnf) | (refine bcase_intro ?_ ?_ <;> intro hc <;> conv => whnf))
    all_goals first
      | exact ⟨_, rfl, fun h => ⟨by omega, by omega⟩⟩
      | exact ⟨_, rfl, fun h => Bool.noConfusion h⟩
      | (trace_state; fail "small2")

set_option maxRecDepth 10000 in
theorem law_sets : ∀ xs, likes Tryz.prog [25, 9, 26] xs → Calls1 (findFn tab) 3 xs ⟨[], 0⟩ fun out _ => out = .ok (.bool true) := by
  intro xs h
  match xs, h with
  | [a, b, c], h =>
    obtain ⟨h1, h2, h3, _⟩ := h
    obtain ⟨g, rfl, hg⟩ := like_graph h1
    obtain ⟨lb, rfl, hlb⟩ := like_str (Exists.choose_spec h2)
    obtain ⟨nn, ty, rfl, _, hty0, _⟩ := like_map (f := AV.str) (Q := Ln) Tryz.underlying26 (fun d x h => like_str h) (Exists.choose_spec h3)
    have hty : ty.length < 2^63 := ln_of hty0
    obtain ⟨_, ⟨b, rfl, hb⟩, ps⟩ := (smallP hg).det
    refine calls1_of rfl rfl ?_
    cases b with
    | false =>
      (conv => whnf); repeat' (first | (refine callK_of ps ?_; rintro _ rfl; conv => whnf) | (refine callB livesI (fun _ => ?_) (fun h => absurd trivial h); conv => whnf) | ((with_reducible first | apply kN | apply kW | apply kX | apply kG | apply kQ); (· exact sd); conv => whnf) | (refine pcase.mk ?_ ?_ <;> intro hc <;> (try rw [List.length_nil] at hc) <;> first | (exfalso; omega) | (exact absurd rfl hc) | conv => whnf) | (refine bcase_intro ?_ ?_ <;> intro hc <;> conv => whnf))
      all_goals first | rfl | (exfalso; omega) | (trace_state; fail "law1")
    | true =>
      obtain ⟨b1, b2⟩ := hb rfl
      have hE : (chk g).edges.length ≤ 100000 := by
        unfold chk; split
        · omega
        · simp
      have hN : (chk g).nodes.length ≤ 100000 := by
        unfold chk; split
        · omega
        · simp
      have hlab : ∀ n ∈ (chk g).nodes, n.labels.length < 2^63 := by
        intro n hn
        unfold chk at hn; split at hn
        · exact (hg.2.2.1 n hn).2.1
        · simp at hn
      obtain ⟨_, ⟨x1, rfl⟩, p1⟩ := (labelP (lb := lb) hg hN hlab).det
      obtain ⟨_, ⟨x2, rfl⟩, p2⟩ := (labelR (lb := lb) hg hN hlab).det
      obtain ⟨v3, s3, p3⟩ := (edgesP (ty := ty) (nn := nn) hg hE hty).det
      obtain ⟨v4, s4, p4⟩ := (edgesR (ty := ty) (nn := nn) hg hE hty).det
      obtain ⟨v5, s5, p5⟩ := (pairsP (ty := ty) (nn := nn) hg hE hty).det
      obtain ⟨v6, s6, p6⟩ := (pairsR (ty := ty) (nn := nn) hg hE hty).det
      have c1 := intsSame (L := idsOf lb (chk g).nodes) (n1 := x1) (n2 := x2) (by have := idsOf_len (lb := lb) (N := (chk g).nodes); omega)
      have c2 := SetW_eq s3 s4
      have c3 := SetW_eq s5 s6
      obtain ⟨y3, W3, rfl, -⟩ := s3
      obtain ⟨y4, W4, rfl, -⟩ := s4
      obtain ⟨y5, W5, rfl, -⟩ := s5
      obtain ⟨y6, W6, rfl, -⟩ := s6
      clear hE hN hlab hb
      (conv => whnf); repeat' (first | (refine callK_of ps ?_; rintro _ rfl; conv => whnf) | (refine callK_of p1 ?_; rintro _ rfl; conv => whnf) | (refine callK_of p2 ?_; rintro _ rfl; conv => whnf) | (refine callK_of p3 ?_; rintro _ rfl; conv => whnf) | (refine callK_of p4 ?_; rintro _ rfl; conv => whnf) | (refine callK_of p5 ?_; rintro _ rfl; conv => whnf) | (refine callK_of p6 ?_; rintro _ rfl; conv => whnf) | (refine callK_of c1 ?_; rintro _ rfl; conv => whnf) | (refine callK_of c2 ?_; rintro _ rfl; conv => whnf) | (refine callK_of c3 ?_; rintro _ rfl; conv => whnf) | (refine callB livesI (fun _ => ?_) (fun h => absurd trivial h); conv => whnf) | ((with_reducible first | apply kN | apply kW | apply kX | apply kG | apply kQ); (· exact sd); conv => whnf) | (refine pcase.mk ?_ ?_ <;> intro hc <;> (try rw [List.length_nil] at hc) <;> first | (exfalso; omega) | (exact absurd rfl hc) | conv => whnf) | (refine bcase_intro ?_ ?_ <;> intro hc <;> conv => whnf))
      all_goals first | rfl | (exfalso; omega) | (trace_state; fail "law2")

end AI
end Go.Proofs.YtbkibamoigmboaaGreatDoor
