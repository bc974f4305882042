/- What a migration changes of a graph: the program's and the reference's Changes. Lists of changes compared with themselves; inverses; what is small. -/
import Derived.Test.YtdlkcancogpafaaGreatDoorEvH
import Derived.Test.YtdlkcancogpafaaGreatDoorEX2
import Derived.Test.YtdlkcancogpafaaGreatDoorMG
import Derived.Test.YtdlkcancogpafaaGreatDoorGrB
set_option linter.unusedVariables false
set_option maxRecDepth 4000
namespace Go.Proofs.YtdlkcancogpafaaGreatDoor
namespace AI

/-- the changes of a migration -/
def chsG (g : GG) (m : GM) : List GC := g.nodes.flatMap (nodeG · m) ++ g.edges.flatMap (edgeG · m)
/-- what Changes answers -/
noncomputable def resM (g : GG) (m : GM) : List GC × Int := if migE m ≠ 0 then ([], migE m) else if checkE g ≠ 0 then ([], checkE g) else if takenM g m then ([], 7) else (chsG g m, 0)
theorem resM_m {g : GG} {m : GM} (h : migE m ≠ 0) : resM g m = ([], migE m) := by unfold resM; rw [if_pos h]
theorem resM_c {g : GG} {m : GM} (h : migE m = 0) (h1 : checkE g ≠ 0) : resM g m = ([], checkE g) := by unfold resM; rw [if_neg (not_not_intro h), if_pos h1]
theorem resM_t {g : GG} {m : GM} (h : migE m = 0) (h1 : checkE g = 0) (h2 : takenM g m) : resM g m = ([], 7) := by unfold resM; rw [if_neg (not_not_intro h), if_neg (not_not_intro h1), if_pos h2]
theorem resM_0 {g : GG} {m : GM} (h : migE m = 0) (h1 : checkE g = 0) (h2 : ¬ takenM g m) : resM g m = (chsG g m, 0) := by unfold resM; rw [if_neg (not_not_intro h), if_neg (not_not_intro h1), if_neg h2]

theorem fmL_le {α β : Type} {f : α → List β} {l : List α} {k i : Nat} {L : List β} (hi : i < l.length) (h : (f l[i]).length ≤ k) (hL : L.length ≤ k * i) : (L ++ f l[i]).length ≤ k * (i + 1) := by
  rw [List.length_append, Nat.mul_succ]; omega

/-- the loop over the edges -/
theorem chgE {g : GG} {m : GM} (hf : Fair g) (hk : m.k = 2) {c : Nat} {go : Nat} {b : Bool} {ln : Nat} (hln : ln = g.edges.length) {Q : AExit → Env → Sto → Prop}
    (hQ : ∀ c' go b n tl, n = (g.edges.flatMap (edgeG · m)).length → Q (.exit 3) ([(3, .ref 1 1 0 0), (8, .own 2 go 0 n)] ++ tl) ⟨[.arr 0 4 true true [g.av], .arr 1 15 true true [m.av], .arr go 10 b true (vs GC.av (g.edges.flatMap (edgeG · m)))], c'⟩) :
    Run (findFn tab) (.loop l11_0_h l11_0_b) [(3, .ref 1 1 0 0), (8, .own 2 go 0 0), (44, .sl g.en (vs GE.av g.edges)), (45, .int .i64 ln), (46, .int .i64 0)] ⟨[.arr 0 4 true true [g.av], .arr 1 15 true true [m.av], .arr go 10 b true []], c⟩ Q := by
  have hE := hf.2.2.1
  subst hln
  refine loop_inv (fun z env s => ∃ (i c go n : Nat) (b : Bool) (L : List GC), z = g.edges.length - i ∧ i ≤ g.edges.length ∧ L = (g.edges.take i).flatMap (edgeG · m) ∧ n = L.length ∧ L.length ≤ 2002 * i ∧ env = [(3, .ref 1 1 0 0), (8, .own 2 go 0 n), (44, .sl g.en (vs GE.av g.edges)), (45, .int .i64 g.edges.length), (46, .int .i64 i)] ∧ s = ⟨[.arr 0 4 true true [g.av], .arr 1 15 true true [m.av], .arr go 10 b true (vs GC.av L)], c⟩) ?_ _ _ _ ⟨0, _, _, _, _, [], rfl, by omega, rfl, rfl, by simp, rfl, rfl⟩
  rintro _ _ _ ⟨i, c, go, n, b, L, rfl, hi, hL, hn, hlen, rfl, rfl⟩
  refine ⟨rfl, ?_⟩
  by_cases hlt : i < g.edges.length
  · have hs := fm_succ (f := (edgeG · m)) hlt
    rw [← hL] at hs
    have hp := hf.2.2.2.2 _ (List.getElem_mem hlt)
    have hb := edgeG_len g.edges[i] m
    have hb2 : (edgeG g.edges[i] m).length ≤ 2002 := by have := hp.1.1; omega
    by_cases ht : (g.edges[i]).ty = m.fr
    · have he := edgeL_all hk ht
      have hcall := edgeEv (e := g.edges[i]) (to := m.to) hp.1.1
      rw [he] at hcall
      (conv => whnf); repeat' (first | (refine callK_of hcall ?_; rintro _ rfl; conv => whnf) | (refine apVm (f := GC.av) (l' := edgeG g.edges[i] m) rfl cellsG hn (by omega) (fun b => ?_); conv => whnf) | ((with_reducible first | apply kN | apply kW | apply kX | apply kG | apply kQ); (· exact sd); conv => whnf) | (refine pcase.mk ?_ ?_ <;> intro hc <;> (try rw [List.length_nil] at hc) <;> first | (exfalso; omega) | (exact absurd rfl hc) | conv => whnf) | (refine bcase_intro ?_ ?_ <;> intro hc <;> conv => whnf))
      all_goals first
        | exact again.mk ⟨_, by omega, i + 1, _, _, _, _, _, rfl, by omega, hs.symm, by simp, fmL_le (f := (edgeG · m)) hlt hb2 hlen, rfl, rfl⟩
        | (exfalso; contradiction)
        | exact again.mk ⟨_, by omega, i + 1, _, _, _, _, _, rfl, by omega, hs.symm, by simp, fmL_le (f := (edgeG · m)) hlt hb2 hlen, rfl, rfl⟩
    · have he : edgeG g.edges[i] m = [] := edgeG_n fun h => ht h.2
      rw [he, List.append_nil] at hs
      (conv => whnf); repeat' (first  | ((with_reducible first | apply kN | apply kW | apply kX | apply kG | apply kQ); (· exact sd); conv => whnf) | (refine pcase.mk ?_ ?_ <;> intro hc <;> (try rw [List.length_nil] at hc) <;> first | (exfalso; omega) | (exact absurd rfl hc) | conv => whnf) | (refine bcase_intro ?_ ?_ <;> intro hc <;> conv => whnf))
      all_goals first
        | exact again.mk ⟨_, by omega, i + 1, _, _, _, _, _, rfl, by omega, hs.symm, hn, by omega, rfl, rfl⟩
        | (exfalso; contradiction)
        | (trace_state; fail "chgE2")
  · rw [List.take_of_length_le (by omega)] at hL
    subst hL
    (conv => whnf); repeat' (first  | ((with_reducible first | apply kN | apply kW | apply kX | apply kG | apply kQ); (· exact sd); conv => whnf) | (refine pcase.mk ?_ ?_ <;> intro hc <;> (try rw [List.length_nil] at hc) <;> first | (exfalso; omega) | (exact absurd rfl hc) | conv => whnf) | (refine bcase_intro ?_ ?_ <;> intro hc <;> conv => whnf))
    exact hQ _ _ _ _ _ hn

/-- the loop over the nodes -/
theorem chgN {g : GG} {m : GM} (hf : Fair g) {c : Nat} {go : Nat} {b : Bool} {ln : Nat} (hln : ln = g.nodes.length) {Q : AExit → Env → Sto → Prop}
    (hQ : ∀ c' go b n tl, n = (g.nodes.flatMap (nodeG · m)).length → Q (.exit 1) ([(3, .ref 1 1 0 0), (8, .own 2 go 0 n)] ++ tl) ⟨[.arr 0 4 true true [g.av], .arr 1 15 true true [m.av], .arr go 10 b true (vs GC.av (g.nodes.flatMap (nodeG · m)))], c'⟩) :
    Run (findFn tab) (.loop l11_1_h l11_1_b) [(3, .ref 1 1 0 0), (8, .own 2 go 0 0), (29, .sl g.nn (vs GN.av g.nodes)), (30, .int .i64 ln), (31, .int .i64 0)] ⟨[.arr 0 4 true true [g.av], .arr 1 15 true true [m.av], .arr go 10 b true []], c⟩ Q := by
  have hE := hf.2.1
  subst hln
  refine loop_inv (fun z env s => ∃ (i c go n : Nat) (b : Bool) (L : List GC), z = g.nodes.length - i ∧ i ≤ g.nodes.length ∧ L = (g.nodes.take i).flatMap (nodeG · m) ∧ n = L.length ∧ L.length ≤ 2 * i ∧ env = [(3, .ref 1 1 0 0), (8, .own 2 go 0 n), (29, .sl g.nn (vs GN.av g.nodes)), (30, .int .i64 g.nodes.length), (31, .int .i64 i)] ∧ s = ⟨[.arr 0 4 true true [g.av], .arr 1 15 true true [m.av], .arr go 10 b true (vs GC.av L)], c⟩) ?_ _ _ _ ⟨0, _, _, _, _, [], rfl, by omega, rfl, rfl, by simp, rfl, rfl⟩
  rintro _ _ _ ⟨i, c, go, n, b, L, rfl, hi, hL, hn, hlen, rfl, rfl⟩
  refine ⟨rfl, ?_⟩
  by_cases hlt : i < g.nodes.length
  · have hs := fm_succ (f := (nodeG · m)) hlt
    rw [← hL] at hs
    have hp := hf.2.2.2.1 _ (List.getElem_mem hlt)
    have hb := nodeG_len g.nodes[i] m
    (conv => whnf); repeat' (first | (refine callK_of (nodeEv (n := g.nodes[i]) (m := m) (by have := hp.1; omega) hp.2) ?_; rintro _ ⟨b9, rfl, _⟩; conv => whnf) | (refine apVm (f := GC.av) (l' := nodeG g.nodes[i] m) rfl cellsG hn (by omega) (fun b => ?_); conv => whnf) | ((with_reducible first | apply kN | apply kW | apply kX | apply kG | apply kQ); (· exact sd); conv => whnf) | (refine pcase.mk ?_ ?_ <;> intro hc <;> (try rw [List.length_nil] at hc) <;> first | (exfalso; omega) | (exact absurd rfl hc) | conv => whnf) | (refine bcase_intro ?_ ?_ <;> intro hc <;> conv => whnf))
    all_goals first
      | exact again.mk ⟨_, by omega, i + 1, _, _, _, _, _, rfl, by omega, hs.symm, by simp, fmL_le (f := (nodeG · m)) hlt hb hlen, rfl, rfl⟩
      | exact again.mk ⟨_, by omega, i + 1, _, _, _, _, _, rfl, by omega, hs.symm, by simp, fmL_le (f := (nodeG · m)) hlt hb hlen, rfl, rfl⟩
  · rw [List.take_of_length_le (by omega)] at hL
    subst hL
    (conv => whnf); repeat' (first  | ((with_reducible first | apply kN | apply kW | apply kX | apply kG | apply kQ); (· exact sd); conv => whnf) | (refine pcase.mk ?_ ?_ <;> intro hc <;> (try rw [List.length_nil] at hc) <;> first | (exfalso; omega) | (exact absurd rfl hc) | conv => whnf) | (refine bcase_intro ?_ ?_ <;> intro hc <;> conv => whnf))
    exact hQ _ _ _ _ _ hn

set_option maxHeartbeats 2000000 in
theorem changesP {g : GG} {m : GM} (hg : g.ok) (hm : m.ok) (hf : checkE g = 0 → Fair g) : PureP (findFn tab) 11 [g.av, m.av] (fun v => ∃ b, v = .tup [.sl b (vs GC.av (resM g m).1), .int .i64 (resM g m).2]) := by
  by_cases h1 : migE m = 0
  case neg =>
    rw [resM_m h1]
    refine pureP_of rfl rfl ?_
    (conv => whnf); repeat' (first | (refine callK_of (migP hm) ?_; rintro _ rfl; conv => whnf) | ((with_reducible first | apply kN | apply kW | apply kX | apply kG | apply kQ); (· exact sd); conv => whnf) | (refine pcase.mk ?_ ?_ <;> intro hc <;> (try rw [List.length_nil] at hc) <;> first | (exfalso; omega) | (exact absurd rfl hc) | conv => whnf) | (refine bcase_intro ?_ ?_ <;> intro hc <;> conv => whnf))
    all_goals first | exact ⟨_, rfl⟩ | (exfalso; omega) | (trace_state; fail "changesP1")
  have hM := migP hm
  rw [h1] at hM
  by_cases h2 : checkE g = 0
  case neg =>
    rw [resM_c h1 h2]
    refine pureP_of rfl rfl ?_
    (conv => whnf); repeat' (first | (refine callK_of hM ?_; rintro _ rfl; conv => whnf) | (refine callK_of (checkG hg) ?_; rintro _ rfl; conv => whnf) | ((with_reducible first | apply kN | apply kW | apply kX | apply kG | apply kQ); (· exact sd); conv => whnf) | (refine pcase.mk ?_ ?_ <;> intro hc <;> (try rw [List.length_nil] at hc) <;> first | (exfalso; omega) | (exact absurd rfl hc) | conv => whnf) | (refine bcase_intro ?_ ?_ <;> intro hc <;> conv => whnf))
    all_goals first | exact ⟨_, rfl⟩ | (exfalso; omega) | (trace_state; fail "changesP2")
  have hF := hf h2
  have hC := checkG hg
  rw [h2] at hC
  by_cases h3 : takenM g m
  · rw [resM_t h1 h2 h3]
    refine pureP_of rfl rfl ?_
    (conv => whnf); repeat' (first | (refine callK_of hM ?_; rintro _ rfl; conv => whnf) | (refine callK_of hC ?_; rintro _ rfl; conv => whnf) | (refine callB (takenP hF) (fun hz => ?_) (fun hz => ?_) <;> conv => whnf) | ((with_reducible first | apply kN | apply kW | apply kX | apply kG | apply kQ); (· exact sd); conv => whnf) | (refine pcase.mk ?_ ?_ <;> intro hc <;> (try rw [List.length_nil] at hc) <;> first | (exfalso; omega) | (exact absurd rfl hc) | conv => whnf) | (refine bcase_intro ?_ ?_ <;> intro hc <;> conv => whnf))
    all_goals first | exact ⟨_, rfl⟩ | (exfalso; exact absurd h3 (by assumption)) | (exfalso; omega) | (trace_state; fail "changesP3")
  rw [resM_0 h1 h2 h3]
  have hT := takenP (m := m) hF
  rw [decide_eq_false h3] at hT
  by_cases k2 : m.k = 2
  · have e1 : chsG g m = g.edges.flatMap (edgeG · m) := by rw [chsG, nodesG_nil (by omega) (by omega) (by omega) (by omega)]; rfl
    rw [e1]
    refine pureP_of rfl rfl ?_
    (conv => whnf); repeat' (first | (refine callK_of hM ?_; rintro _ rfl; conv => whnf) | (refine callK_of hC ?_; rintro _ rfl; conv => whnf) | (refine callK_of hT ?_; rintro _ rfl; conv => whnf) | ((with_reducible first | apply kN | apply kW | apply kX | apply kG | apply kQ); (· exact sd); conv => whnf) | (refine pcase.mk ?_ ?_ <;> intro hc <;> (try rw [List.length_nil] at hc) <;> first | (exfalso; omega) | (exact absurd rfl hc) | conv => whnf) | (refine bcase_intro ?_ ?_ <;> intro hc <;> conv => whnf))
    all_goals first
      | (exfalso; omega)
      | (refine chgE hF k2 rfl ?_
         intro c' go b n tl hn
         (conv => whnf); repeat' (first  | ((with_reducible first | apply kN | apply kW | apply kX | apply kG | apply kQ); (· exact sd); conv => whnf) | (refine pcase.mk ?_ ?_ <;> intro hc <;> (try rw [List.length_nil] at hc) <;> first | (exfalso; omega) | (exact absurd rfl hc) | conv => whnf) | (refine bcase_intro ?_ ?_ <;> intro hc <;> conv => whnf))
         all_goals first | exact ⟨b, by rw [hn, sub_vs, List.drop_zero, List.take_length]; rfl⟩ | (trace_state; fail "changesP4"))
      | (trace_state; fail "changesP5")
  by_cases k6 : m.k = 6 ∨ m.k = 7
  · have e1 : chsG g m = [] := by rw [chsG, nodesG_nil (by omega) (by omega) (by omega) (by omega), edgesG_nil k2]; rfl
    rw [e1]
    refine pureP_of rfl rfl ?_
    (conv => whnf); repeat' (first | (refine callK_of hM ?_; rintro _ rfl; conv => whnf) | (refine callK_of hC ?_; rintro _ rfl; conv => whnf) | (refine callK_of hT ?_; rintro _ rfl; conv => whnf) | ((with_reducible first | apply kN | apply kW | apply kX | apply kG | apply kQ); (· exact sd); conv => whnf) | (refine pcase.mk ?_ ?_ <;> intro hc <;> (try rw [List.length_nil] at hc) <;> first | (exfalso; omega) | (exact absurd rfl hc) | conv => whnf) | (refine bcase_intro ?_ ?_ <;> intro hc <;> conv => whnf))
    all_goals first
      | (exfalso; omega)
      | exact ⟨_, rfl⟩
      | (trace_state; fail "changesP6")
  · have e1 : chsG g m = g.nodes.flatMap (nodeG · m) := by rw [chsG, edgesG_nil k2, List.append_nil]
    rw [e1]
    refine pureP_of rfl rfl ?_
    (conv => whnf); repeat' (first | (refine callK_of hM ?_; rintro _ rfl; conv => whnf) | (refine callK_of hC ?_; rintro _ rfl; conv => whnf) | (refine callK_of hT ?_; rintro _ rfl; conv => whnf) | ((with_reducible first | apply kN | apply kW | apply kX | apply kG | apply kQ); (· exact sd); conv => whnf) | (refine pcase.mk ?_ ?_ <;> intro hc <;> (try rw [List.length_nil] at hc) <;> first | (exfalso; omega) | (exact absurd rfl hc) | conv => whnf) | (refine bcase_intro ?_ ?_ <;> intro hc <;> conv => whnf))
    all_goals first
      | (exfalso; omega)
      | (refine chgN hF rfl ?_
         intro c' go b n tl hn
         (conv => whnf); repeat' (first  | ((with_reducible first | apply kN | apply kW | apply kX | apply kG | apply kQ); (· exact sd); conv => whnf) | (refine pcase.mk ?_ ?_ <;> intro hc <;> (try rw [List.length_nil] at hc) <;> first | (exfalso; omega) | (exact absurd rfl hc) | conv => whnf) | (refine bcase_intro ?_ ?_ <;> intro hc <;> conv => whnf))
         all_goals first | exact ⟨b, by rw [hn, sub_vs, List.drop_zero, List.take_length]; rfl⟩ | (trace_state; fail "changesP7"))
      | (trace_state; fail "changesP8")

theorem edgeRc {e : GE} {m : GM} (h : m.k = 2) (h1 : e.ty = m.fr) (hp : e.props.length ≤ 2000) : PureP (findFn tab) 40 [e.av, .str m.to] (· = .sl true (vs GC.av (edgeG e m))) := by
  rw [← edgeL_all h h1]; exact edgeRf hp

/-- the reference's loops -/
theorem chgER {g : GG} {m : GM} (hf : Fair g) {c : Nat} {go n0 : Nat} {b : Bool} {L0 : List GC} (hn0 : n0 = L0.length) (hL0 : L0.length ≤ 100000) {Q : AExit → Env → Sto → Prop}
    (hQ : ∀ c' go b n tl, n = (L0 ++ g.edges.flatMap (edgeG · m)).length → Q (.exit 2) ([(2, .ref 0 0 0 0), (3, .ref 1 1 0 0), (8, .own 2 go 0 n)] ++ tl) ⟨[.arr 0 4 true true [g.av], .arr 1 15 true true [m.av], .arr go 10 b true (vs GC.av (L0 ++ g.edges.flatMap (edgeG · m)))], c'⟩) :
    Run (findFn tab) (.loop l12_1_h l12_1_b) [(2, .ref 0 0 0 0), (3, .ref 1 1 0 0), (8, .own 2 go 0 n0), (10, .int .i64 0)] ⟨[.arr 0 4 true true [g.av], .arr 1 15 true true [m.av], .arr go 10 b true (vs GC.av L0)], c⟩ Q := by
  have hE := hf.2.2.1
  refine loop_inv (fun z env s => ∃ (i c go n : Nat) (b : Bool) (L : List GC), z = g.edges.length - i ∧ i ≤ g.edges.length ∧ L = L0 ++ (g.edges.take i).flatMap (edgeG · m) ∧ n = L.length ∧ L.length ≤ 100000 + 2002 * i ∧ env = [(2, .ref 0 0 0 0), (3, .ref 1 1 0 0), (8, .own 2 go 0 n), (10, .int .i64 i)] ∧ s = ⟨[.arr 0 4 true true [g.av], .arr 1 15 true true [m.av], .arr go 10 b true (vs GC.av L)], c⟩) ?_ _ _ _ ⟨0, _, _, _, _, L0, rfl, by omega, by simp, hn0, by omega, rfl, rfl⟩
  rintro _ _ _ ⟨i, c, go, n, b, L, rfl, hi, hL, hn, hlen, rfl, rfl⟩
  refine ⟨rfl, ?_⟩
  by_cases hlt : i < g.edges.length
  · have hs := fm_succ (f := (edgeG · m)) hlt
    have hs : L ++ edgeG g.edges[i] m = L0 ++ (g.edges.take (i + 1)).flatMap (edgeG · m) := by rw [hs, ← List.append_assoc, ← hL]
    have hp := hf.2.2.2.2 _ (List.getElem_mem hlt)
    have hb := edgeG_len g.edges[i] m
    have hb2 : (edgeG g.edges[i] m).length ≤ 2002 := by have := hp.1.1; omega
    by_cases ht : m.k = 2 ∧ (g.edges[i]).ty = m.fr
    · have hcall := edgeRc ht.1 ht.2 hp.1.1
      obtain ⟨hk, ht⟩ := ht
      (conv => whnf); repeat' (first | (refine callK_of hcall ?_; rintro _ rfl; conv => whnf) | (refine apVm (f := GC.av) (l' := edgeG g.edges[i] m) rfl cellsG hn (by omega) (fun b => ?_); conv => whnf) | ((with_reducible first | apply kN | apply kW | apply kX | apply kG | apply kQ); (· exact sd); conv => whnf) | (refine pcase.mk ?_ ?_ <;> intro hc <;> (try rw [List.length_nil] at hc) <;> first | (exfalso; omega) | (exact absurd rfl hc) | conv => whnf) | (refine bcase_intro ?_ ?_ <;> intro hc <;> conv => whnf))
      all_goals first
        | exact again.mk ⟨_, by omega, i + 1, _, _, _, _, _, rfl, by omega, hs, by simp, by rw [List.length_append]; omega, rfl, rfl⟩
        | (exfalso; contradiction)
        | (trace_state; fail "chgER1")
    · have he : edgeG g.edges[i] m = [] := edgeG_n ht
      rw [he, List.append_nil] at hs
      (conv => whnf); repeat' (first  | ((with_reducible first | apply kN | apply kW | apply kX | apply kG | apply kQ); (· exact sd); conv => whnf) | (refine pcase.mk ?_ ?_ <;> intro hc <;> (try rw [List.length_nil] at hc) <;> first | (exfalso; omega) | (exact absurd rfl hc) | conv => whnf) | (refine bcase_intro ?_ ?_ <;> intro hc <;> conv => whnf))
      all_goals first
        | exact again.mk ⟨_, by omega, i + 1, _, _, _, _, _, rfl, by omega, hs, hn, by omega, rfl, rfl⟩
        | (exfalso; grind)
        | (trace_state; fail "chgER2")
  · rw [List.take_of_length_le (by omega)] at hL
    subst hL
    (conv => whnf); repeat' (first  | ((with_reducible first | apply kN | apply kW | apply kX | apply kG | apply kQ); (· exact sd); conv => whnf) | (refine pcase.mk ?_ ?_ <;> intro hc <;> (try rw [List.length_nil] at hc) <;> first | (exfalso; omega) | (exact absurd rfl hc) | conv => whnf) | (refine bcase_intro ?_ ?_ <;> intro hc <;> conv => whnf))
    exact hQ _ _ _ _ _ hn

theorem chgNR {g : GG} {m : GM} (hf : Fair g) {c : Nat} {go : Nat} {b : Bool} {Q : AExit → Env → Sto → Prop}
    (hQ : ∀ c' go b n tl, n = (g.nodes.flatMap (nodeG · m)).length → n ≤ 100000 → Q (.exit 0) ([(2, .ref 0 0 0 0), (3, .ref 1 1 0 0), (8, .own 2 go 0 n)] ++ tl) ⟨[.arr 0 4 true true [g.av], .arr 1 15 true true [m.av], .arr go 10 b true (vs GC.av (g.nodes.flatMap (nodeG · m)))], c'⟩) :
    Run (findFn tab) (.loop l12_0_h l12_0_b) [(2, .ref 0 0 0 0), (3, .ref 1 1 0 0), (8, .own 2 go 0 0), (9, .int .i64 0)] ⟨[.arr 0 4 true true [g.av], .arr 1 15 true true [m.av], .arr go 10 b true []], c⟩ Q := by
  have hE := hf.2.1
  refine loop_inv (fun z env s => ∃ (i c go n : Nat) (b : Bool) (L : List GC), z = g.nodes.length - i ∧ i ≤ g.nodes.length ∧ L = (g.nodes.take i).flatMap (nodeG · m) ∧ n = L.length ∧ L.length ≤ 2 * i ∧ env = [(2, .ref 0 0 0 0), (3, .ref 1 1 0 0), (8, .own 2 go 0 n), (9, .int .i64 i)] ∧ s = ⟨[.arr 0 4 true true [g.av], .arr 1 15 true true [m.av], .arr go 10 b true (vs GC.av L)], c⟩) ?_ _ _ _ ⟨0, _, _, _, _, [], rfl, by omega, rfl, rfl, by simp, rfl, rfl⟩
  rintro _ _ _ ⟨i, c, go, n, b, L, rfl, hi, hL, hn, hlen, rfl, rfl⟩
  refine ⟨rfl, ?_⟩
  by_cases hlt : i < g.nodes.length
  · have hs := fm_succ (f := (nodeG · m)) hlt
    rw [← hL] at hs
    have hp := hf.2.2.2.1 _ (List.getElem_mem hlt)
    have hb := nodeG_len g.nodes[i] m
    (conv => whnf); repeat' (first | (refine callK_of (nodeRf (n := g.nodes[i]) (m := m) (by have := hp.1; omega) hp.2) ?_; rintro _ ⟨b9, rfl, _⟩; conv => whnf) | (refine apVm (f := GC.av) (l' := nodeG g.nodes[i] m) rfl cellsG hn (by omega) (fun b => ?_); conv => whnf) | ((with_reducible first | apply kN | apply kW | apply kX | apply kG | apply kQ); (· exact sd); conv => whnf) | (refine pcase.mk ?_ ?_ <;> intro hc <;> (try rw [List.length_nil] at hc) <;> first | (exfalso; omega) | (exact absurd rfl hc) | conv => whnf) | (refine bcase_intro ?_ ?_ <;> intro hc <;> conv => whnf))
    all_goals first
      | exact again.mk ⟨_, by omega, i + 1, _, _, _, _, _, rfl, by omega, hs.symm, by simp, fmL_le (f := (nodeG · m)) hlt hb hlen, rfl, rfl⟩
      | (trace_state; fail "chgNR")
  · rw [List.take_of_length_le (by omega)] at hL
    subst hL
    (conv => whnf); repeat' (first  | ((with_reducible first | apply kN | apply kW | apply kX | apply kG | apply kQ); (· exact sd); conv => whnf) | (refine pcase.mk ?_ ?_ <;> intro hc <;> (try rw [List.length_nil] at hc) <;> first | (exfalso; omega) | (exact absurd rfl hc) | conv => whnf) | (refine bcase_intro ?_ ?_ <;> intro hc <;> conv => whnf))
    exact hQ _ _ _ _ _ hn (by omega)

set_option maxHeartbeats 2000000 in
theorem changesR {g : GG} {m : GM} (hg : g.ok) (hm : m.ok) (hf : checkE g = 0 → Fair g) : PureP (findFn tab) 12 [g.av, m.av] (fun v => ∃ b, v = .tup [.sl b (vs GC.av (resM g m).1), .int .i64 (resM g m).2]) := by
  by_cases h1 : migE m = 0
  case neg =>
    rw [resM_m h1]
    refine pureP_of rfl rfl ?_
    (conv => whnf); repeat' (first | (refine callK_of (migR hm) ?_; rintro _ rfl; conv => whnf) | ((with_reducible first | apply kN | apply kW | apply kX | apply kG | apply kQ); (· exact sd); conv => whnf) | (refine pcase.mk ?_ ?_ <;> intro hc <;> (try rw [List.length_nil] at hc) <;> first | (exfalso; omega) | (exact absurd rfl hc) | conv => whnf) | (refine bcase_intro ?_ ?_ <;> intro hc <;> conv => whnf))
    all_goals first | exact ⟨_, rfl⟩ | (exfalso; omega) | (trace_state; fail "changesR1")
  have hM := migR hm
  rw [h1] at hM
  by_cases h2 : checkE g = 0
  case neg =>
    rw [resM_c h1 h2]
    refine pureP_of rfl rfl ?_
    (conv => whnf); repeat' (first | (refine callK_of hM ?_; rintro _ rfl; conv => whnf) | (refine callK_of (checkR hg) ?_; rintro _ rfl; conv => whnf) | ((with_reducible first | apply kN | apply kW | apply kX | apply kG | apply kQ); (· exact sd); conv => whnf) | (refine pcase.mk ?_ ?_ <;> intro hc <;> (try rw [List.length_nil] at hc) <;> first | (exfalso; omega) | (exact absurd rfl hc) | conv => whnf) | (refine bcase_intro ?_ ?_ <;> intro hc <;> conv => whnf))
    all_goals first | exact ⟨_, rfl⟩ | (exfalso; omega) | (trace_state; fail "changesR2")
  have hF := hf h2
  have hC := checkR hg
  rw [h2] at hC
  by_cases h3 : takenM g m
  · rw [resM_t h1 h2 h3]
    refine pureP_of rfl rfl ?_
    (conv => whnf); repeat' (first | (refine callK_of hM ?_; rintro _ rfl; conv => whnf) | (refine callK_of hC ?_; rintro _ rfl; conv => whnf) | (refine callB (takenR hF) (fun hz => ?_) (fun hz => ?_) <;> conv => whnf) | ((with_reducible first | apply kN | apply kW | apply kX | apply kG | apply kQ); (· exact sd); conv => whnf) | (refine pcase.mk ?_ ?_ <;> intro hc <;> (try rw [List.length_nil] at hc) <;> first | (exfalso; omega) | (exact absurd rfl hc) | conv => whnf) | (refine bcase_intro ?_ ?_ <;> intro hc <;> conv => whnf))
    all_goals first | exact ⟨_, rfl⟩ | (exfalso; exact absurd h3 (by assumption)) | (exfalso; omega) | (trace_state; fail "changesR3")
  rw [resM_0 h1 h2 h3]
  have hT := takenR (m := m) hF
  rw [decide_eq_false h3] at hT
  refine pureP_of rfl rfl ?_
  (conv => whnf); repeat' (first | (refine callK_of hM ?_; rintro _ rfl; conv => whnf) | (refine callK_of hC ?_; rintro _ rfl; conv => whnf) | (refine callK_of hT ?_; rintro _ rfl; conv => whnf) | ((with_reducible first | apply kN | apply kW | apply kX | apply kG | apply kQ); (· exact sd); conv => whnf) | (refine pcase.mk ?_ ?_ <;> intro hc <;> (try rw [List.length_nil] at hc) <;> first | (exfalso; omega) | (exact absurd rfl hc) | conv => whnf) | (refine bcase_intro ?_ ?_ <;> intro hc <;> conv => whnf))
  all_goals first
    | (exfalso; omega)
    | (refine chgNR hF ?_
       intro c' go b n tl hn hn2
       (conv => whnf); repeat' (first  | ((with_reducible first | apply kN | apply kW | apply kX | apply kG | apply kQ); (· exact sd); conv => whnf) | (refine pcase.mk ?_ ?_ <;> intro hc <;> (try rw [List.length_nil] at hc) <;> first | (exfalso; omega) | (exact absurd rfl hc) | conv => whnf) | (refine bcase_intro ?_ ?_ <;> intro hc <;> conv => whnf))
       refine chgER hF (L0 := g.nodes.flatMap (nodeG · m)) hn (by omega) ?_
       intro c' go b n tl hn
       (conv => whnf); repeat' (first  | ((with_reducible first | apply kN | apply kW | apply kX | apply kG | apply kQ); (· exact sd); conv => whnf) | (refine pcase.mk ?_ ?_ <;> intro hc <;> (try rw [List.length_nil] at hc) <;> first | (exfalso; omega) | (exact absurd rfl hc) | conv => whnf) | (refine bcase_intro ?_ ?_ <;> intro hc <;> conv => whnf))
       all_goals first | exact ⟨b, by rw [hn, sub_vs, List.drop_zero, List.take_length]; rfl⟩ | (trace_state; fail "changesR4"))
    | (trace_state; fail "changesR5")

end AI
end Go.Proofs.YtdlkcancogpafaaGreatDoor
set_option linter.unusedVariables false
namespace Go.Proofs.YtdlkcancogpafaaGreatDoor
namespace AI

/-- a change whose value is small -/
def FineC (c : GC) : Prop := c.v.ok ∧ Lite 12 c.v.av
theorem fine0 {op id fr to : Int} {k : List UInt8} : FineC ⟨op, id, fr, to, k, V0⟩ := v0_ok
theorem nodeG_fine {n : GN} {m : GM} (hv : m.v.ok ∧ Lite 12 m.v.av) (hp : FairP n.props) : ∀ c ∈ nodeG n m, FineC c := by
  have h := valP_good hp.1.2 m.fr
  intro c hc
  unfold nodeG at hc
  repeat' split at hc
  all_goals simp only [List.mem_cons, List.not_mem_nil, or_false] at hc
  all_goals first
    | exact absurd hc id
    | (rcases hc with rfl | rfl <;> first | exact fine0 | exact h | exact hv)
    | (subst hc; first | exact fine0 | exact h | exact hv)
theorem edgeG_fine {e : GE} {m : GM} (hp : FairP e.props) : ∀ c ∈ edgeG e m, FineC c := by
  intro c hc
  unfold edgeG at hc
  split at hc
  · simp only [List.mem_cons, List.mem_map] at hc
    rcases hc with rfl | rfl | ⟨p, h, rfl⟩
    · exact fine0
    · exact fine0
    · exact ⟨(hp.1.2 p h).1.2, (hp.1.2 p h).2⟩
  · cases hc
theorem resM_fine {g : GG} {m : GM} (hv : m.v.ok ∧ Lite 12 m.v.av) (h : checkE g = 0 → Fair g) : ∀ c ∈ (resM g m).1, FineC c := by
  intro c hc
  by_cases h1 : migE m = 0
  case neg => rw [resM_m h1] at hc; cases hc
  by_cases h2 : checkE g = 0
  case neg => rw [resM_c h1 h2] at hc; cases hc
  by_cases h3 : takenM g m
  · rw [resM_t h1 h2 h3] at hc; cases hc
  rw [resM_0 h1 h2 h3] at hc
  have hf := h h2
  rcases List.mem_append.1 hc with hc | hc
  · obtain ⟨n, hn, hc⟩ := List.mem_flatMap.1 hc
    exact nodeG_fine hv (hf.2.2.2.1 n hn).2 c hc
  · obtain ⟨n, hn, hc⟩ := List.mem_flatMap.1 hc
    exact edgeG_fine (hf.2.2.2.2 n hn) c hc

theorem fm_len {α β : Type} {f : α → List β} {l : List α} {k : Nat} (h : ∀ x ∈ l, (f x).length ≤ k) : (l.flatMap f).length ≤ k * l.length := by
  induction l with
  | nil => simp
  | cons a l ih =>
    have h1 := h a (by simp)
    have h2 := ih fun x hx => h x (by simp [hx])
    rw [List.flatMap_cons, List.length_append, List.length_cons, Nat.mul_succ]; omega

theorem resM_len {g : GG} {m : GM} (h : checkE g = 0 → Fair g) : (resM g m).1.length < 2^62 := by
  by_cases h1 : migE m = 0
  case neg => rw [resM_m h1]; simp
  by_cases h2 : checkE g = 0
  case neg => rw [resM_c h1 h2]; simp
  by_cases h3 : takenM g m
  · rw [resM_t h1 h2 h3]; simp
  rw [resM_0 h1 h2 h3]
  have hf := h h2
  have a := fm_len (f := (nodeG · m)) (l := g.nodes) (k := 2) fun x _ => nodeG_len x m
  have b := fm_len (f := (edgeG · m)) (l := g.edges) (k := 2002) fun x hx => by have := edgeG_len x m; have := (hf.2.2.2.2 x hx).1.1; omega
  have := hf.2.1
  have := hf.2.2.1
  simp only [chsG, List.length_append]
  omega

theorem sameC {c : GC} (h : FineC c) : PureP (findFn tab) 56 [c.av, c.av] (· = .bool (decide True)) := by
  have ho := order0V 12 h.1 h.2
  refine pureP_of rfl rfl ?_
  (conv => whnf); repeat' (first | (refine callK_of ho ?_; rintro _ rfl; conv => whnf) | ((with_reducible first | apply kN | apply kW | apply kX | apply kG | apply kQ); (· exact sd); conv => whnf) | (refine pcase.mk ?_ ?_ <;> intro hc <;> (try rw [List.length_nil] at hc) <;> first | (exfalso; omega) | (exact absurd rfl hc) | conv => whnf) | (refine bcase_intro ?_ ?_ <;> intro hc <;> conv => whnf))
  all_goals first | rfl | exact absurd rfl (by assumption) | (exfalso; simp_all; done) | (trace_state; fail "sameC")

theorem sameAllC {L : List GC} {n1 n2 : Bool} (hl : L.length < 2^62) (h : ∀ c ∈ L, FineC c) : PureP (findFn tab) 17 [.sl n1 (vs GC.av L), .sl n2 (vs GC.av L)] (· = .bool (decide True)) := by
  refine pureP_of rfl rfl ?_
  (conv => whnf); repeat' (first  | ((with_reducible first | apply kN | apply kW | apply kX | apply kG | apply kQ); (· exact sd); conv => whnf) | (refine pcase.mk ?_ ?_ <;> intro hc <;> (try rw [List.length_nil] at hc) <;> first | (exfalso; omega) | (exact absurd rfl hc) | conv => whnf) | (refine bcase_intro ?_ ?_ <;> intro hc <;> conv => whnf))
  all_goals first | (exfalso; omega) | skip
  refine loop_inv (fun m env s => ∃ i : Nat, m = L.length - i ∧ env = [(0, .sl n1 (vs GC.av L)), (1, .sl n2 (vs GC.av L)), (5, .int .i64 i)] ∧ s = ⟨[], 0⟩) ?_ _ _ _ ⟨0, rfl, rfl, rfl⟩
  rintro _ _ _ ⟨i, rfl, rfl, rfl⟩
  refine ⟨rfl, ?_⟩
  by_cases hlt : i < L.length
  · (conv => whnf); repeat' (first | (refine callB (sameC (h L[i] (List.getElem_mem hlt))) (fun _ => ?_) (fun h => absurd trivial h); conv => whnf) | ((with_reducible first | apply kN | apply kW | apply kX | apply kG | apply kQ); (· exact sd); conv => whnf) | (refine pcase.mk ?_ ?_ <;> intro hc <;> (try rw [List.length_nil] at hc) <;> first | (exfalso; omega) | (exact absurd rfl hc) | conv => whnf) | (refine bcase_intro ?_ ?_ <;> intro hc <;> conv => whnf))
    all_goals first | exact again.mk ⟨_, by omega, i + 1, rfl, rfl, rfl⟩ | (trace_state; fail "sameAllC")
  · (conv => whnf); repeat' (first  | ((with_reducible first | apply kN | apply kW | apply kX | apply kG | apply kQ); (· exact sd); conv => whnf) | (refine pcase.mk ?_ ?_ <;> intro hc <;> (try rw [List.length_nil] at hc) <;> first | (exfalso; omega) | (exact absurd rfl hc) | conv => whnf) | (refine bcase_intro ?_ ?_ <;> intro hc <;> conv => whnf))
    all_goals first | rfl | (trace_state; fail "sameAllC2")

def gm0 : GM := ⟨0, [], [], [], V0, ⟨0, 0, [], [], [], []⟩⟩
/-- the inverse of a renaming -/
def invM (m : GM) : AV := if migE m = 0 ∧ m.k ≤ 3 then .tup [(GM.mk m.k m.label m.to m.fr m.v m.r).av, .bool true] else .tup [gm0.av, .bool false]
theorem invM_y {m : GM} (h : migE m = 0) (h1 : m.k ≤ 3) : invM m = .tup [(GM.mk m.k m.label m.to m.fr m.v m.r).av, .bool true] := if_pos ⟨h, h1⟩
theorem invM_n {m : GM} (h : ¬ (migE m = 0 ∧ m.k ≤ 3)) : invM m = .tup [gm0.av, .bool false] := if_neg h
theorem invP {m : GM} (hm : m.ok) : PureP (findFn tab) 13 [m.av] (· = invM m) := by
  refine pureP_of rfl rfl ?_
  (conv => whnf); repeat' (first | (refine callK_of (migP hm) ?_; rintro _ rfl; conv => whnf) | ((with_reducible first | apply kN | apply kW | apply kX | apply kG | apply kQ); (· exact sd); conv => whnf) | (refine pcase.mk ?_ ?_ <;> intro hc <;> (try rw [List.length_nil] at hc) <;> first | (exfalso; omega) | (exact absurd rfl hc) | conv => whnf) | (refine bcase_intro ?_ ?_ <;> intro hc <;> conv => whnf))
  all_goals first
    | (rw [invM_y (by omega) (by omega)]; rfl)
    | (rw [invM_n (by omega)]; rfl)
    | (trace_state; fail "invP")
theorem renG {k : Int} : PureP (findFn tab) 41 [.int .i64 k] (· = .bool (decide (renK k))) := by
  refine pureP_of rfl rfl ?_
  (conv => whnf); repeat' (first  | ((with_reducible first | apply kN | apply kW | apply kX | apply kG | apply kQ); (· exact sd); conv => whnf) | (refine pcase.mk ?_ ?_ <;> intro hc <;> (try rw [List.length_nil] at hc) <;> first | (exfalso; omega) | (exact absurd rfl hc) | conv => whnf) | (refine bcase_intro ?_ ?_ <;> intro hc <;> conv => whnf))
  all_goals first | exact bool_t (by unfold renK; omega) | exact bool_f (by unfold renK; omega) | (trace_state; fail "renG")
theorem invR {m : GM} (hm : m.ok) : PureP (findFn tab) 14 [m.av] (· = invM m) := by
  have hk1 : migE m = 0 → 1 ≤ m.k := fun h => by have := (migE_ok h).1; unfold badM at this; omega
  refine pureP_of rfl rfl ?_
  (conv => whnf); repeat' (first | (refine callK_of (migR hm) ?_; rintro _ rfl; conv => whnf) | (refine callB (renG (k := m.k)) (fun hr => ?_) (fun hr => ?_) <;> conv => whnf) | ((with_reducible first | apply kN | apply kW | apply kX | apply kG | apply kQ); (· exact sd); conv => whnf) | (refine pcase.mk ?_ ?_ <;> intro hc <;> (try rw [List.length_nil] at hc) <;> first | (exfalso; omega) | (exact absurd rfl hc) | conv => whnf) | (refine bcase_intro ?_ ?_ <;> intro hc <;> conv => whnf))
  all_goals try unfold renK at hr
  all_goals first
    | (rw [invM_y (by omega) (by omega)]; rfl)
    | (rw [invM_n (by omega)]; rfl)
    | (rw [invM_n (fun h => by have := hk1 h.1; omega)]; rfl)
    | (trace_state; fail "invR")

theorem smallM {g : GG} (hg : g.ok) : PureP (findFn tab) 10 [g.av, .sl false []] (fun v => ∃ b, v = .bool b ∧ (b = true → SmG g 10 14)) := by
  obtain ⟨_, ⟨b, rfl, hb⟩, hp⟩ := (small hg (n := 10) (e := 14)).det
  cases b
  all_goals
    refine pureP_of rfl rfl ?_
    (conv => whnf); repeat' (first | (refine callK_of hp ?_; rintro _ rfl; conv => whnf) | ((with_reducible first | apply kN | apply kW | apply kX | apply kG | apply kQ); (· exact sd); conv => whnf) | (refine pcase.mk ?_ ?_ <;> intro hc <;> (try rw [List.length_nil] at hc) <;> first | (exfalso; omega) | (exact absurd rfl hc) | conv => whnf) | (refine bcase_intro ?_ ?_ <;> intro hc <;> conv => whnf))
  all_goals first | exact ⟨_, rfl, hb⟩ | exact ⟨_, rfl, fun h => Bool.noConfusion h⟩ | exact ⟨_, rfl, fun _ => hb rfl⟩ | (trace_state; fail "smallM")

theorem lightR {v : GV} (hv : v.ok) : PureP (findFn tab) 18 [.sl true [.sl true [v.av]], .int .i64 60] (fun w => ∃ b, w = .bool b ∧ (b = true → Lite 12 v.av)) := by
  refine pureP_of rfl rfl ?_
  (conv => whnf); repeat' (first  | ((with_reducible first | apply kN | apply kW | apply kX | apply kG | apply kQ); (· exact sd); conv => whnf) | (refine pcase.mk ?_ ?_ <;> intro hc <;> (try rw [List.length_nil] at hc) <;> first | (exfalso; omega) | (exact absurd rfl hc) | conv => whnf) | (refine bcase_intro ?_ ?_ <;> intro hc <;> conv => whnf))
  refine loop_step ?_ rfl
  (conv => whnf); repeat' (first  | ((with_reducible first | apply kN | apply kW | apply kX | apply kG | apply kQ); (· exact sd); conv => whnf) | (refine pcase.mk ?_ ?_ <;> intro hc <;> (try rw [List.length_nil] at hc) <;> first | (exfalso; omega) | (exact absurd rfl hc) | conv => whnf) | (refine bcase_intro ?_ ?_ <;> intro hc <;> conv => whnf))
  all_goals first | (exfalso; simp_all; done) | skip
  refine loop_step ?_ rfl
  (conv => whnf); repeat' (first | (refine callK_of (wei 12 (by omega) hv (by omega) (by omega)) ?_; rintro _ ⟨r, rfl, r1, r2, r3⟩; conv => whnf) | ((with_reducible first | apply kN | apply kW | apply kX | apply kG | apply kQ); (· exact sd); conv => whnf) | (refine pcase.mk ?_ ?_ <;> intro hc <;> (try rw [List.length_nil] at hc) <;> first | (exfalso; omega) | (exact absurd rfl hc) | conv => whnf) | (refine bcase_intro ?_ ?_ <;> intro hc <;> conv => whnf))
  all_goals first | (exfalso; simp_all; done) | skip
  refine loop_step ?_ rfl
  (conv => whnf); repeat' (first  | ((with_reducible first | apply kN | apply kW | apply kX | apply kG | apply kQ); (· exact sd); conv => whnf) | (refine pcase.mk ?_ ?_ <;> intro hc <;> (try rw [List.length_nil] at hc) <;> first | (exfalso; omega) | (exact absurd rfl hc) | conv => whnf) | (refine bcase_intro ?_ ?_ <;> intro hc <;> conv => whnf))
  all_goals first | (exfalso; simp_all; done) | skip
  refine loop_step ?_ rfl
  (conv => whnf); repeat' (first  | ((with_reducible first | apply kN | apply kW | apply kX | apply kG | apply kQ); (· exact sd); conv => whnf) | (refine pcase.mk ?_ ?_ <;> intro hc <;> (try rw [List.length_nil] at hc) <;> first | (exfalso; omega) | (exact absurd rfl hc) | conv => whnf) | (refine bcase_intro ?_ ?_ <;> intro hc <;> conv => whnf))
  all_goals first
    | (exfalso; simp_all; done)
    | exact ⟨_, rfl, fun _ => (r3 (by assumption)).2⟩
    | exact ⟨_, rfl, fun h => Bool.noConfusion h⟩
    | (trace_state; fail "lightR")

theorem wrapAny {z : Int} {K : AV → Prop} (h : ∀ y, K (.int .i64 y)) : wrapK .i64 z K := wrapK_intro rfl (h _)
theorem lightM {m : GM} (hm : m.ok) : PureP (findFn tab) 5 [m.av] (fun v => ∃ b, v = .bool b ∧ (b = true → Lite 12 m.v.av)) := by
  obtain ⟨_, ⟨b, rfl, hb⟩, hp⟩ := (lightR hm.2.2.2.2.1).det
  cases b
  all_goals
    refine pureP_of rfl rfl ?_
    (conv => whnf); repeat' (first | (refine callK_of hp ?_; rintro _ rfl; conv => whnf) | (refine wrapAny (fun y => ?_); conv => whnf) | ((with_reducible first | apply kN | apply kW | apply kX | apply kG | apply kQ); (· exact sd); conv => whnf) | (refine pcase.mk ?_ ?_ <;> intro hc <;> (try rw [List.length_nil] at hc) <;> first | (exfalso; omega) | (exact absurd rfl hc) | conv => whnf) | (refine bcase_intro ?_ ?_ <;> intro hc <;> conv => whnf))
  all_goals first | exact ⟨_, rfl, hb⟩ | exact ⟨_, rfl, fun h => Bool.noConfusion h⟩ | exact ⟨_, rfl, fun _ => hb rfl⟩ | (trace_state; fail "lightM")

/-- a valid graph's properties may be stored -/
theorem parts_leafy {L : List (List UInt8)} {P : List GP} (h : partsE L P = 0) : allPlain P := by
  by_cases h1 : 8 < L.length ∨ 16 < P.length
  · have := parts_4 h1; rw [h] at this; cases this
  by_cases h2 : allNames L ∧ allNames (keysOf P)
  case neg => have := parts_6 h1 h2; rw [h] at this; cases this
  by_cases h3 : rises L ∧ rises (keysOf P)
  case neg => have := parts_26 h1 h2 h3; rw [h] at this; cases this
  by_cases h4 : allPlain P
  case neg => have := parts_8 h1 h2 h3 h4; rw [h] at this; cases this
  exact h4
theorem fair_of {g : GG} (hg : g.ok) {n e : Int} (hs : SmG g n e) (h : checkE g = 0) : Fair g := by
  obtain ⟨c1, c2, c3, c4⟩ := check_ok h
  obtain ⟨g1, g2, g3, g4, g5, g6, g7, g8⟩ := hg
  refine ⟨⟨g1, g2, g3, g4, g5, g6, g7, g8⟩, c1.1, c1.2, fun x hx => ?_, fun x hx => ?_⟩
  · obtain ⟨s1, s2, s3⟩ := hs.2.2.1 x hx
    refine ⟨s1, ⟨s3.1, fun p hp => ⟨(g3 x hx).2.2.2.2.2.2 p hp, (s3.2 p hp).2⟩⟩, ?_⟩
    obtain ⟨i, hi, rfl⟩ := List.mem_iff_getElem.1 hx
    exact parts_leafy (node_ok hi (c3 i hi)).2.2.2
  · obtain ⟨s1, s3⟩ := hs.2.2.2 x hx
    refine ⟨⟨s3.1, fun p hp => ⟨(g6 x hx).2.2.2.2.2.2 p hp, (s3.2 p hp).2⟩⟩, ?_⟩
    obtain ⟨i, hi, rfl⟩ := List.mem_iff_getElem.1 hx
    exact parts_leafy (edge_ok hi (c4 i hi)).2.2.2.2.2.2

end AI
end Go.Proofs.YtdlkcancogpafaaGreatDoor
