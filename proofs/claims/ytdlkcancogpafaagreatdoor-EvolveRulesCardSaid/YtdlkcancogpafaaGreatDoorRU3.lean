/- The rules that a migration leaves: the program's Rules. The rules that a migration leaves: the reference's Rules. The rules that a migration leaves: the reference's Rules, proved. -/
import Derived.Test.YtdlkcancogpafaaGreatDoorRU2
import Derived.Test.YtdlkcancogpafaaGreatDoorPR2
import Derived.Test.YtdlkcancogpafaaGreatDoorEvC
import Derived.Test.YtdlkcancogpafaaGreatDoorEX2
set_option linter.unusedVariables false
set_option maxRecDepth 4000
namespace Go.Proofs.YtdlkcancogpafaaGreatDoor
namespace AI
open Go.Sort

/-- the turned rules -/
def tl (l : List GR) (m : GM) : List GR := (l.filter fun r => decide (¬ goneR r m)).map (turnR · m)
theorem tl_snoc {l : List GR} {m : GM} {i : Nat} (h : i < l.length) : tl (l.take (i + 1)) m = tl (l.take i) m ++ if goneR l[i] m then [] else [turnR l[i] m] := by
  unfold tl
  rw [List.take_succ_eq_append_getElem h, List.filter_append, List.map_append]
  by_cases e : goneR l[i] m <;> simp [e]
theorem mem_tl {l : List GR} {m : GM} {y : GR} : y ∈ tl l m ↔ ∃ r ∈ l, ¬ goneR r m ∧ y = turnR r m := by
  unfold tl
  simp only [List.mem_map, List.mem_filter, decide_eq_true_eq]
  constructor
  · rintro ⟨r, ⟨h1, h2⟩, rfl⟩; exact ⟨r, h1, h2, rfl⟩
  · rintro ⟨r, h1, h2, rfl⟩; exact ⟨r, ⟨h1, h2⟩, rfl⟩

/-- what a sort and a compaction of rules make -/
theorem cpnR {W : List GR} (hs : W.Pairwise (fun x y => ltR y x = false)) : (cpn W.toArray W.length).Pairwise (fun x y => ltR x y = true) ∧ ∀ x, x ∈ cpn W.toArray W.length ↔ x ∈ W := by
  constructor
  · refine cpn_lt ltR_swo ltR_tot ?_ W.length (by simp)
    intro i j h0 hij hj
    simp only [List.size_toArray] at hj
    rw [getElem!_pos _ j (by simpa using hj), getElem!_pos _ i (by simp; omega)]
    simp only [List.getElem_toArray]
    exact List.pairwise_iff_getElem.1 hs i j (by omega) hj hij
  · intro x
    rw [mem_cpn W.length (by simp)]
    simp

noncomputable def errR (l : List GR) (m : GM) : Int := by
  classical exact if migE m ≠ 0 then migE m else if ¬ validR l then 19 else if m.k = 6 then addE l m.r else if m.k = 7 then dropE l m.r else 0
def memR (l : List GR) (m : GM) (y : GR) : Prop := if m.k = 6 then y ∈ l ∨ y = m.r else if m.k = 7 then y ∈ l ∧ y ≠ m.r else y ∈ tl l m

theorem outR_out {e : Int} {M : GR → Prop} {v : AV} (h : outR e M v) : ∃ b W, v = .tup [.sl b (vs GR.av W), .int .i64 e] := by
  by_cases h0 : e = 0
  · obtain ⟨b, W, rfl, _⟩ := h.2 h0
    exact ⟨b, W, by rw [h0]⟩
  · exact ⟨false, [], h.1 h0⟩

theorem rulesL {l : List GR} {nn : Bool} {m : GM} (hl : l.length ≤ 40) {c : Nat} {ln : Nat} (hln : ln = l.length) {Q : AExit → Env → Sto → Prop}
    (hQ : ∀ c' g b n tl0, n = (tl l m).length → n ≤ 40 → Q (.exit 1) ([(3, .ref 0 0 0 0), (7, .own 1 g 0 n)] ++ tl0) ⟨[.arr 0 15 true true [m.av], .arr g 6 b true (vs GR.av (tl l m))], c'⟩) :
    Run (findFn tab) (.loop l7_0_h l7_0_b) [(3, .ref 0 0 0 0), (7, .own 1 1 0 0), (38, .sl nn (vs GR.av l)), (39, .int .i64 ln), (40, .int .i64 0)] ⟨[.arr 0 15 true true [m.av], .arr 1 6 false true []], c⟩ Q := by
  subst hln
  refine loop_inv (fun z env s => ∃ (i n g c : Nat) (b : Bool) (L : List GR), z = l.length - i ∧ i ≤ l.length ∧ L = tl (l.take i) m ∧ n = L.length ∧ L.length ≤ i ∧ env = [(3, .ref 0 0 0 0), (7, .own 1 g 0 n), (38, .sl nn (vs GR.av l)), (39, .int .i64 l.length), (40, .int .i64 i)] ∧ s = ⟨[.arr 0 15 true true [m.av], .arr g 6 b true (vs GR.av L)], c⟩) ?_ _ _ _ ⟨0, 0, _, _, _, [], rfl, by omega, by simp [tl], rfl, by simp, rfl, rfl⟩
  rintro _ _ _ ⟨i, n, g, c, b, L, rfl, hi, hL, hn, hLl, rfl, rfl⟩
  refine ⟨rfl, ?_⟩
  by_cases hlt : i < l.length
  · have hs := tl_snoc (m := m) hlt
    rw [← hL] at hs
    have ht := turnP (r := l[i]) (m := m)
    by_cases hg : goneR l[i] m
    · rw [decide_eq_false (not_not_intro hg)] at ht
      rw [if_pos hg, List.append_nil] at hs
      (conv => whnf); repeat' (first | (refine callK_of ht ?_; rintro _ rfl; conv => whnf) | ((with_reducible first | apply kN | apply kW | apply kX | apply kG | apply kQ); (· exact sd); conv => whnf) | (refine pcase.mk ?_ ?_ <;> intro hc <;> (try rw [List.length_nil] at hc) <;> first | (exfalso; omega) | (exact absurd rfl hc) | conv => whnf) | (refine bcase_intro ?_ ?_ <;> intro hc <;> conv => whnf))
      all_goals first
        | exact again.mk ⟨_, by omega, i + 1, _, _, _, _, _, rfl, by omega, hs.symm, hn, by omega, rfl, rfl⟩
        | (trace_state; fail "rulesL1")
    · rw [decide_eq_true hg] at ht
      rw [if_neg hg] at hs
      (conv => whnf); repeat' (first | (refine callK_of ht ?_; rintro _ rfl; conv => whnf) | (refine apV1 (x := turnR l[i] m) cellsR hn (by omega) ?_; conv => whnf) | ((with_reducible first | apply kN | apply kW | apply kX | apply kG | apply kQ); (· exact sd); conv => whnf) | (refine pcase.mk ?_ ?_ <;> intro hc <;> (try rw [List.length_nil] at hc) <;> first | (exfalso; omega) | (exact absurd rfl hc) | conv => whnf) | (refine bcase_intro ?_ ?_ <;> intro hc <;> conv => whnf))
      all_goals first
        | exact again.mk ⟨_, by omega, i + 1, _, _, _, _, _, rfl, by omega, hs.symm, by simp, by simp; omega, rfl, rfl⟩
        | (trace_state; fail "rulesL2")
  · rw [List.take_of_length_le (by omega)] at hL
    subst hL
    (conv => whnf); repeat' (first  | ((with_reducible first | apply kN | apply kW | apply kX | apply kG | apply kQ); (· exact sd); conv => whnf) | (refine pcase.mk ?_ ?_ <;> intro hc <;> (try rw [List.length_nil] at hc) <;> first | (exfalso; omega) | (exact absurd rfl hc) | conv => whnf) | (refine bcase_intro ?_ ?_ <;> intro hc <;> conv => whnf))
    all_goals first
      | exact hQ _ _ _ _ _ hn (by omega)
      | (trace_state; fail "rulesL3")

set_option maxHeartbeats 2000000 in
theorem rulesP {l : List GR} {nn : Bool} {m : GM} (hnn : nn = false → l = []) (hl : l.length < 2^61) (hok : ∀ r ∈ l, r.ok) (hm : m.ok) : PureP (findFn tab) 7 [.sl nn (vs GR.av l), m.av] (outR (errR l m) (memR l m)) := by
  have hM := migP hm
  have hv := vldP (nn := nn) (l := l) (by omega) hok
  by_cases h1 : migE m = 0
  case neg =>
    refine pureP_of rfl rfl ?_
    (conv => whnf); repeat' (first | (refine callK_of hM ?_; rintro _ rfl; conv => whnf) | ((with_reducible first | apply kN | apply kW | apply kX | apply kG | apply kQ); (· exact sd); conv => whnf) | (refine pcase.mk ?_ ?_ <;> intro hc <;> (try rw [List.length_nil] at hc) <;> first | (exfalso; omega) | (exact absurd rfl hc) | conv => whnf) | (refine bcase_intro ?_ ?_ <;> intro hc <;> conv => whnf))
    all_goals first | exact outR_e (by unfold errR; simp [h1]) (by omega) | (exfalso; omega) | (trace_state; fail "rulesP1")
  rw [h1] at hM
  by_cases h2 : validR l
  case neg =>
    rw [decide_eq_false h2] at hv
    refine pureP_of rfl rfl ?_
    (conv => whnf); repeat' (first | (refine callK_of hM ?_; rintro _ rfl; conv => whnf) | (refine callK_of hv ?_; rintro _ rfl; conv => whnf) | ((with_reducible first | apply kN | apply kW | apply kX | apply kG | apply kQ); (· exact sd); conv => whnf) | (refine pcase.mk ?_ ?_ <;> intro hc <;> (try rw [List.length_nil] at hc) <;> first | (exfalso; omega) | (exact absurd rfl hc) | conv => whnf) | (refine bcase_intro ?_ ?_ <;> intro hc <;> conv => whnf))
    all_goals first | exact outR_e (by unfold errR; simp [h1, h2]) (by omega) | (exfalso; omega) | (trace_state; fail "rulesP2")
  rw [decide_eq_true h2] at hv
  by_cases k6 : m.k = 6
  · obtain ⟨v, ho, hca⟩ := (addP (nn := nn) (x := m.r) hnn hl hok hm.2.2.2.2.2).det
    obtain ⟨b, W, rfl⟩ := outR_out ho
    have e1 : errR l m = addE l m.r := by unfold errR; simp [h1, h2, k6]
    have e2 : memR l m = fun y => y ∈ l ∨ y = m.r := by funext y; unfold memR; simp [k6]
    rw [e1, e2]
    refine pureP_of rfl rfl ?_
    (conv => whnf); repeat' (first | (refine callK_of hM ?_; rintro _ rfl; conv => whnf) | (refine callK_of hv ?_; rintro _ rfl; conv => whnf) | (refine callK_of hca ?_; rintro _ rfl; conv => whnf) | ((with_reducible first | apply kN | apply kW | apply kX | apply kG | apply kQ); (· exact sd); conv => whnf) | (refine pcase.mk ?_ ?_ <;> intro hc <;> (try rw [List.length_nil] at hc) <;> first | (exfalso; omega) | (exact absurd rfl hc) | conv => whnf) | (refine bcase_intro ?_ ?_ <;> intro hc <;> conv => whnf))
    all_goals first | exact ho | (exfalso; omega) | (trace_state; fail "rulesP3")
  by_cases k7 : m.k = 7
  · obtain ⟨v, ho, hca⟩ := (dropP (nn := nn) (x := m.r) hnn hl hok hm.2.2.2.2.2).det
    obtain ⟨b, W, rfl⟩ := outR_out ho
    have e1 : errR l m = dropE l m.r := by unfold errR; simp [h1, h2, k7]
    have e2 : memR l m = fun y => y ∈ l ∧ y ≠ m.r := by funext y; unfold memR; simp [k7]
    rw [e1, e2]
    refine pureP_of rfl rfl ?_
    (conv => whnf); repeat' (first | (refine callK_of hM ?_; rintro _ rfl; conv => whnf) | (refine callK_of hv ?_; rintro _ rfl; conv => whnf) | (refine callK_of hca ?_; rintro _ rfl; conv => whnf) | ((with_reducible first | apply kN | apply kW | apply kX | apply kG | apply kQ); (· exact sd); conv => whnf) | (refine pcase.mk ?_ ?_ <;> intro hc <;> (try rw [List.length_nil] at hc) <;> first | (exfalso; omega) | (exact absurd rfl hc) | conv => whnf) | (refine bcase_intro ?_ ?_ <;> intro hc <;> conv => whnf))
    all_goals first | exact ho | (exfalso; omega) | (trace_state; fail "rulesP4")
  have e1 : errR l m = 0 := by unfold errR; simp [h1, h2, k6, k7]
  have e2 : memR l m = fun y => y ∈ tl l m := by funext y; unfold memR; simp [k6, k7]
  rw [e2]
  have h40 := h2.1
  refine pureP_of rfl rfl ?_
  (conv => whnf); repeat' (first | (refine callK_of hM ?_; rintro _ rfl; conv => whnf) | (refine callK_of hv ?_; rintro _ rfl; conv => whnf) | ((with_reducible first | apply kN | apply kW | apply kX | apply kG | apply kQ); (· exact sd); conv => whnf) | (refine pcase.mk ?_ ?_ <;> intro hc <;> (try rw [List.length_nil] at hc) <;> first | (exfalso; omega) | (exact absurd rfl hc) | conv => whnf) | (refine bcase_intro ?_ ?_ <;> intro hc <;> conv => whnf))
  all_goals first | (exfalso; omega) | skip
  refine rulesL h40 rfl ?_
  intro c' g b n tl0 hn hn40
  (conv => whnf); repeat' (first  | ((with_reducible first | apply kN | apply kW | apply kX | apply kG | apply kQ); (· exact sd); conv => whnf) | (refine pcase.mk ?_ ?_ <;> intro hc <;> (try rw [List.length_nil] at hc) <;> first | (exfalso; omega) | (exact absurd rfl hc) | conv => whnf) | (refine bcase_intro ?_ ?_ <;> intro hc <;> conv => whnf))
  refine (prsort hn.symm (by omega)).mono ?_
  rintro _ _ ⟨c2, W, rfl, rfl, hp, hs⟩
  (conv => whnf); repeat' (first  | ((with_reducible first | apply kN | apply kW | apply kX | apply kG | apply kQ); (· exact sd); conv => whnf) | (refine pcase.mk ?_ ?_ <;> intro hc <;> (try rw [List.length_nil] at hc) <;> first | (exfalso; omega) | (exact absurd rfl hc) | conv => whnf) | (refine bcase_intro ?_ ?_ <;> intro hc <;> conv => whnf))
  have hWl : W.length = n := by rw [hp.length_eq, hn]
  refine (prcpt (d := W.toArray) (by simpa using hWl) (by omega)).mono ?_
  rintro _ _ ⟨c3, T, rfl, rfl⟩
  (conv => whnf); repeat' (first  | ((with_reducible first | apply kN | apply kW | apply kX | apply kG | apply kQ); (· exact sd); conv => whnf) | (refine pcase.mk ?_ ?_ <;> intro hc <;> (try rw [List.length_nil] at hc) <;> first | (exfalso; omega) | (exact absurd rfl hc) | conv => whnf) | (refine bcase_intro ?_ ?_ <;> intro hc <;> conv => whnf))
  rw [sub_vs, List.drop_zero, List.take_append_of_le_length (Nat.le_refl _), List.take_length]
  rw [← hWl]
  obtain ⟨s1, s2⟩ := cpnR hs
  exact outR_0 e1 ⟨b, _, rfl, s1, by have := cpn_len W.toArray W.length; omega, fun y => (s2 y).trans hp.mem_iff⟩

end AI
end Go.Proofs.YtdlkcancogpafaaGreatDoor
set_option linter.unusedVariables false
namespace Go.Proofs.YtdlkcancogpafaaGreatDoor
namespace AI
open Go.Sort

theorem withQ {l : List GR} {nn : Bool} {x : GR} (hl : l.length ≤ 41) (hs : l.Pairwise fun x y => ltR x y = true) : PureP (findFn tab) 30 [.sl nn (vs GR.av l), x.av] (fun v => ∃ b W, v = .sl b (vs GR.av W) ∧ W.Pairwise (fun x y => ltR x y = true) ∧ W.length ≤ l.length + 1 ∧ ∀ y, y ∈ W ↔ y ∈ l ∨ y = x) := by
  obtain ⟨_, ⟨z, _, _, hp, _⟩, _⟩ := (bsR (nn := nn) (x := x) (by omega) hs).det
  have hle := hp.le
  by_cases h3 : x ∈ l
  · obtain ⟨hz, hz2⟩ := (hp.mem hs).1 h3
    have fin : ∀ b, ∃ b' W, AV.sl b (vs GR.av l) = .sl b' (vs GR.av W) ∧ W.Pairwise (fun x y => ltR x y = true) ∧ W.length ≤ l.length + 1 ∧ ∀ y, y ∈ W ↔ y ∈ l ∨ y = x := fun b => ⟨b, l, rfl, hs, by omega, fun y => ⟨.inl, fun h => h.elim id (fun e => e ▸ h3)⟩⟩
    refine pureP_of rfl rfl ?_
    (conv => whnf); repeat' (first  | ((with_reducible first | apply kN | apply kW | apply kX | apply kG | apply kQ); (· exact sd); conv => whnf) | (refine pcase.mk ?_ ?_ <;> intro hc <;> (try rw [List.length_nil] at hc) <;> first | (exfalso; omega) | (exact absurd rfl hc) | conv => whnf) | (refine bcase_intro ?_ ?_ <;> intro hc <;> conv => whnf))
    refine loop_inv (fun m env s => ∃ (i n g c : Nat) (b : Bool) (L : List GR), m = l.length - i ∧ i ≤ l.length ∧ L = l.take i ∧ n = L.length ∧ env = [(0, .sl nn (vs GR.av l)), (3, .ref 0 0 0 0), (5, .own 1 g 0 n), (6, .bool (decide (z < i))), (7, .int .i64 i)] ∧ s = ⟨[.arr 0 6 true true [x.av], .arr g 6 b true (vs GR.av L)], c⟩) ?_ _ _ _ ⟨0, 0, _, _, _, [], rfl, by omega, rfl, rfl, rfl, rfl⟩
    rintro _ _ _ ⟨i, n, g, c, b, L, rfl, hi, hL, hn, rfl, rfl⟩
    refine ⟨rfl, ?_⟩
    have hLl : L.length = i := by rw [hL, List.length_take]; omega
    by_cases hlt : i < l.length
    · have ho := orderRR (x := l[i]) (y := x)
      have e : L ++ [l[i]] = l.take (i + 1) := by rw [hL]; exact take_snoc hlt
      by_cases hzi : z < i
      · have h1 : 0 < cmpR l[i] x := by
          have a := List.pairwise_iff_getElem.1 hs z i hz hlt hzi
          rw [hz2] at a
          have := ltR_iff.1 a
          have := pc_rule.anti x l[i]
          omega
        rw [decide_eq_true hzi]
        (conv => whnf); repeat' (first | (refine callK_of ho ?_; rintro _ rfl; conv => whnf) | (refine apV1 (x := l[i]) cellsR hn (by omega) ?_; conv => whnf) | ((with_reducible first | apply kN | apply kW | apply kX | apply kG | apply kQ); (· exact sd); conv => whnf) | (refine pcase.mk ?_ ?_ <;> intro hc <;> (try rw [List.length_nil] at hc) <;> first | (exfalso; omega) | (exact absurd rfl hc) | conv => whnf) | (refine bcase_intro ?_ ?_ <;> intro hc <;> conv => whnf))
        all_goals first
          | exact again.mk ⟨_, by omega, i + 1, L.length + 1, _, _, _, L ++ [l[i]], rfl, by omega, e, by simp, by rw [decide_eq_true (show z < i + 1 by omega)]; rfl, rfl⟩
          | (exfalso; omega)
          | (trace_state; fail "withQ1")
      · rw [decide_eq_false hzi]
        by_cases hze : i = z
        · have h0 : cmpR l[i] x = 0 := cmpR_zero.2 (by rw [← hz2]; congr 1)
          (conv => whnf); repeat' (first | (refine callK_of ho ?_; rintro _ rfl; conv => whnf) | (refine apV1 (x := l[i]) cellsR hn (by omega) ?_; conv => whnf) | ((with_reducible first | apply kN | apply kW | apply kX | apply kG | apply kQ); (· exact sd); conv => whnf) | (refine pcase.mk ?_ ?_ <;> intro hc <;> (try rw [List.length_nil] at hc) <;> first | (exfalso; omega) | (exact absurd rfl hc) | conv => whnf) | (refine bcase_intro ?_ ?_ <;> intro hc <;> conv => whnf))
          all_goals first
            | exact again.mk ⟨_, by omega, i + 1, L.length + 1, _, _, _, L ++ [l[i]], rfl, by omega, e, by simp, by rw [decide_eq_true (show z < i + 1 by omega)]; rfl, rfl⟩
            | (exfalso; omega)
            | (trace_state; fail "withQ2")
        · have h1 := ltR_iff.1 (hp.lo i hlt (by omega))
          (conv => whnf); repeat' (first | (refine callK_of ho ?_; rintro _ rfl; conv => whnf) | (refine apV1 (x := l[i]) cellsR hn (by omega) ?_; conv => whnf) | ((with_reducible first | apply kN | apply kW | apply kX | apply kG | apply kQ); (· exact sd); conv => whnf) | (refine pcase.mk ?_ ?_ <;> intro hc <;> (try rw [List.length_nil] at hc) <;> first | (exfalso; omega) | (exact absurd rfl hc) | conv => whnf) | (refine bcase_intro ?_ ?_ <;> intro hc <;> conv => whnf))
          all_goals first
            | exact again.mk ⟨_, by omega, i + 1, L.length + 1, _, _, _, L ++ [l[i]], rfl, by omega, e, by simp, by rw [decide_eq_false (show ¬ z < i + 1 by omega)]; rfl, rfl⟩
            | (exfalso; omega)
            | (trace_state; fail "withQ3")
    · rw [List.take_of_length_le (by omega)] at hL
      subst hL
      rw [decide_eq_true (show z < i by omega)]
      (conv => whnf); repeat' (first  | ((with_reducible first | apply kN | apply kW | apply kX | apply kG | apply kQ); (· exact sd); conv => whnf) | (refine pcase.mk ?_ ?_ <;> intro hc <;> (try rw [List.length_nil] at hc) <;> first | (exfalso; omega) | (exact absurd rfl hc) | conv => whnf) | (refine bcase_intro ?_ ?_ <;> intro hc <;> conv => whnf))
      rw [hn, sub_vs, List.drop_zero, List.take_length]
      exact fin b
  · obtain ⟨s1, s2⟩ := insAt_set hs hp h3
    have hne : ∀ k (h : k < l.length), cmpR l[k] x ≠ 0 := fun k h e => h3 (by rw [← cmpR_zero.1 e]; exact List.getElem_mem h)
    have fin : ∀ b, ∃ b' W, AV.sl b (vs GR.av (l.take z ++ x :: l.drop z)) = .sl b' (vs GR.av W) ∧ W.Pairwise (fun x y => ltR x y = true) ∧ W.length ≤ l.length + 1 ∧ ∀ y, y ∈ W ↔ y ∈ l ∨ y = x := fun b => ⟨b, _, rfl, s1, by simp; omega, s2⟩
    refine pureP_of rfl rfl ?_
    (conv => whnf); repeat' (first  | ((with_reducible first | apply kN | apply kW | apply kX | apply kG | apply kQ); (· exact sd); conv => whnf) | (refine pcase.mk ?_ ?_ <;> intro hc <;> (try rw [List.length_nil] at hc) <;> first | (exfalso; omega) | (exact absurd rfl hc) | conv => whnf) | (refine bcase_intro ?_ ?_ <;> intro hc <;> conv => whnf))
    refine loop_inv (fun m env s => ∃ (i n g c : Nat) (b : Bool) (L : List GR), m = l.length - i ∧ i ≤ l.length ∧ L = (if z < i then l.take z ++ x :: (l.drop z).take (i - z) else l.take i) ∧ n = L.length ∧ L.length ≤ i + 1 ∧ env = [(0, .sl nn (vs GR.av l)), (3, .ref 0 0 0 0), (5, .own 1 g 0 n), (6, .bool (decide (z < i))), (7, .int .i64 i)] ∧ s = ⟨[.arr 0 6 true true [x.av], .arr g 6 b true (vs GR.av L)], c⟩) ?_ _ _ _ ⟨0, 0, _, _, _, [], rfl, by omega, by simp, rfl, by simp, rfl, rfl⟩
    rintro _ _ _ ⟨i, n, g, c, b, L, rfl, hi, hL, hn, hLl, rfl, rfl⟩
    refine ⟨rfl, ?_⟩
    by_cases hlt : i < l.length
    · have ho := orderRR (x := l[i]) (y := x)
      have h0 := hne i hlt
      by_cases hzi : z < i
      · have h1 : 0 ≤ cmpR l[i] x := ltR_no.1 (hp.hi i hlt (by omega))
        rw [if_pos hzi] at hL
        have e : L ++ [l[i]] = if z < i + 1 then l.take z ++ x :: (l.drop z).take (i + 1 - z) else l.take (i + 1) := by
          have h2 : (l.drop z)[i - z]'(by simp; omega) = l[i] := by rw [List.getElem_drop]; congr 1; omega
          rw [if_pos (by omega), hL, show i + 1 - z = (i - z) + 1 by omega, List.take_succ_eq_append_getElem (by simp; omega), h2, List.append_assoc, List.cons_append]
        rw [decide_eq_true hzi]
        (conv => whnf); repeat' (first | (refine callK_of ho ?_; rintro _ rfl; conv => whnf) | (refine apV1 (x := l[i]) cellsR hn (by omega) ?_; conv => whnf) | ((with_reducible first | apply kN | apply kW | apply kX | apply kG | apply kQ); (· exact sd); conv => whnf) | (refine pcase.mk ?_ ?_ <;> intro hc <;> (try rw [List.length_nil] at hc) <;> first | (exfalso; omega) | (exact absurd rfl hc) | conv => whnf) | (refine bcase_intro ?_ ?_ <;> intro hc <;> conv => whnf))
        all_goals first
          | exact again.mk ⟨_, by omega, i + 1, L.length + 1, _, _, _, L ++ [l[i]], rfl, by omega, e, by simp, by simp; omega, by rw [decide_eq_true (show z < i + 1 by omega)]; rfl, rfl⟩
          | (exfalso; omega)
          | (trace_state; fail "withQ4")
      · rw [if_neg hzi] at hL
        rw [decide_eq_false hzi]
        by_cases hze : z = i
        · subst hze
          have h1 : 0 ≤ cmpR l[z] x := ltR_no.1 (hp.hi z hlt (by omega))
          have e : L ++ [x] ++ [l[z]] = if z < z + 1 then l.take z ++ x :: (l.drop z).take (z + 1 - z) else l.take (z + 1) := by
            have e1 : (l.drop z).take 1 = [l[z]] := by rw [List.drop_eq_getElem_cons hlt]; rfl
            rw [if_pos (by omega), hL, show z + 1 - z = 1 by omega, e1]; simp
          have hLz : (L ++ [x] ++ [l[z]]).length ≤ z + 1 + 1 := by
            have : L.length ≤ z := by rw [hL, List.length_take]; omega
            simp; omega
          (conv => whnf); repeat' (first | (refine callK_of ho ?_; rintro _ rfl; conv => whnf) | (refine apV1 (x := x) cellsR hn (by omega) ?_; conv => whnf) | (refine apV1 (l := L ++ [x]) (x := l[z]) cellsR (by simp) (by simp; omega) ?_; conv => whnf) | ((with_reducible first | apply kN | apply kW | apply kX | apply kG | apply kQ); (· exact sd); conv => whnf) | (refine pcase.mk ?_ ?_ <;> intro hc <;> (try rw [List.length_nil] at hc) <;> first | (exfalso; omega) | (exact absurd rfl hc) | conv => whnf) | (refine bcase_intro ?_ ?_ <;> intro hc <;> conv => whnf))
          all_goals first
            | exact again.mk ⟨_, by omega, z + 1, (L ++ [x]).length + 1, _, _, _, L ++ [x] ++ [l[z]], rfl, by omega, e, by simp, hLz, by rw [decide_eq_true (show z < z + 1 by omega)]; rfl, rfl⟩
            | (exfalso; omega)
            | (trace_state; fail "withQ5")
        · have h1 := ltR_iff.1 (hp.lo i hlt (by omega))
          have e : L ++ [l[i]] = if z < i + 1 then l.take z ++ x :: (l.drop z).take (i + 1 - z) else l.take (i + 1) := by
            rw [if_neg (by omega), hL]; exact take_snoc hlt
          (conv => whnf); repeat' (first | (refine callK_of ho ?_; rintro _ rfl; conv => whnf) | (refine apV1 (x := l[i]) cellsR hn (by omega) ?_; conv => whnf) | ((with_reducible first | apply kN | apply kW | apply kX | apply kG | apply kQ); (· exact sd); conv => whnf) | (refine pcase.mk ?_ ?_ <;> intro hc <;> (try rw [List.length_nil] at hc) <;> first | (exfalso; omega) | (exact absurd rfl hc) | conv => whnf) | (refine bcase_intro ?_ ?_ <;> intro hc <;> conv => whnf))
          all_goals first
            | exact again.mk ⟨_, by omega, i + 1, L.length + 1, _, _, _, L ++ [l[i]], rfl, by omega, e, by simp, by simp; omega, by rw [decide_eq_false (show ¬ z < i + 1 by omega)]; rfl, rfl⟩
            | (exfalso; omega)
            | (trace_state; fail "withQ6")
    · by_cases hzi : z < i
      · rw [if_pos hzi, List.take_of_length_le (l := l.drop z) (by simp; omega)] at hL
        subst hL
        rw [decide_eq_true hzi]
        (conv => whnf); repeat' (first  | ((with_reducible first | apply kN | apply kW | apply kX | apply kG | apply kQ); (· exact sd); conv => whnf) | (refine pcase.mk ?_ ?_ <;> intro hc <;> (try rw [List.length_nil] at hc) <;> first | (exfalso; omega) | (exact absurd rfl hc) | conv => whnf) | (refine bcase_intro ?_ ?_ <;> intro hc <;> conv => whnf))
        rw [hn, sub_vs, List.drop_zero, List.take_length]
        exact fin b
      · rw [if_neg hzi] at hL
        have e : L ++ [x] = l.take z ++ x :: l.drop z := by
          obtain rfl : z = i := by omega
          rw [hL, List.drop_eq_nil_of_le (by omega)]
        rw [decide_eq_false hzi]
        (conv => whnf); repeat' (first | (refine apV1 (x := x) cellsR hn (by omega) ?_; conv => whnf) | ((with_reducible first | apply kN | apply kW | apply kX | apply kG | apply kQ); (· exact sd); conv => whnf) | (refine pcase.mk ?_ ?_ <;> intro hc <;> (try rw [List.length_nil] at hc) <;> first | (exfalso; omega) | (exact absurd rfl hc) | conv => whnf) | (refine bcase_intro ?_ ?_ <;> intro hc <;> conv => whnf))
        rw [e]
        exact fin true

end AI
end Go.Proofs.YtdlkcancogpafaaGreatDoor
set_option linter.unusedVariables false
namespace Go.Proofs.YtdlkcancogpafaaGreatDoor
namespace AI
open Go.Sort

theorem mem_tl_n {l : List GR} {m : GM} {i : Nat} (h : i < l.length) (hg : goneR l[i] m) {y : GR} : y ∈ tl (l.take (i + 1)) m ↔ y ∈ tl (l.take i) m := by
  rw [tl_snoc h, if_pos hg, List.append_nil]
theorem mem_tl_y {l : List GR} {m : GM} {i : Nat} (h : i < l.length) (hg : ¬ goneR l[i] m) {y : GR} : y ∈ tl (l.take (i + 1)) m ↔ y ∈ tl (l.take i) m ∨ y = turnR l[i] m := by
  rw [tl_snoc h, if_neg hg]; simp

theorem rulesM {l : List GR} {nn : Bool} {m : GM} (hl : l.length ≤ 40) {c : Nat} {Q : AExit → Env → Sto → Prop}
    (hQ : ∀ c' b W tl0, W.Pairwise (fun x y => ltR x y = true) → W.length ≤ 40 → (∀ y, y ∈ W ↔ y ∈ tl l m) → Q (.exit 0) ([(0, .sl nn (vs GR.av l)), (3, .ref 0 0 0 0), (7, .sl b (vs GR.av W))] ++ tl0) ⟨[.arr 0 15 true true [m.av]], c'⟩) :
    Run (findFn tab) (.loop l8_0_h l8_0_b) [(0, .sl nn (vs GR.av l)), (3, .ref 0 0 0 0), (7, .sl false []), (8, .int .i64 0)] ⟨[.arr 0 15 true true [m.av]], c⟩ Q := by
  refine loop_inv (fun z env s => ∃ (i c : Nat) (b : Bool) (W : List GR), z = l.length - i ∧ i ≤ l.length ∧ W.Pairwise (fun x y => ltR x y = true) ∧ W.length ≤ i ∧ (∀ y, y ∈ W ↔ y ∈ tl (l.take i) m) ∧ env = [(0, .sl nn (vs GR.av l)), (3, .ref 0 0 0 0), (7, .sl b (vs GR.av W)), (8, .int .i64 i)] ∧ s = ⟨[.arr 0 15 true true [m.av]], c⟩) ?_ _ _ _ ⟨0, _, _, [], rfl, by omega, by simp, by simp, by simp [tl], rfl, rfl⟩
  rintro _ _ _ ⟨i, c, b, W, rfl, hi, hW, hWl, hM, rfl, rfl⟩
  refine ⟨rfl, ?_⟩
  by_cases hlt : i < l.length
  · have hn := nodeQ (k := (l[i]).k)
    have ht := turnQ (r := l[i]) (m := m)
    obtain ⟨_, ⟨b2, W2, rfl, w1, w2, w3⟩, hw⟩ := (withQ (l := W) (nn := b) (x := turnR l[i] m) (by omega) hW).det
    have hgo : ¬ goneR l[i] m → again (fun z env s => ∃ (i c : Nat) (b : Bool) (W : List GR), z = l.length - i ∧ i ≤ l.length ∧ W.Pairwise (fun x y => ltR x y = true) ∧ W.length ≤ i ∧ (∀ y, y ∈ W ↔ y ∈ tl (l.take i) m) ∧ env = [(0, .sl nn (vs GR.av l)), (3, .ref 0 0 0 0), (7, .sl b (vs GR.av W)), (8, .int .i64 i)] ∧ s = ⟨[.arr 0 15 true true [m.av]], c⟩) (l.length - i) [(0, .sl nn (vs GR.av l)), (3, .ref 0 0 0 0), (7, .sl b2 (vs GR.av W2)), (8, .int .i64 (i + 1 : Nat))] ⟨[.arr 0 15 true true [m.av]], c⟩ := fun hg =>
      again.mk ⟨_, by omega, i + 1, _, _, W2, rfl, by omega, w1, by omega, fun y => by rw [w3, hM, mem_tl_y hlt hg], rfl, rfl⟩
    by_cases k4 : m.k = 4
    · by_cases hk : nodeK (l[i]).k
      · rw [decide_eq_true hk] at hn
        by_cases h1 : (l[i]).name = m.label
        · by_cases h2 : (l[i]).key = m.fr
          · have hg : goneR l[i] m := ⟨k4, hk, h1, h2⟩
            (conv => whnf); repeat' (first | (refine callK_of hn ?_; rintro _ rfl; conv => whnf) | ((with_reducible first | apply kN | apply kW | apply kX | apply kG | apply kQ); (· exact sd); conv => whnf) | (refine pcase.mk ?_ ?_ <;> intro hc <;> (try rw [List.length_nil] at hc) <;> first | (exfalso; omega) | (exact absurd rfl hc) | conv => whnf) | (refine bcase_intro ?_ ?_ <;> intro hc <;> conv => whnf))
            all_goals first
              | exact again.mk ⟨_, by omega, i + 1, _, _, W, rfl, by omega, hW, by omega, fun y => by rw [hM, mem_tl_n hlt hg], rfl, rfl⟩
              | (exfalso; contradiction)
              | (trace_state; fail "rulesM1")
          · (conv => whnf); repeat' (first | (refine callK_of hn ?_; rintro _ rfl; conv => whnf) | (refine callK_of ht ?_; rintro _ rfl; conv => whnf) | (refine callK_of hw ?_; rintro _ rfl; conv => whnf) | ((with_reducible first | apply kN | apply kW | apply kX | apply kG | apply kQ); (· exact sd); conv => whnf) | (refine pcase.mk ?_ ?_ <;> intro hc <;> (try rw [List.length_nil] at hc) <;> first | (exfalso; omega) | (exact absurd rfl hc) | conv => whnf) | (refine bcase_intro ?_ ?_ <;> intro hc <;> conv => whnf))
            all_goals first
              | exact hgo fun h => h2 h.2.2.2
              | (exfalso; contradiction)
              | (trace_state; fail "rulesM2")
        · (conv => whnf); repeat' (first | (refine callK_of hn ?_; rintro _ rfl; conv => whnf) | (refine callK_of ht ?_; rintro _ rfl; conv => whnf) | (refine callK_of hw ?_; rintro _ rfl; conv => whnf) | ((with_reducible first | apply kN | apply kW | apply kX | apply kG | apply kQ); (· exact sd); conv => whnf) | (refine pcase.mk ?_ ?_ <;> intro hc <;> (try rw [List.length_nil] at hc) <;> first | (exfalso; omega) | (exact absurd rfl hc) | conv => whnf) | (refine bcase_intro ?_ ?_ <;> intro hc <;> conv => whnf))
          all_goals first
            | exact hgo fun h => h1 h.2.2.1
            | (exfalso; contradiction)
            | (trace_state; fail "rulesM3")
      · rw [decide_eq_false hk] at hn
        (conv => whnf); repeat' (first | (refine callK_of hn ?_; rintro _ rfl; conv => whnf) | (refine callK_of ht ?_; rintro _ rfl; conv => whnf) | (refine callK_of hw ?_; rintro _ rfl; conv => whnf) | ((with_reducible first | apply kN | apply kW | apply kX | apply kG | apply kQ); (· exact sd); conv => whnf) | (refine pcase.mk ?_ ?_ <;> intro hc <;> (try rw [List.length_nil] at hc) <;> first | (exfalso; omega) | (exact absurd rfl hc) | conv => whnf) | (refine bcase_intro ?_ ?_ <;> intro hc <;> conv => whnf))
        all_goals first
          | exact hgo fun h => hk h.2.1
          | (exfalso; contradiction)
          | (trace_state; fail "rulesM4")
    · (conv => whnf); repeat' (first | (refine callK_of hn ?_; rintro _ rfl; conv => whnf) | (refine callK_of ht ?_; rintro _ rfl; conv => whnf) | (refine callK_of hw ?_; rintro _ rfl; conv => whnf) | ((with_reducible first | apply kN | apply kW | apply kX | apply kG | apply kQ); (· exact sd); conv => whnf) | (refine pcase.mk ?_ ?_ <;> intro hc <;> (try rw [List.length_nil] at hc) <;> first | (exfalso; omega) | (exact absurd rfl hc) | conv => whnf) | (refine bcase_intro ?_ ?_ <;> intro hc <;> conv => whnf))
      all_goals first
        | exact hgo fun h => k4 h.1
        | (exfalso; contradiction)
        | (trace_state; fail "rulesM5")
  · rw [List.take_of_length_le (by omega)] at hM
    (conv => whnf); repeat' (first  | ((with_reducible first | apply kN | apply kW | apply kX | apply kG | apply kQ); (· exact sd); conv => whnf) | (refine pcase.mk ?_ ?_ <;> intro hc <;> (try rw [List.length_nil] at hc) <;> first | (exfalso; omega) | (exact absurd rfl hc) | conv => whnf) | (refine bcase_intro ?_ ?_ <;> intro hc <;> conv => whnf))
    all_goals first
      | exact hQ _ _ _ _ hW (by omega) hM
      | (trace_state; fail "rulesM6")

set_option maxHeartbeats 2000000 in
theorem rulesQ {l : List GR} {nn : Bool} {m : GM} (hl : l.length < 2^61) (hok : ∀ r ∈ l, r.ok) (hm : m.ok) : PureP (findFn tab) 8 [.sl nn (vs GR.av l), m.av] (outR (errR l m) (memR l m)) := by
  have hM := migR hm
  have hv := vldQ (nn := nn) (l := l) (by omega) hok
  by_cases h1 : migE m = 0
  case neg =>
    refine pureP_of rfl rfl ?_
    (conv => whnf); repeat' (first | (refine callK_of hM ?_; rintro _ rfl; conv => whnf) | ((with_reducible first | apply kN | apply kW | apply kX | apply kG | apply kQ); (· exact sd); conv => whnf) | (refine pcase.mk ?_ ?_ <;> intro hc <;> (try rw [List.length_nil] at hc) <;> first | (exfalso; omega) | (exact absurd rfl hc) | conv => whnf) | (refine bcase_intro ?_ ?_ <;> intro hc <;> conv => whnf))
    all_goals first | exact outR_e (by unfold errR; simp [h1]) (by omega) | (exfalso; omega) | (trace_state; fail "rulesQ1")
  rw [h1] at hM
  by_cases h2 : validR l
  case neg =>
    rw [decide_eq_false h2] at hv
    refine pureP_of rfl rfl ?_
    (conv => whnf); repeat' (first | (refine callK_of hM ?_; rintro _ rfl; conv => whnf) | (refine callK_of hv ?_; rintro _ rfl; conv => whnf) | ((with_reducible first | apply kN | apply kW | apply kX | apply kG | apply kQ); (· exact sd); conv => whnf) | (refine pcase.mk ?_ ?_ <;> intro hc <;> (try rw [List.length_nil] at hc) <;> first | (exfalso; omega) | (exact absurd rfl hc) | conv => whnf) | (refine bcase_intro ?_ ?_ <;> intro hc <;> conv => whnf))
    all_goals first | exact outR_e (by unfold errR; simp [h1, h2]) (by omega) | (exfalso; omega) | (trace_state; fail "rulesQ2")
  rw [decide_eq_true h2] at hv
  by_cases k6 : m.k = 6
  · obtain ⟨v, ho, hca⟩ := (addQ (nn := nn) (x := m.r) hl hok hm.2.2.2.2.2).det
    obtain ⟨b, W, rfl⟩ := outR_out ho
    have e1 : errR l m = addE l m.r := by unfold errR; simp [h1, h2, k6]
    have e2 : memR l m = fun y => y ∈ l ∨ y = m.r := by funext y; unfold memR; simp [k6]
    rw [e1, e2]
    refine pureP_of rfl rfl ?_
    (conv => whnf); repeat' (first | (refine callK_of hM ?_; rintro _ rfl; conv => whnf) | (refine callK_of hv ?_; rintro _ rfl; conv => whnf) | (refine callK_of hca ?_; rintro _ rfl; conv => whnf) | ((with_reducible first | apply kN | apply kW | apply kX | apply kG | apply kQ); (· exact sd); conv => whnf) | (refine pcase.mk ?_ ?_ <;> intro hc <;> (try rw [List.length_nil] at hc) <;> first | (exfalso; omega) | (exact absurd rfl hc) | conv => whnf) | (refine bcase_intro ?_ ?_ <;> intro hc <;> conv => whnf))
    all_goals first | exact ho | (exfalso; omega) | (trace_state; fail "rulesQ3")
  by_cases k7 : m.k = 7
  · obtain ⟨v, ho, hca⟩ := (dropQ (nn := nn) (x := m.r) hl hok hm.2.2.2.2.2).det
    obtain ⟨b, W, rfl⟩ := outR_out ho
    have e1 : errR l m = dropE l m.r := by unfold errR; simp [h1, h2, k7]
    have e2 : memR l m = fun y => y ∈ l ∧ y ≠ m.r := by funext y; unfold memR; simp [k7]
    rw [e1, e2]
    refine pureP_of rfl rfl ?_
    (conv => whnf); repeat' (first | (refine callK_of hM ?_; rintro _ rfl; conv => whnf) | (refine callK_of hv ?_; rintro _ rfl; conv => whnf) | (refine callK_of hca ?_; rintro _ rfl; conv => whnf) | ((with_reducible first | apply kN | apply kW | apply kX | apply kG | apply kQ); (· exact sd); conv => whnf) | (refine pcase.mk ?_ ?_ <;> intro hc <;> (try rw [List.length_nil] at hc) <;> first | (exfalso; omega) | (exact absurd rfl hc) | conv => whnf) | (refine bcase_intro ?_ ?_ <;> intro hc <;> conv => whnf))
    all_goals first | exact ho | (exfalso; omega) | (trace_state; fail "rulesQ4")
  have e1 : errR l m = 0 := by unfold errR; simp [h1, h2, k6, k7]
  have e2 : memR l m = fun y => y ∈ tl l m := by funext y; unfold memR; simp [k6, k7]
  rw [e2]
  refine pureP_of rfl rfl ?_
  (conv => whnf); repeat' (first | (refine callK_of hM ?_; rintro _ rfl; conv => whnf) | (refine callK_of hv ?_; rintro _ rfl; conv => whnf) | ((with_reducible first | apply kN | apply kW | apply kX | apply kG | apply kQ); (· exact sd); conv => whnf) | (refine pcase.mk ?_ ?_ <;> intro hc <;> (try rw [List.length_nil] at hc) <;> first | (exfalso; omega) | (exact absurd rfl hc) | conv => whnf) | (refine bcase_intro ?_ ?_ <;> intro hc <;> conv => whnf))
  all_goals first | (exfalso; omega) | skip
  refine rulesM h2.1 ?_
  intro c' b W tl0 hs hWl hMm
  (conv => whnf); repeat' (first  | ((with_reducible first | apply kN | apply kW | apply kX | apply kG | apply kQ); (· exact sd); conv => whnf) | (refine pcase.mk ?_ ?_ <;> intro hc <;> (try rw [List.length_nil] at hc) <;> first | (exfalso; omega) | (exact absurd rfl hc) | conv => whnf) | (refine bcase_intro ?_ ?_ <;> intro hc <;> conv => whnf))
  exact outR_0 e1 ⟨b, W, rfl, hs, by omega, hMm⟩

end AI
end Go.Proofs.YtdlkcancogpafaaGreatDoor
