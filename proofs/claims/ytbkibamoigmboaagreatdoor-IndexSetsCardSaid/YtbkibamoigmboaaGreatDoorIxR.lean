/- Rows put in one by one (the reference), and compared; rows sorted and compacted (the program). -/
import Derived.Test.YtbkibamoigmboaaGreatDoorMH
import Derived.Test.YtbkibamoigmboaaGreatDoorPW1
set_option linter.unusedVariables false
set_option maxRecDepth 4000
namespace Go.Proofs.YtbkibamoigmboaaGreatDoor
namespace AI
open Go.Sort

theorem cmpL_step {x y : List Int} {i : Nat} (hx : i < x.length) (hy : i < y.length) : cmpL (x.drop i) (y.drop i) = fst0 (cmpI x[i] y[i]) (cmpL (x.drop (i + 1)) (y.drop (i + 1))) := by
  rw [List.drop_eq_getElem_cons hx, List.drop_eq_getElem_cons hy, cmpL]
theorem ltW_of {x y : GW} (h : cmpL x.l y.l < 0) : ltW x y = true := ltW_iff.2 h
theorem ltW_nf {x y : GW} (h : ¬ cmpL x.l y.l < 0) : ltW x y = false := by
  cases hh : ltW x y with
  | false => rfl
  | true => exact absurd (ltW_iff.1 hh) h

theorem beforeB {x y : GW} (hk : x.l.length = y.l.length) : PureP (findFn tab) 82 [x.av, y.av] (· = .bool (ltW x y)) := by
  obtain ⟨b, hb⟩ : ∃ b, ltW x y = b := ⟨_, rfl⟩
  have h1 : cmpL x.l y.l < 0 → b = true := fun h => by rw [← hb]; exact ltW_of h
  have h2 : ¬ cmpL x.l y.l < 0 → b = false := fun h => by rw [← hb]; exact ltW_nf h
  rw [hb]
  clear hb
  obtain ⟨x, hx3⟩ := x
  obtain ⟨y, hy3⟩ := y
  simp only at hk h1 h2
  show PureP (findFn tab) 82 [.sl true (ints x), .sl true (ints y)] (· = .bool b)
  refine pureP_of rfl rfl ?_
  (conv => whnf); repeat' (first  | ((with_reducible first | apply kN | apply kW | apply kX | apply kG | apply kQ); (· exact sd); conv => whnf) | (refine pcase.mk ?_ ?_ <;> intro hc <;> (try rw [List.length_nil] at hc) <;> first | (exfalso; omega) | (exact absurd rfl hc) | conv => whnf) | (refine bcase_intro ?_ ?_ <;> intro hc <;> conv => whnf))
  refine loop_inv (fun m env s => ∃ i : Nat, m = x.length - i ∧ i ≤ x.length ∧ cmpL (x.drop i) (y.drop i) = cmpL x y ∧ env = [(0, .sl true (ints x)), (1, .sl true (ints y)), (5, .int .i64 i)] ∧ s = ⟨[], 0⟩) ?_ _ _ _ ⟨0, rfl, by omega, by simp, rfl, rfl⟩
  rintro _ _ _ ⟨i, rfl, hi, hc0, rfl, rfl⟩
  refine ⟨rfl, ?_⟩
  by_cases hlt : i < x.length
  · have hly : i < y.length := by omega
    rw [cmpL_step hlt hly] at hc0
    unfold fst0 at hc0
    by_cases he : x[i] = y[i]
    · rw [if_pos (cmpI_zero.2 he)] at hc0
      (conv => whnf); repeat' (first  | ((with_reducible first | apply kN | apply kW | apply kX | apply kG | apply kQ); (· exact sd); conv => whnf) | (refine pcase.mk ?_ ?_ <;> intro hc <;> (try rw [List.length_nil] at hc) <;> first | (exfalso; omega) | (exact absurd rfl hc) | conv => whnf) | (refine bcase_intro ?_ ?_ <;> intro hc <;> conv => whnf))
      all_goals first
        | exact again.mk ⟨_, by omega, i + 1, rfl, by omega, hc0, rfl, rfl⟩
        | (exfalso; omega)
        | (trace_state; fail "before1")
    · rw [if_neg (fun h => he (cmpI_zero.1 h))] at hc0
      by_cases hl : x[i] < y[i]
      · have := cmpI_neg.2 hl
        rw [h1 (by omega)]
        (conv => whnf); repeat' (first  | ((with_reducible first | apply kN | apply kW | apply kX | apply kG | apply kQ); (· exact sd); conv => whnf) | (refine pcase.mk ?_ ?_ <;> intro hc <;> (try rw [List.length_nil] at hc) <;> first | (exfalso; omega) | (exact absurd rfl hc) | conv => whnf) | (refine bcase_intro ?_ ?_ <;> intro hc <;> conv => whnf))
        all_goals first | rfl | (exfalso; omega) | (trace_state; fail "before2")
      · have : ¬ cmpI x[i] y[i] < 0 := fun h => hl (cmpI_neg.1 h)
        rw [h2 (by omega)]
        (conv => whnf); repeat' (first  | ((with_reducible first | apply kN | apply kW | apply kX | apply kG | apply kQ); (· exact sd); conv => whnf) | (refine pcase.mk ?_ ?_ <;> intro hc <;> (try rw [List.length_nil] at hc) <;> first | (exfalso; omega) | (exact absurd rfl hc) | conv => whnf) | (refine bcase_intro ?_ ?_ <;> intro hc <;> conv => whnf))
        all_goals first | rfl | (exfalso; omega) | (trace_state; fail "before3")
  · rw [List.drop_eq_nil_of_le (by omega), List.drop_eq_nil_of_le (by omega)] at hc0
    rw [h2 (by rw [← hc0]; decide)]
    (conv => whnf); repeat' (first  | ((with_reducible first | apply kN | apply kW | apply kX | apply kG | apply kQ); (· exact sd); conv => whnf) | (refine pcase.mk ?_ ?_ <;> intro hc <;> (try rw [List.length_nil] at hc) <;> first | (exfalso; omega) | (exact absurd rfl hc) | conv => whnf) | (refine bcase_intro ?_ ?_ <;> intro hc <;> conv => whnf))
    all_goals first | rfl | (exfalso; omega) | (trace_state; fail "before4")

theorem putR {W : List GW} {b : Bool} {x : GW} (hl : W.length ≤ 100000) (hs : W.Pairwise (fun x y => ltW x y = true)) (hka : ∀ y ∈ W, y.l.length = x.l.length) : PureP (findFn tab) 44 [.sl b (vs GW.av W), x.av] (fun v => ∃ b' W', v = .sl b' (vs GW.av W') ∧ W'.Pairwise (fun x y => ltW x y = true) ∧ W'.length ≤ W.length + 1 ∧ ∀ y, y ∈ W' ↔ y ∈ W ∨ y = x) := by
  refine pureP_of rfl rfl ?_
  (conv => whnf); repeat' (first  | ((with_reducible first | apply kN | apply kW | apply kX | apply kG | apply kQ); (· exact sd); conv => whnf) | (refine pcase.mk ?_ ?_ <;> intro hc <;> (try rw [List.length_nil] at hc) <;> first | (exfalso; omega) | (exact absurd rfl hc) | conv => whnf) | (refine bcase_intro ?_ ?_ <;> intro hc <;> conv => whnf))
  refine loop_inv (fun m env s => ∃ (i c ga n : Nat) (fa : Bool) (A : List GW), m = W.length - i ∧ i ≤ W.length ∧ A = W.take i ∧ n = A.length ∧ (∀ y ∈ W.take i, ltW y x = true) ∧ env = [(0, .sl b (vs GW.av W)), (1, x.av), (5, .own 0 ga 0 n), (6, .int .i64 i)] ∧ s = ⟨[.arr ga 1 fa true (vs GW.av A)], c⟩) ?_ _ _ _ ⟨0, _, _, _, _, [], rfl, by omega, rfl, rfl, by simp, rfl, rfl⟩
  rintro _ _ _ ⟨i, c, ga, n, fa, A, rfl, hi, hA, hn, hx, rfl, rfl⟩
  refine ⟨rfl, ?_⟩
  have hAl : A.length = i := by rw [hA, List.length_take]; omega
  by_cases hgo : ∃ h : i < W.length, ltW W[i] x = true
  · obtain ⟨hlt, hlx⟩ := hgo
    have hbw : PureP (findFn tab) 82 [W[i].av, x.av] (· = .bool true) := by have := beforeB (hka _ (List.getElem_mem hlt)); rwa [hlx] at this
    have hA2 : A ++ [W[i]] = W.take (i + 1) := by rw [List.take_succ_eq_append_getElem hlt, hA]
    have hx2 : ∀ y ∈ W.take (i + 1), ltW y x = true := by
      intro y hy
      rw [← hA2, hA, List.mem_append, List.mem_singleton] at hy
      rcases hy with hy | rfl
      · exact hx y hy
      · exact hlx
    (conv => whnf); repeat' (first | (refine callK_of hbw ?_; rintro _ rfl; conv => whnf) | (refine apV1 (f := GW.av) (l := A) (x := W[i]) cellsW hn (by omega) ?_; conv => whnf) | ((with_reducible first | apply kN | apply kW | apply kX | apply kG | apply kQ); (· exact sd); conv => whnf) | (refine pcase.mk ?_ ?_ <;> intro hc <;> (try rw [List.length_nil] at hc) <;> first | (exfalso; omega) | (exact absurd rfl hc) | conv => whnf) | (refine bcase_intro ?_ ?_ <;> intro hc <;> conv => whnf))
    all_goals first
      | exact again.mk ⟨_, by omega, i + 1, _, _, _, _, A ++ [W[i]], rfl, by omega, hA2, by simp, hx2, rfl, rfl⟩
      | (exfalso; omega)
      | (trace_state; fail "put1")
  · have hx3 : ∀ h : i < W.length, ltW W[i] x = false := fun h => by cases hh : ltW W[i] x with | false => rfl | true => exact absurd ⟨h, hh⟩ hgo
    have hno := hx3
    have hins := ins_ok ltW_swo ltW_tot hs hx hx3
    have hwhole : (W.take i ++ x :: (W.drop i).filter (ltW x)).length ≤ W.length + 1 := by
      have := List.length_filter_le (ltW x) (W.drop i)
      simp only [List.length_append, List.length_cons, List.length_take, List.length_drop] at this ⊢
      omega
    by_cases hlt : i < W.length
    · have hno' := hno hlt
      have hbw : PureP (findFn tab) 82 [W[i].av, x.av] (· = .bool false) := by have := beforeB (hka _ (List.getElem_mem hlt)); rwa [hno'] at this
      (conv => whnf); repeat' (first | (refine callK_of hbw ?_; rintro _ rfl; conv => whnf) | (refine apV1 (f := GW.av) (l := A) (x := x) cellsW hn (by omega) ?_; conv => whnf) | ((with_reducible first | apply kN | apply kW | apply kX | apply kG | apply kQ); (· exact sd); conv => whnf) | (refine pcase.mk ?_ ?_ <;> intro hc <;> (try rw [List.length_nil] at hc) <;> first | (exfalso; omega) | (exact absurd rfl hc) | conv => whnf) | (refine bcase_intro ?_ ?_ <;> intro hc <;> conv => whnf))
      all_goals first | (exfalso; omega) | skip
      refine loop_inv (fun m env s => ∃ (j c ga n : Nat) (fa : Bool) (B : List GW), m = W.length - j ∧ i ≤ j ∧ j ≤ W.length ∧ B = W.take i ++ x :: ((W.drop i).take (j - i)).filter (ltW x) ∧ n = B.length ∧ B.length ≤ j + 1 ∧ env = [(0, .sl b (vs GW.av W)), (1, x.av), (5, .own 0 ga 0 n), (6, .int .i64 j)] ∧ s = ⟨[.arr ga 1 fa true (vs GW.av B)], c⟩) ?_ _ _ _ ⟨i, _, _, _, _, A ++ [x], rfl, by omega, by omega, by rw [Nat.sub_self, List.take_zero, hA]; rfl, by simp, by simp; omega, rfl, rfl⟩
      clear hn
      rintro _ _ _ ⟨j, c, ga, n, fa, B, rfl, hij, hj, hB, hn, hBl, rfl, rfl⟩
      refine ⟨rfl, ?_⟩
      by_cases hjl : j < W.length
      · have hk : j - i < (W.drop i).length := by rw [List.length_drop]; omega
        have hg : (W.drop i)[j - i] = W[j] := by rw [List.getElem_drop]; congr 1; omega
        have hf := filter_take_succ (p := ltW x) hk
        rw [hg, show j - i + 1 = j + 1 - i by omega] at hf
        by_cases hxj : ltW x W[j] = true
        · rw [if_pos hxj] at hf
          have hbj : PureP (findFn tab) 82 [x.av, W[j].av] (· = .bool true) := by have := beforeB (hka _ (List.getElem_mem hjl)).symm; rwa [hxj] at this
          have hB2 : B ++ [W[j]] = W.take i ++ x :: ((W.drop i).take (j + 1 - i)).filter (ltW x) := by rw [hf, hB]; simp
          (conv => whnf); repeat' (first | (refine callK_of hbj ?_; rintro _ rfl; conv => whnf) | (refine apV1 (f := GW.av) (l := B) (x := W[j]) cellsW hn (by omega) ?_; conv => whnf) | ((with_reducible first | apply kN | apply kW | apply kX | apply kG | apply kQ); (· exact sd); conv => whnf) | (refine pcase.mk ?_ ?_ <;> intro hc <;> (try rw [List.length_nil] at hc) <;> first | (exfalso; omega) | (exact absurd rfl hc) | conv => whnf) | (refine bcase_intro ?_ ?_ <;> intro hc <;> conv => whnf))
          all_goals first
            | exact again.mk ⟨_, by omega, j + 1, _, _, _, _, B ++ [W[j]], rfl, by omega, by omega, hB2, by simp, by simp; omega, rfl, rfl⟩
            | (exfalso; omega)
            | (trace_state; fail "put2")
        · rw [if_neg hxj, List.append_nil] at hf
          have hbj : PureP (findFn tab) 82 [x.av, W[j].av] (· = .bool false) := by have := beforeB (hka _ (List.getElem_mem hjl)).symm; rwa [Bool.eq_false_iff.2 hxj] at this
          (conv => whnf); repeat' (first | (refine callK_of hbj ?_; rintro _ rfl; conv => whnf) | ((with_reducible first | apply kN | apply kW | apply kX | apply kG | apply kQ); (· exact sd); conv => whnf) | (refine pcase.mk ?_ ?_ <;> intro hc <;> (try rw [List.length_nil] at hc) <;> first | (exfalso; omega) | (exact absurd rfl hc) | conv => whnf) | (refine bcase_intro ?_ ?_ <;> intro hc <;> conv => whnf))
          all_goals first
            | exact again.mk ⟨_, by omega, j + 1, _, _, _, _, B, rfl, by omega, by omega, by rw [hf, hB], hn, by omega, rfl, rfl⟩
            | (exfalso; omega)
            | (trace_state; fail "put3")
      · have hwh : (W.drop i).take (j - i) = W.drop i := List.take_of_length_le (by rw [List.length_drop]; omega)
        rw [hwh] at hB
        (conv => whnf); repeat' (first  | ((with_reducible first | apply kN | apply kW | apply kX | apply kG | apply kQ); (· exact sd); conv => whnf) | (refine pcase.mk ?_ ?_ <;> intro hc <;> (try rw [List.length_nil] at hc) <;> first | (exfalso; omega) | (exact absurd rfl hc) | conv => whnf) | (refine bcase_intro ?_ ?_ <;> intro hc <;> conv => whnf))
        refine ⟨fa, B, ?_, by rw [hB]; exact hins.1, by rw [hB]; exact hwhole, by rw [hB]; exact hins.2⟩
        rw [hn, sub_vs]; simp
    · (conv => whnf); repeat' (first | (refine apV1 (f := GW.av) (l := A) (x := x) cellsW hn (by omega) ?_; conv => whnf) | ((with_reducible first | apply kN | apply kW | apply kX | apply kG | apply kQ); (· exact sd); conv => whnf) | (refine pcase.mk ?_ ?_ <;> intro hc <;> (try rw [List.length_nil] at hc) <;> first | (exfalso; omega) | (exact absurd rfl hc) | conv => whnf) | (refine bcase_intro ?_ ?_ <;> intro hc <;> conv => whnf))
      all_goals first | (exfalso; omega) | skip
      refine loop_inv (fun m env s => ∃ (j c ga n : Nat) (fa : Bool) (B : List GW), m = W.length - j ∧ i ≤ j ∧ j ≤ W.length ∧ B = W.take i ++ x :: ((W.drop i).take (j - i)).filter (ltW x) ∧ n = B.length ∧ B.length ≤ j + 1 ∧ env = [(0, .sl b (vs GW.av W)), (1, x.av), (5, .own 0 ga 0 n), (6, .int .i64 j)] ∧ s = ⟨[.arr ga 1 fa true (vs GW.av B)], c⟩) ?_ _ _ _ ⟨i, _, _, _, _, A ++ [x], rfl, by omega, by omega, by rw [Nat.sub_self, List.take_zero, hA]; rfl, by simp, by simp; omega, rfl, rfl⟩
      clear hn
      rintro _ _ _ ⟨j, c, ga, n, fa, B, rfl, hij, hj, hB, hn, hBl, rfl, rfl⟩
      refine ⟨rfl, ?_⟩
      by_cases hjl : j < W.length
      · have hk : j - i < (W.drop i).length := by rw [List.length_drop]; omega
        have hg : (W.drop i)[j - i] = W[j] := by rw [List.getElem_drop]; congr 1; omega
        have hf := filter_take_succ (p := ltW x) hk
        rw [hg, show j - i + 1 = j + 1 - i by omega] at hf
        by_cases hxj : ltW x W[j] = true
        · rw [if_pos hxj] at hf
          have hbj : PureP (findFn tab) 82 [x.av, W[j].av] (· = .bool true) := by have := beforeB (hka _ (List.getElem_mem hjl)).symm; rwa [hxj] at this
          have hB2 : B ++ [W[j]] = W.take i ++ x :: ((W.drop i).take (j + 1 - i)).filter (ltW x) := by rw [hf, hB]; simp
          (conv => whnf); repeat' (first | (refine callK_of hbj ?_; rintro _ rfl; conv => whnf) | (refine apV1 (f := GW.av) (l := B) (x := W[j]) cellsW hn (by omega) ?_; conv => whnf) | ((with_reducible first | apply kN | apply kW | apply kX | apply kG | apply kQ); (· exact sd); conv => whnf) | (refine pcase.mk ?_ ?_ <;> intro hc <;> (try rw [List.length_nil] at hc) <;> first | (exfalso; omega) | (exact absurd rfl hc) | conv => whnf) | (refine bcase_intro ?_ ?_ <;> intro hc <;> conv => whnf))
          all_goals first
            | exact again.mk ⟨_, by omega, j + 1, _, _, _, _, B ++ [W[j]], rfl, by omega, by omega, hB2, by simp, by simp; omega, rfl, rfl⟩
            | (exfalso; omega)
            | (trace_state; fail "put2")
        · rw [if_neg hxj, List.append_nil] at hf
          have hbj : PureP (findFn tab) 82 [x.av, W[j].av] (· = .bool false) := by have := beforeB (hka _ (List.getElem_mem hjl)).symm; rwa [Bool.eq_false_iff.2 hxj] at this
          (conv => whnf); repeat' (first | (refine callK_of hbj ?_; rintro _ rfl; conv => whnf) | ((with_reducible first | apply kN | apply kW | apply kX | apply kG | apply kQ); (· exact sd); conv => whnf) | (refine pcase.mk ?_ ?_ <;> intro hc <;> (try rw [List.length_nil] at hc) <;> first | (exfalso; omega) | (exact absurd rfl hc) | conv => whnf) | (refine bcase_intro ?_ ?_ <;> intro hc <;> conv => whnf))
          all_goals first
            | exact again.mk ⟨_, by omega, j + 1, _, _, _, _, B, rfl, by omega, by omega, by rw [hf, hB], hn, by omega, rfl, rfl⟩
            | (exfalso; omega)
            | (trace_state; fail "put3")
      · have hwh : (W.drop i).take (j - i) = W.drop i := List.take_of_length_le (by rw [List.length_drop]; omega)
        rw [hwh] at hB
        (conv => whnf); repeat' (first  | ((with_reducible first | apply kN | apply kW | apply kX | apply kG | apply kQ); (· exact sd); conv => whnf) | (refine pcase.mk ?_ ?_ <;> intro hc <;> (try rw [List.length_nil] at hc) <;> first | (exfalso; omega) | (exact absurd rfl hc) | conv => whnf) | (refine bcase_intro ?_ ?_ <;> intro hc <;> conv => whnf))
        refine ⟨fa, B, ?_, by rw [hB]; exact hins.1, by rw [hB]; exact hwhole, by rw [hB]; exact hins.2⟩
        rw [hn, sub_vs]; simp

end AI
end Go.Proofs.YtbkibamoigmboaaGreatDoor
