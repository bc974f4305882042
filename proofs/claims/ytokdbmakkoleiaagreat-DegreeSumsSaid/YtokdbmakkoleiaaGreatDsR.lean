/- A list sorted: the reference's. -/
import Derived.Test.YtokdbmakkoleiaaGreatMW
import Derived.Test.YtokdbmakkoleiaaGreatMF
set_option linter.unusedVariables false
namespace Go.Proofs.YtokdbmakkoleiaaGreat
namespace AI

/-- a number put into a descending list -/
theorem desc_put {l : List Int} {x : Int} {i : Nat} (hi : desc l) (h1 : ∀ y ∈ l.take i, x ≤ y) (h2 : ∀ y ∈ l.drop i, y ≤ x) : desc (l.take i ++ x :: l.drop i) := by
  refine List.pairwise_append.2 ⟨List.Pairwise.sublist (List.take_sublist _ _) hi, List.pairwise_cons.2 ⟨h2, List.Pairwise.sublist (List.drop_sublist _ _) hi⟩, fun a ha b hb => ?_⟩
  rcases List.mem_cons.1 hb with rfl | hb
  · exact h1 a ha
  · have := h1 a ha; have := h2 b hb; omega

theorem desc_rest {l : List Int} (hd : desc l) {i : Nat} (h : i < l.length) {x : Int} (h1 : ¬ x ≤ l[i]) : ∀ y ∈ l.drop i, y ≤ x := by
  intro y hy
  obtain ⟨j, hj, rfl⟩ := List.getElem_of_mem hy
  rw [List.getElem_drop]
  have hij : i + j < l.length := by simp at hj; omega
  rcases Nat.eq_zero_or_pos j with rfl | h0
  · simp; omega
  · have := List.pairwise_iff_getElem.1 hd i (i + j) h hij (by omega)
    omega

theorem perm_put {l : List Int} {x : Int} {i : Nat} : (l.take i ++ x :: l.drop i).Perm (l ++ [x]) := by
  refine List.perm_middle.trans ?_
  rw [List.take_append_drop]
  exact List.perm_append_comm (l₁ := [x]) (l₂ := l)

set_option maxHeartbeats 1000000 in
theorem sortedR {l : List Int} (hl : l.length < 2^40) {nn : Bool} : PureP (findFn tab) 32 [.sl nn (vi l)] (fun v => ∃ b W, v = .sl b (vi W) ∧ desc W ∧ W.Perm l) := by
  refine pureP_of rfl rfl ?_
  (conv => whnf); repeat' (first  | ((with_reducible first | apply kN | apply kW | apply kX | apply kG | apply kQ); (· exact sd); conv => whnf) | (refine pcase.mk ?_ ?_ <;> intro hc <;> (try rw [List.length_nil] at hc) <;> first | (exfalso; omega) | (exact absurd rfl hc) | conv => whnf) | (refine bcase_intro ?_ ?_ <;> intro hc <;> conv => whnf))
  refine loop_inv (fun m env s => ∃ (i c : Nat) (b : Bool) (W : List Int), m = l.length - i ∧ i ≤ l.length ∧ desc W ∧ W.Perm (l.take i) ∧ env = [(0, .sl nn (vi l)), (3, .sl b (vi W)), (4, .int .i64 i)] ∧ s = ⟨[], c⟩) ?_ _ _ _ ⟨0, _, false, [], rfl, by omega, List.Pairwise.nil, by simp, rfl, rfl⟩
  rintro _ _ _ ⟨i, c, b, W, rfl, hi, hd, hp, rfl, rfl⟩
  refine ⟨rfl, ?_⟩
  have hWl : W.length = i := by rw [hp.length_eq]; simp; omega
  by_cases hlt : i < l.length
  · (conv => whnf); repeat' (first  | ((with_reducible first | apply kN | apply kW | apply kX | apply kG | apply kQ); (· exact sd); conv => whnf) | (refine pcase.mk ?_ ?_ <;> intro hc <;> (try rw [List.length_nil] at hc) <;> first | (exfalso; omega) | (exact absurd rfl hc) | conv => whnf) | (refine bcase_intro ?_ ?_ <;> intro hc <;> conv => whnf))
    refine loop_inv (fun m env s => ∃ k : Nat, m = W.length - k ∧ k ≤ W.length ∧ (∀ y ∈ W.take k, l[i] ≤ y) ∧ env = [(0, .sl nn (vi l)), (3, .sl b (vi W)), (4, .int .i64 i), (5, .int .i64 k)] ∧ s = ⟨[], c⟩) ?_ _ _ _ ⟨0, rfl, by omega, by simp, rfl, rfl⟩
    rintro _ _ _ ⟨k, rfl, hk, hx, rfl, rfl⟩
    refine ⟨rfl, ?_⟩
    have e0 : (W.drop 0).take (Int.toNat (k : Int) - 0) = W.take k := by simp
    have e1 : ∀ n, n + k = W.length → (W.drop (Int.toNat (k : Int))).take n = W.drop k := fun n hn => by
      rw [Int.toNat_natCast]; exact List.take_of_length_le (by simp; omega)
    have htl : (W.take k).length = k := by simp; omega
    have hdl : (W.drop k).length + k = W.length := by simp; omega
    have hfin : ∀ (c : Nat) (bb : Bool) (Z : List Int), Z = W.take k ++ l[i] :: W.drop k → (∀ y ∈ W.drop k, y ≤ l[i]) → again (fun m env s => ∃ (i c : Nat) (b : Bool) (W : List Int), m = l.length - i ∧ i ≤ l.length ∧ desc W ∧ W.Perm (l.take i) ∧ env = [(0, .sl nn (vi l)), (3, .sl b (vi W)), (4, .int .i64 i)] ∧ s = ⟨[], c⟩) (l.length - i) [(0, .sl nn (vi l)), (3, .sl bb (vi Z)), (4, .int .i64 (i + 1))] ⟨[], c⟩ := by
      intro c bb Z hZ hr
      refine again.mk ⟨_, by omega, i + 1, c, bb, Z, rfl, by omega, ?_, ?_, rfl, rfl⟩
      · rw [hZ]; exact desc_put hd hx hr
      · rw [hZ, List.take_succ_eq_append_getElem hlt]
        exact perm_put.trans (List.Perm.append_right _ hp)
    (conv => whnf); repeat' (first | ((with_reducible show need _ _); refine need.mk ⟨by (try rw [lV]); omega, by (try rw [lV]); omega⟩ ?_; conv => whnf) | ((with_reducible show need _ _); refine need.mk (allSize_vs cellsI _) ?_; conv => whnf) | ((with_reducible show eqK _ _); apply eqK_intro; (· exact sub_vs _ _ _); conv => whnf) | (refine apVt (l := []) (l' := W.take k) (by rw [e0]) cellsI rfl (by simp only [List.length_nil]; omega) ?_; conv => whnf) | (refine apV1 (x := l[i]) cellsI (by simp) (by simp only [List.length_append, List.length_nil, htl]; omega) ?_; conv => whnf) | (refine apVm (l' := W.drop k) (by rw [e1 _ (by rw [lV]; omega)]) cellsI (by simp) (by simp only [List.length_append, List.length_nil, List.length_cons, htl]; omega) (fun b => ?_); conv => whnf) | ((with_reducible first | apply kN | apply kW | apply kX | apply kG | apply kQ); (· exact sd); conv => whnf) | (refine pcase.mk ?_ ?_ <;> intro hc <;> (try rw [List.length_nil] at hc) <;> first | (exfalso; omega) | (exact absurd rfl hc) | conv => whnf) | (refine bcase_intro ?_ ?_ <;> intro hc <;> conv => whnf))
    · exact again.mk ⟨_, by omega, k + 1, rfl, by omega, all_take_succ (by omega) hx hc, rfl, rfl⟩
    · refine hfin _ _ _ ?_ (desc_rest hd (by omega) hc)
      rw [List.drop_zero, List.nil_append, List.append_assoc, List.cons_append, List.nil_append, List.take_of_length_le (by simp; omega)]
    · refine hfin _ _ _ ?_ (fun y hy => by rw [List.drop_eq_nil_of_le (by omega)] at hy; cases hy)
      rw [List.drop_zero, List.nil_append, List.append_assoc, List.cons_append, List.nil_append, List.take_of_length_le (by simp; omega)]
  · rw [List.take_of_length_le (by omega)] at hp
    (conv => whnf); repeat' (first  | ((with_reducible first | apply kN | apply kW | apply kX | apply kG | apply kQ); (· exact sd); conv => whnf) | (refine pcase.mk ?_ ?_ <;> intro hc <;> (try rw [List.length_nil] at hc) <;> first | (exfalso; omega) | (exact absurd rfl hc) | conv => whnf) | (refine bcase_intro ?_ ?_ <;> intro hc <;> conv => whnf))
    exact ⟨b, W, rfl, hd, hp⟩

end AI
end Go.Proofs.YtokdbmakkoleiaaGreat
