/- Two sorted lists of the same entries are alike; the law about building an index. -/
import Derived.Test.YtbkibamoigmboaaGreatDoorIxD
import Derived.Test.YtbkibamoigmboaaGreatDoorIxLives
set_option linter.unusedVariables false
set_option maxRecDepth 4000
namespace Go.Proofs.YtbkibamoigmboaaGreatDoor
namespace AI
open Go.Sort

noncomputable def notBelow (a : GX) (e : GT) : Bool := !decide (cmpT 1 a.e e < 0)
theorem nb_eq {a x : GX} : notBelow a x.e = !ltT a x := by unfold notBelow ltT cmpX; rfl
theorem count_eq {M : List GT} {W1 W2 : List GX} (p1 : (W1.map GX.e).Perm M) (p2 : (W2.map GX.e).Perm M) (a : GX) : W1.countP (fun x => !ltT a x) = W2.countP (fun x => !ltT a x) := by
  have h := (p1.trans p2.symm).countP_eq (notBelow a)
  rw [List.countP_map, List.countP_map] at h
  have e : (notBelow a ∘ GX.e) = fun x => !ltT a x := by funext x; exact nb_eq
  rw [e] at h
  exact h
theorem not_lt_at {M : List GT} {W1 W2 : List GX} (p1 : (W1.map GX.e).Perm M) (p2 : (W2.map GX.e).Perm M) (s1 : W1.Pairwise (fun x y => ltT y x = false)) (s2 : W2.Pairwise (fun x y => ltT y x = false)) {i : Nat} (h1 : i < W1.length) (h2 : i < W2.length) : ltT W1[i] W2[i] = false := by
  cases hab : ltT W1[i] W2[i] with
  | false => rfl
  | true =>
    have hc := count_eq p1 p2 W1[i]
    have c1 : i + 1 ≤ W1.countP (fun x => !ltT W1[i] x) := by
      have e : (W1.take (i + 1)).countP (fun x => !ltT W1[i] x) = i + 1 := by
        have : (W1.take (i + 1)).length = i + 1 := by rw [List.length_take]; omega
        refine (?_ : _ = (W1.take (i + 1)).length).trans this
        refine List.countP_eq_length.2 fun x hx => ?_
        obtain ⟨j, hj, rfl⟩ := List.getElem_of_mem hx
        rw [List.getElem_take]
        rw [List.length_take] at hj
        rcases Nat.lt_or_ge j i with h | h
        · rw [List.pairwise_iff_getElem.1 s1 j i (by omega) h1 h]; rfl
        · obtain rfl : j = i := by omega
          rw [ltT_swo.irrefl]; rfl
      have := List.countP_append (p := fun x => !ltT W1[i] x) (l₁ := W1.take (i + 1)) (l₂ := W1.drop (i + 1))
      rw [List.take_append_drop, e] at this
      omega
    have c2 : W2.countP (fun x => !ltT W1[i] x) ≤ i := by
      have e : (W2.drop i).countP (fun x => !ltT W1[i] x) = 0 := by
        refine List.countP_eq_zero.2 fun x hx => ?_
        obtain ⟨j, hj, rfl⟩ := List.getElem_of_mem hx
        rw [List.getElem_drop]
        rw [List.length_drop] at hj
        have hn : ltT W2[i + j] W2[i] = false := by
          rcases Nat.eq_zero_or_pos j with h | h
          · subst h; exact ltT_swo.irrefl _
          · exact List.pairwise_iff_getElem.1 s2 i (i + j) h2 (by omega) (by omega)
        cases hh : ltT W1[i] W2[i + j] with
        | true => simp
        | false =>
          have := ltT_swo.ntrans _ _ _ hh hn
          rw [hab] at this; cases this
      have := List.countP_append (p := fun x => !ltT W1[i] x) (l₁ := W2.take i) (l₂ := W2.drop i)
      rw [List.take_append_drop, e] at this
      have h3 : (W2.take i).countP (fun x => !ltT W1[i] x) ≤ (W2.take i).length := List.countP_le_length
      rw [List.length_take] at h3
      omega
    omega
theorem sorted_alike {M : List GT} {W1 W2 : List GX} (p1 : (W1.map GX.e).Perm M) (p2 : (W2.map GX.e).Perm M) (s1 : W1.Pairwise (fun x y => ltT y x = false)) (s2 : W2.Pairwise (fun x y => ltT y x = false)) {i : Nat} (h1 : i < W1.length) (h2 : i < W2.length) : cmpX W1[i] W2[i] = 0 := by
  have a := not_lt_at p1 p2 s1 s2 h1 h2
  have b := not_lt_at p2 p1 s2 s1 h2 h1
  unfold ltT at a b
  have a := of_decide_eq_false a
  have b := of_decide_eq_false b
  have := pc_cmpX.anti W1[i] W2[i]
  omega

theorem sameT {W1 W2 : List GX} {b1 b2 : Bool} (hl : W1.length < 2^61) (he : W1.length = W2.length) (h : ∀ i (h1 : i < W1.length) (h2 : i < W2.length), cmpX W1[i] W2[i] = 0) : PureP (findFn tab) 20 [.sl b1 (vs GX.av W1), .sl b2 (vs GX.av W2)] (· = .bool true) := by
  refine pureP_of rfl rfl ?_
  (conv => whnf); repeat' (first  | ((with_reducible first | apply kN | apply kW | apply kX | apply kG | apply kQ); (· exact sd); conv => whnf) | (refine pcase.mk ?_ ?_ <;> intro hc <;> (try rw [List.length_nil] at hc) <;> first | (exfalso; omega) | (exact absurd rfl hc) | conv => whnf) | (refine bcase_intro ?_ ?_ <;> intro hc <;> conv => whnf))
  all_goals first | (exfalso; omega) | skip
  refine loop_inv (fun m env s => ∃ i : Nat, m = W1.length - i ∧ env = [(0, .sl b1 (vs GX.av W1)), (1, .sl b2 (vs GX.av W2)), (5, .int .i64 i)] ∧ s = ⟨[], 0⟩) ?_ _ _ _ ⟨0, rfl, rfl, rfl⟩
  rintro _ _ _ ⟨i, rfl, rfl, rfl⟩
  refine ⟨rfl, ?_⟩
  by_cases hlt : i < W1.length
  · have h2 : i < W2.length := by omega
    have hz := orderRT (x := W1[i]) (y := W2[i])
    rw [h i hlt h2] at hz
    (conv => whnf); repeat' (first | (refine callK_of hz ?_; rintro _ rfl; conv => whnf) | ((with_reducible first | apply kN | apply kW | apply kX | apply kG | apply kQ); (· exact sd); conv => whnf) | (refine pcase.mk ?_ ?_ <;> intro hc <;> (try rw [List.length_nil] at hc) <;> first | (exfalso; omega) | (exact absurd rfl hc) | conv => whnf) | (refine bcase_intro ?_ ?_ <;> intro hc <;> conv => whnf))
    all_goals first
      | exact again.mk ⟨_, by omega, i + 1, rfl, rfl, rfl⟩
      | (exfalso; omega)
      | (trace_state; fail "sameT")
  · (conv => whnf); repeat' (first  | ((with_reducible first | apply kN | apply kW | apply kX | apply kG | apply kQ); (· exact sd); conv => whnf) | (refine pcase.mk ?_ ?_ <;> intro hc <;> (try rw [List.length_nil] at hc) <;> first | (exfalso; omega) | (exact absurd rfl hc) | conv => whnf) | (refine bcase_intro ?_ ?_ <;> intro hc <;> conv => whnf))
    all_goals first | rfl | (exfalso; omega) | (trace_state; fail "sameT2")

theorem SortT_same {M : List GT} {v w : AV} (hM : M.length < 2^61) (h1 : SortT M v) (h2 : SortT M w) : PureP (findFn tab) 20 [v, w] (· = .bool true) := by
  obtain ⟨b1, W1, rfl, p1, s1⟩ := h1
  obtain ⟨b2, W2, rfl, p2, s2⟩ := h2
  have e1 := p1.length_eq
  have e2 := p2.length_eq
  rw [List.length_map] at e1 e2
  exact sameT (by omega) (by omega) fun i h1 h2 => sorted_alike p1 p2 s1 s2 h1 h2

theorem chk_small {g : GG} {k : Nat} (h : g.nodes.length ≤ k) : (chk g).nodes.length ≤ k := by
  unfold chk
  split
  · exact h
  · simp

set_option maxRecDepth 10000 in
theorem law_builds : ∀ xs, likes Tryz.prog [25] xs → Calls1 (findFn tab) 4 xs ⟨[], 0⟩ fun out _ => out = .ok (.bool true) := by
  intro xs h
  match xs, h with
  | [a], h =>
    obtain ⟨h1, _⟩ := h
    obtain ⟨g, rfl, hg⟩ := like_graph h1
    obtain ⟨_, ⟨b, rfl, hb⟩, ps⟩ := (smallP hg).det
    refine calls1_of rfl rfl ?_
    cases b with
    | false =>
      (conv => whnf); repeat' (first | (refine callK_of ps ?_; rintro _ rfl; conv => whnf) | (refine callB livesI (fun _ => ?_) (fun h => absurd trivial h); conv => whnf) | ((with_reducible first | apply kN | apply kW | apply kX | apply kG | apply kQ); (· exact sd); conv => whnf) | (refine pcase.mk ?_ ?_ <;> intro hc <;> (try rw [List.length_nil] at hc) <;> first | (exfalso; omega) | (exact absurd rfl hc) | conv => whnf) | (refine bcase_intro ?_ ?_ <;> intro hc <;> conv => whnf))
      all_goals first | rfl | (exfalso; omega) | (trace_state; fail "law1")
    | true =>
      obtain ⟨b1, b2⟩ := hb rfl
      have hN := chk_small b1
      have hM := ents_len (tame_chk (g := g)) (chk g).nodes.length
      rw [List.take_length] at hM
      obtain ⟨v1, s1, p1⟩ := (buildP hg (by omega)).det
      obtain ⟨v2, s2, p2⟩ := (buildR hg (by omega)).det
      have c1 := SortT_same (by omega) s1 s2
      obtain ⟨y1, W1, rfl, -⟩ := s1
      obtain ⟨y2, W2, rfl, -⟩ := s2
      clear hN hM hb
      (conv => whnf); repeat' (first | (refine callK_of ps ?_; rintro _ rfl; conv => whnf) | (refine callK_of p1 ?_; rintro _ rfl; conv => whnf) | (refine callK_of p2 ?_; rintro _ rfl; conv => whnf) | (refine callK_of c1 ?_; rintro _ rfl; conv => whnf) | (refine callB livesI (fun _ => ?_) (fun h => absurd trivial h); conv => whnf) | ((with_reducible first | apply kN | apply kW | apply kX | apply kG | apply kQ); (· exact sd); conv => whnf) | (refine pcase.mk ?_ ?_ <;> intro hc <;> (try rw [List.length_nil] at hc) <;> first | (exfalso; omega) | (exact absurd rfl hc) | conv => whnf) | (refine bcase_intro ?_ ?_ <;> intro hc <;> conv => whnf))
      all_goals first | rfl | (exfalso; omega) | (trace_state; fail "law2")

end AI
end Go.Proofs.YtbkibamoigmboaaGreatDoor
