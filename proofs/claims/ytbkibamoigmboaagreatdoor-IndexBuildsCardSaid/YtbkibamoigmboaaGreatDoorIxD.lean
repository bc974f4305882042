/- The entries of a graph, put in one by one: the reference's index. -/
import Derived.Test.YtbkibamoigmboaaGreatDoorIxB
set_option linter.unusedVariables false
set_option maxRecDepth 4000
namespace Go.Proofs.YtbkibamoigmboaaGreatDoor
namespace AI
open Go.Sort

/-- one more, moved to its place -/
noncomputable def insX (A : List GX) (x : GX) : List GX := (insInner ltT 0 A.length (A ++ [x]).toArray).toList
theorem insX_ok {A : List GX} {x : GX} (hs : A.Pairwise (fun x y => ltT y x = false)) : (insX A x).Perm (A ++ [x]) ∧ (insX A x).Pairwise (fun x y => ltT y x = false) := by
  obtain ⟨E, hE⟩ : ∃ E, (A ++ [x]).toArray = E := ⟨_, rfl⟩
  have hsz : E.size = A.length + 1 := by rw [← hE]; simp
  have hat : ∀ p, p < A.length → ∃ h : p < A.length, E[p]! = A[p] := fun p hp => ⟨hp, by
    rw [getElem!_pos E p (by omega)]
    subst hE
    simp [List.getElem_append_left hp]⟩
  have h := insInner_spec (lt := ltT) ltT_swo swp_permIn permIn_refl permIn_trans 0 (A.length + 1) A.length (by omega) A.length E (by omega) (Nat.le_refl _) (by omega) ⟨fun p q hap hpq hqi _ hq => by
    obtain ⟨h1, e1⟩ := hat p (by omega)
    obtain ⟨h2, e2⟩ := hat q (by omega)
    rw [e1, e2]
    exact List.pairwise_iff_getElem.1 hs p q h1 h2 hpq, fun q h1 h2 => by omega⟩
  obtain ⟨⟨h1, _, h3⟩, h4⟩ := h
  unfold insX
  rw [hE]
  constructor
  · rw [Array.extract_eq_self_of_le (by omega), Array.extract_eq_self_of_le (by omega)] at h3
    rw [← hE] at h3 ⊢
    simpa using h3
  · rw [List.pairwise_iff_getElem]
    intro i j hi hj hij
    rw [Array.length_toList] at hi hj
    have := h4 i j (by omega) hij (by omega)
    rw [getElem!_pos _ j hj, getElem!_pos _ i hi] at this
    simpa using this

theorem apV1e {es g len : Nat} {nn cl : Bool} {α : Type} {f : α → AV} {l : List α} {x : α} {y : AV} {bytes : Nat} {K : Nat → Bool → Bool → List AV → Prop} (he : f x = y) (hf : ∀ x, (f x).cells.length = es) (hl : len = l.length) (hr : (l.length + 1) * bytes ≤ 2 ^ 46) (h : K (l.length + 1) true cl (vs f (l ++ [x]))) :
    appendK g g es es len nn cl true (vs f l) [y] bytes K := by
  subst he
  exact apV1 hf hl hr h

theorem arr_set2 {E : Array GX} {j : Nat} (h : j + 1 < E.size) : (E.setIfInBounds (j + 1) E[j]!).setIfInBounds j E[j + 1]! = swp E (j + 1) j := rfl

set_option maxHeartbeats 8000000 in
theorem buildR {g : GG} (hg : g.ok) (hN : (chk g).nodes.length ≤ 2000) : PureP (findFn tab) 22 [g.av] (SortT (ents (chk g).nodes)) := by
  have hc := checkR hg
  have ht := tame_chk (g := g)
  have hok := (chk_ok hg).2.2.1
  by_cases h0 : checkE g = 0
  case neg =>
    have e : chk g = ⟨false, [], false, [], 0, 0⟩ := if_neg h0
    rw [e]
    refine pureP_of rfl rfl ?_
    (conv => whnf); repeat' (first | (refine callK_of hc ?_; rintro _ rfl; conv => whnf) | ((with_reducible first | apply kN | apply kW | apply kX | apply kG | apply kQ); (· exact sd); conv => whnf) | (refine pcase.mk ?_ ?_ <;> intro hc <;> (try rw [List.length_nil] at hc) <;> first | (exfalso; omega) | (exact absurd rfl hc) | conv => whnf) | (refine bcase_intro ?_ ?_ <;> intro hc <;> conv => whnf))
    all_goals first | exact ⟨_, [], rfl, .refl _, .nil⟩ | (exfalso; omega) | skip
  have e : chk g = g := if_pos h0
  rw [e] at hN ht hok ⊢
  rw [h0] at hc
  clear e h0
  refine pureP_of rfl rfl ?_
  (conv => whnf); repeat' (first | (refine callK_of hc ?_; rintro _ rfl; conv => whnf) | ((with_reducible first | apply kN | apply kW | apply kX | apply kG | apply kQ); (· exact sd); conv => whnf) | (refine pcase.mk ?_ ?_ <;> intro hc <;> (try rw [List.length_nil] at hc) <;> first | (exfalso; omega) | (exact absurd rfl hc) | conv => whnf) | (refine bcase_intro ?_ ?_ <;> intro hc <;> conv => whnf))
  all_goals first | (exfalso; omega) | skip
  refine loop_inv (fun z env s => ∃ (i c ga n : Nat) (fa : Bool) (A : List GX), z = g.nodes.length - i ∧ i ≤ g.nodes.length ∧ (A.map GX.e).Perm (ents (g.nodes.take i)) ∧ A.Pairwise (fun x y => ltT y x = false) ∧ n = A.length ∧ env = [(1, .ref 0 0 0 0), (3, .own 1 ga 0 n), (4, .int .i64 i)] ∧ s = ⟨[.arr 0 4 true true [g.av], .arr ga 8 fa true (vs GX.av A)], c⟩) ?_ _ _ _ ⟨0, _, _, _, _, [], rfl, by omega, .refl _, .nil, rfl, rfl, rfl⟩
  rintro _ _ _ ⟨i, c, ga, n, fa, A, rfl, hi, hA, hAs, hnA, rfl, rfl⟩
  refine ⟨rfl, ?_⟩
  by_cases hlt : i < g.nodes.length
  · have htn := ht g.nodes[i] (List.getElem_mem hlt)
    have hokn := hok g.nodes[i] (List.getElem_mem hlt)
    have hs : ents (g.nodes.take (i + 1)) = ents (g.nodes.take i) ++ entN g.nodes[i] := fm_step hlt
    have hb := ents_len ht i
    rw [← hA.length_eq, List.length_map] at hb
    have hll := htn.1
    have hpl := htn.2.1
    (conv => whnf); repeat' (first  | ((with_reducible first | apply kN | apply kW | apply kX | apply kG | apply kQ); (· exact sd); conv => whnf) | (refine pcase.mk ?_ ?_ <;> intro hc <;> (try rw [List.length_nil] at hc) <;> first | (exfalso; omega) | (exact absurd rfl hc) | conv => whnf) | (refine bcase_intro ?_ ?_ <;> intro hc <;> conv => whnf))
    refine loop_inv (fun z env s => ∃ (j c2 ga n : Nat) (fa : Bool) (B : List GX), z = g.nodes[i].labels.length - j ∧ j ≤ g.nodes[i].labels.length ∧ (B.map GX.e).Perm (ents (g.nodes.take i) ++ (g.nodes[i].labels.take j).flatMap (entL g.nodes[i])) ∧ B.Pairwise (fun x y => ltT y x = false) ∧ n = B.length ∧ env = [(1, .ref 0 0 0 0), (3, .own 1 ga 0 n), (4, .int .i64 i), (5, .ref 2 c 0 0), (6, .int .i64 j)] ∧ s = ⟨[.arr 0 4 true true [g.av], .arr ga 8 fa true (vs GX.av B), .arr c 3 true true [g.nodes[i].av]], c2⟩) ?_ _ _ _ ⟨0, _, _, _, _, A, rfl, by omega, by simpa using hA, hAs, hnA, rfl, rfl⟩
    rintro _ _ _ ⟨j, c2, gb, n2, fb, B, rfl, hj, hB, hBs, hn2, rfl, rfl⟩
    refine ⟨rfl, ?_⟩
    clear hnA hA hAs
    by_cases hjl : j < g.nodes[i].labels.length
    · have hs2 := fm_step (f := entL g.nodes[i]) hjl
      have hb2 := entN_len htn j
      have hBl : B.length ≤ i * 128 + j * 16 := by
        have e1 := hB.length_eq
        have e2 := ents_len ht i
        rw [List.length_map, List.length_append] at e1
        omega
      clear hb2
      (conv => whnf); repeat' (first  | ((with_reducible first | apply kN | apply kW | apply kX | apply kG | apply kQ); (· exact sd); conv => whnf) | (refine pcase.mk ?_ ?_ <;> intro hc <;> (try rw [List.length_nil] at hc) <;> first | (exfalso; omega) | (exact absurd rfl hc) | conv => whnf) | (refine bcase_intro ?_ ?_ <;> intro hc <;> conv => whnf))
      refine loop_inv (fun z env s => ∃ (k c3 ga n : Nat) (fa : Bool) (D : List GX), z = g.nodes[i].props.length - k ∧ k ≤ g.nodes[i].props.length ∧ (D.map GX.e).Perm (B.map GX.e ++ (g.nodes[i].props.take k).map (mkT g.nodes[i].labels[j] g.nodes[i].id)) ∧ D.Pairwise (fun x y => ltT y x = false) ∧ n = D.length ∧ D.length = B.length + k ∧ env = [(1, .ref 0 0 0 0), (3, .own 1 ga 0 n), (4, .int .i64 i), (5, .ref 2 c 0 0), (6, .int .i64 j), (7, .int .i64 k)] ∧ s = ⟨[.arr 0 4 true true [g.av], .arr ga 8 fa true (vs GX.av D), .arr c 3 true true [g.nodes[i].av]], c3⟩) ?_ _ _ _ ⟨0, _, _, _, _, B, rfl, by omega, by simp, hBs, hn2, rfl, rfl, rfl⟩
      rintro _ _ _ ⟨k, c3, gc, n3, fc, D, rfl, hk, hD, hDs, hn3, hDl, rfl, rfl⟩
      refine ⟨rfl, ?_⟩
      clear hn2 hBs
      by_cases hkl : k < g.nodes[i].props.length
      · have hs3 := map_step (f := mkT g.nodes[i].labels[j] g.nodes[i].id) hkl
        obtain ⟨x, hx⟩ : ∃ x : GX, x.e = mkT g.nodes[i].labels[j] g.nodes[i].id g.nodes[i].props[k] := ⟨⟨mkT g.nodes[i].labels[j] g.nodes[i].id g.nodes[i].props[k], ⟨⟨hokn.2.2.2.1 _ (List.getElem_mem hjl), (hokn.2.2.2.2.2.2 _ (List.getElem_mem hkl)).1, (hokn.2.2.2.2.2.2 _ (List.getElem_mem hkl)).2, hokn.1⟩, htn.2.2 _ (List.getElem_mem hkl)⟩⟩, rfl⟩
        have hxa : GX.av x = (mkT g.nodes[i].labels[j] g.nodes[i].id g.nodes[i].props[k]).av := by unfold GX.av; rw [hx]
        obtain ⟨q1, q2⟩ := insX_ok (x := x) hDs
        have hD2 : ((insX D x).map GX.e).Perm (B.map GX.e ++ (g.nodes[i].props.take (k + 1)).map (mkT g.nodes[i].labels[j] g.nodes[i].id)) := by
          refine (q1.map _).trans ?_
          rw [hs3, List.map_append, ← List.append_assoc]
          refine hD.append ?_
          show List.Perm [x.e] _
          rw [hx]
        have hlen : (insX D x).length = D.length + 1 := by rw [q1.length_eq]; simp
        clear hs3
        (conv => whnf); repeat' (first | (refine apV1e (f := GX.av) (l := D) (x := x) hxa cellsGX hn3 (by omega) ?_; conv => whnf) | ((with_reducible first | apply kN | apply kW | apply kX | apply kG | apply kQ); (· exact sd); conv => whnf) | (refine pcase.mk ?_ ?_ <;> intro hc <;> (try rw [List.length_nil] at hc) <;> first | (exfalso; omega) | (exact absurd rfl hc) | conv => whnf) | (refine bcase_intro ?_ ?_ <;> intro hc <;> conv => whnf))
        refine loop_inv (fun z env s => ∃ (m c4 gd : Nat) (w : Int) (E : Array GX), z = m ∧ w = m ∧ m ≤ D.length ∧ insInner ltT 0 m E = insInner ltT 0 D.length (D ++ [x]).toArray ∧ E.size = D.length + 1 ∧ env = [(1, .ref 0 0 0 0), (3, .own 1 gd 0 (D.length + 1)), (4, .int .i64 i), (5, .ref 2 c 0 0), (6, .int .i64 j), (7, .int .i64 k), (8, .int .i64 w)] ∧ s = ⟨[.arr 0 4 true true [g.av], .arr gd 8 true true (vs GX.av E.toList), .arr c 3 true true [g.nodes[i].av]], c4⟩) ?_ _ _ _ ⟨D.length, _, _, _, (D ++ [x]).toArray, rfl, ?_, by omega, rfl, by simp, rfl, rfl⟩
        rotate_left
        · omega
        clear hD hDs hxa hx
        rintro m _ _ ⟨_, c4, gd, w, E, rfl, hw, hm, hE, hEl, rfl, rfl⟩
        refine ⟨rfl, ?_⟩
        have fin : insInner ltT 0 m E = E → insX D x = E.toList := fun h => by unfold insX; rw [← hE, h]
        cases m with
        | zero =>
          have hfi := fin (by rw [insInner])
          (conv => whnf); repeat' (first  | ((with_reducible first | apply kN | apply kW | apply kX | apply kG | apply kQ); (· exact sd); conv => whnf) | (refine pcase.mk ?_ ?_ <;> intro hc <;> (try rw [List.length_nil] at hc) <;> first | (exfalso; omega) | (exact absurd rfl hc) | conv => whnf) | (refine bcase_intro ?_ ?_ <;> intro hc <;> conv => whnf))
          all_goals first
            | exact again.mk ⟨_, by omega, k + 1, _, _, D.length + 1, _, insX D x, rfl, by omega, hD2, q2, hlen.symm, by omega, rfl, by rw [hfi]⟩
            | (exfalso; omega)
            | (trace_state; fail "buildR4")
        | succ m =>
          obtain rfl : w = ((m + 1 : Nat) : Int) := by omega
          (conv => whnf); repeat' (first | ((with_reducible show nthK _ _ _); refine nPK (m + 1) ?_; conv => whnf) | ((with_reducible show nthK _ _ _); refine nPK (m) ?_; conv => whnf) | (refine callK_of orderRT ?_; rintro _ rfl; conv => whnf) | (refine pcaseT (fun hc => ?_) (fun hc => ?_) <;> conv => whnf) | ((with_reducible show eqK _ _); refine tPK cellsGX (m + 1) ?_; conv => whnf) | ((with_reducible show eqK _ _); refine tPK cellsGX (m) ?_; conv => whnf) | ((with_reducible first | apply kN | apply kW | apply kX | apply kG | apply kQ); (· exact sd); conv => whnf) | (refine pcase.mk ?_ ?_ <;> intro hc <;> (try rw [List.length_nil] at hc) <;> first | (exfalso; omega) | (exact absurd rfl hc) | conv => whnf) | (refine bcase_intro ?_ ?_ <;> intro hc <;> conv => whnf))
          all_goals first
            | (rw [ins_step (by omega) (by assumption)] at hE
               exact again.mk ⟨_, by omega, m, _, _, _, swp E (m + 1) m, rfl, by omega, by omega, hE, by simpa using hEl, rfl, by rw [arr_set2 (by omega)]⟩)
            | (have hfi := fin (ins_stop fun _ => by assumption)
               exact again.mk ⟨_, by omega, k + 1, _, _, D.length + 1, _, insX D x, rfl, by omega, hD2, q2, hlen.symm, by omega, rfl, by rw [hfi]⟩)
            | (exfalso; omega)
            | (trace_state; fail "buildR3")
      · have hwh : (g.nodes[i].props.take k).map (mkT g.nodes[i].labels[j] g.nodes[i].id) = entL g.nodes[i] g.nodes[i].labels[j] := by rw [List.take_of_length_le (by omega)]; rfl
        rw [hwh] at hD
        have hB2 : (D.map GX.e).Perm (ents (g.nodes.take i) ++ (g.nodes[i].labels.take (j + 1)).flatMap (entL g.nodes[i])) := by
          rw [hs2, ← List.append_assoc]
          exact hD.trans (hB.append_right _)
        (conv => whnf); repeat' (first  | ((with_reducible first | apply kN | apply kW | apply kX | apply kG | apply kQ); (· exact sd); conv => whnf) | (refine pcase.mk ?_ ?_ <;> intro hc <;> (try rw [List.length_nil] at hc) <;> first | (exfalso; omega) | (exact absurd rfl hc) | conv => whnf) | (refine bcase_intro ?_ ?_ <;> intro hc <;> conv => whnf))
        all_goals first
          | exact again.mk ⟨_, by omega, j + 1, _, _, _, _, D, rfl, by omega, hB2, hDs, hn3, rfl, rfl⟩
          | (exfalso; omega)
          | (trace_state; fail "buildR2")
    · have hwh : (g.nodes[i].labels.take j).flatMap (entL g.nodes[i]) = entN g.nodes[i] := by rw [List.take_of_length_le (by omega)]; rfl
      rw [hwh, ← hs] at hB
      (conv => whnf); repeat' (first  | ((with_reducible first | apply kN | apply kW | apply kX | apply kG | apply kQ); (· exact sd); conv => whnf) | (refine pcase.mk ?_ ?_ <;> intro hc <;> (try rw [List.length_nil] at hc) <;> first | (exfalso; omega) | (exact absurd rfl hc) | conv => whnf) | (refine bcase_intro ?_ ?_ <;> intro hc <;> conv => whnf))
      all_goals first
        | exact again.mk ⟨_, by omega, i + 1, _, _, _, _, B, rfl, by omega, hB, hBs, hn2, rfl, rfl⟩
        | (exfalso; omega)
        | (trace_state; fail "buildR1")
  · rw [List.take_of_length_le (by omega)] at hA
    (conv => whnf); repeat' (first  | ((with_reducible first | apply kN | apply kW | apply kX | apply kG | apply kQ); (· exact sd); conv => whnf) | (refine pcase.mk ?_ ?_ <;> intro hc <;> (try rw [List.length_nil] at hc) <;> first | (exfalso; omega) | (exact absurd rfl hc) | conv => whnf) | (refine bcase_intro ?_ ?_ <;> intro hc <;> conv => whnf))
    refine ⟨fa, A, ?_, hA, hAs⟩
    rw [hnA, sub_vs]; simp

end AI
end Go.Proofs.YtbkibamoigmboaaGreatDoor
