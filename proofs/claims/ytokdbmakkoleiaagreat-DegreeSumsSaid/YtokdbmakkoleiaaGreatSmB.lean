/- The sum of a sequence; counts looked up in statistics. -/
import Derived.Test.YtokdbmakkoleiaaGreatSmA
set_option linter.unusedVariables false
namespace Go.Proofs.YtokdbmakkoleiaaGreat
namespace AI

theorem sum_bd {c : Int} {l : List Int} (h : ∀ x ∈ l, 0 ≤ x ∧ x ≤ c) : 0 ≤ sumI l ∧ sumI l ≤ l.length * c := by
  have := sumI_bound (f := id) (c := c) (l := l) h
  simpa using this
theorem sum_take {l : List Int} {i : Nat} (h : i < l.length) : sumI (l.take (i + 1)) = sumI (l.take i) + l[i] := by
  have := sumI_take (f := id) h
  simpa using this

theorem sumP {W : List Int} {b : Bool} (hl : W.length ≤ 2000) (hd : desc W) (hp : ∀ x ∈ W, 1 ≤ x ∧ x ≤ 4000) : PureP (findFn tab) 15 [.sl b (vi W)] (· = .int .i64 (sumI W)) := by
  refine pureP_of rfl rfl ?_
  (conv => whnf); repeat' (first  | ((with_reducible first | apply kN | apply kW | apply kX | apply kG | apply kQ); (· exact sd); conv => whnf) | (refine pcase.mk ?_ ?_ <;> intro hc <;> (try rw [List.length_nil] at hc) <;> first | (exfalso; omega) | (exact absurd rfl hc) | conv => whnf) | (refine bcase_intro ?_ ?_ <;> intro hc <;> conv => whnf))
  refine loop_inv (fun m env s => ∃ (i : Nat) (z : Int), m = W.length - i ∧ i ≤ W.length ∧ z = sumI (W.take i) ∧ env = [(0, .sl b (vi W)), (3, .int .i64 z), (4, .int .i64 i)] ∧ s = ⟨[], 0⟩) ?_ _ _ _ ⟨0, 0, rfl, by omega, rfl, rfl, rfl⟩
  rintro _ _ _ ⟨i, z, rfl, hi, hz, rfl, rfl⟩
  refine ⟨rfl, ?_⟩
  by_cases hlt : i < W.length
  · have hb := sum_bd (l := W.take i) (c := 4000) fun x hx => by have := hp x (List.mem_of_mem_take hx); omega
    rw [List.length_take, ← hz] at hb
    have h1 := hp W[i] (List.getElem_mem hlt)
    have h2 : 0 < i → W[i] ≤ W[i - 1] := fun h => List.pairwise_iff_getElem.1 hd (i - 1) i (by omega) hlt (by omega)
    have hs := sum_take hlt
    rw [← hz] at hs
    clear hz
    (conv => whnf); repeat' (first | (apply nthK_intro; (· exact (fun (_ : 0 < i) => nVz (i - 1) (by omega) (by omega)) (by omega)); conv => whnf) | ((with_reducible first | apply kN | apply kW | apply kX | apply kG | apply kQ); (· exact sd); conv => whnf) | (refine pcase.mk ?_ ?_ <;> intro hc <;> (try rw [List.length_nil] at hc) <;> first | (exfalso; omega) | (exact absurd rfl hc) | conv => whnf) | (refine bcase_intro ?_ ?_ <;> intro hc <;> conv => whnf))
    all_goals exact again.mk ⟨_, by omega, i + 1, _, rfl, by omega, hs.symm, rfl, rfl⟩
  · rw [List.take_of_length_le (by omega)] at hz
    subst hz
    (conv => whnf); repeat' (first  | ((with_reducible first | apply kN | apply kW | apply kX | apply kG | apply kQ); (· exact sd); conv => whnf) | (refine pcase.mk ?_ ?_ <;> intro hc <;> (try rw [List.length_nil] at hc) <;> first | (exfalso; omega) | (exact absurd rfl hc) | conv => whnf) | (refine bcase_intro ?_ ?_ <;> intro hc <;> conv => whnf))
    rfl

theorem countP {L : List CN} {nn : Bool} {i : Nat} (hi : i < L.length) (hl : L.length < 2^62) (hu : ∀ j (h : j < L.length), j < i → (L[j]).name ≠ (L[i]).name) : PureP (findFn tab) 35 [.sl nn (vs CN.av L), .str (L[i]).name] (· = .int .i64 (L[i]).n) := by
  generalize hk : (L[i]).name = k at hu
  refine pureP_of rfl rfl ?_
  (conv => whnf); repeat' (first  | ((with_reducible first | apply kN | apply kW | apply kX | apply kG | apply kQ); (· exact sd); conv => whnf) | (refine pcase.mk ?_ ?_ <;> intro hc <;> (try rw [List.length_nil] at hc) <;> first | (exfalso; omega) | (exact absurd rfl hc) | conv => whnf) | (refine bcase_intro ?_ ?_ <;> intro hc <;> conv => whnf))
  refine loop_inv (fun m env s => ∃ j c : Nat, m = L.length - j ∧ j ≤ i ∧ env = [(1, .str k), (7, .sl nn (vs CN.av L)), (8, .int .i64 L.length), (9, .int .i64 j)] ∧ s = ⟨[], c⟩) ?_ _ _ _ ⟨0, _, rfl, by omega, by rw [← lV (f := CN.av) L]; rfl, rfl⟩
  rintro _ _ _ ⟨j, c, rfl, hj, rfl, rfl⟩
  refine ⟨rfl, ?_⟩
  have hjl : j < L.length := by omega
  by_cases he : j = i
  · subst he
    (conv => whnf); repeat' (first  | ((with_reducible first | apply kN | apply kW | apply kX | apply kG | apply kQ); (· exact sd); conv => whnf) | (refine pcase.mk ?_ ?_ <;> intro hc <;> (try rw [List.length_nil] at hc) <;> first | (exfalso; omega) | (exact absurd rfl hc) | conv => whnf) | (refine bcase_intro ?_ ?_ <;> intro hc <;> conv => whnf))
    · rfl
    · exact absurd hk hc
  · have hne := hu j hjl (by omega)
    (conv => whnf); repeat' (first  | ((with_reducible first | apply kN | apply kW | apply kX | apply kG | apply kQ); (· exact sd); conv => whnf) | (refine pcase.mk ?_ ?_ <;> intro hc <;> (try rw [List.length_nil] at hc) <;> first | (exfalso; omega) | (exact absurd rfl hc) | conv => whnf) | (refine bcase_intro ?_ ?_ <;> intro hc <;> conv => whnf))
    · exact absurd hc hne
    · exact again.mk ⟨_, by omega, j + 1, _, rfl, by omega, rfl, rfl⟩

theorem edgesP {L : List CN} {N E : Int} {la ty ou is : Bool} {A B C : List AV} {i : Nat} (hi : i < L.length) (hl : L.length < 2^62) (hu : ∀ j (h : j < L.length), j < i → (L[j]).name ≠ (L[i]).name) (hn : 0 ≤ (L[i]).n ∧ (L[i]).n ≤ 100000) :
    PureP (findFn tab) 16 [.agg [.int .i64 N, .int .i64 E, .sl la A, .sl ty (vs CN.av L), .sl ou B, .sl is C], .sl true [.str (L[i]).name]] (· = .int .i64 (L[i]).n) := by
  have hcnt := @countP L ty i hi hl hu
  generalize (L[i]).name = k at hcnt
  generalize (L[i]).n = z at hcnt hn
  change PureP _ _ [_, .sl true (vs .str [k])] _
  obtain ⟨ts, hts⟩ : ∃ ts : List (List UInt8), ts = [k] := ⟨_, rfl⟩
  have ht1 : ts.length = 1 := by rw [hts]; rfl
  have hk : ∀ h : 0 < ts.length, ts[0] = k := fun h => by subst hts; rfl
  rw [← hts]
  clear hts
  refine pureP_of rfl rfl ?_
  (conv => whnf); repeat' (first  | ((with_reducible first | apply kN | apply kW | apply kX | apply kG | apply kQ); (· exact sd); conv => whnf) | (refine pcase.mk ?_ ?_ <;> intro hc <;> (try rw [List.length_nil] at hc) <;> first | (exfalso; omega) | (exact absurd rfl hc) | conv => whnf) | (refine bcase_intro ?_ ?_ <;> intro hc <;> conv => whnf))
  refine loop_inv (fun m env s => ∃ (j c : Nat) (y : Int), m = 1 - j ∧ (j = 0 ∧ y = 0 ∨ j = 1 ∧ y = z) ∧ env = [(2, .ref 0 0 0 0), (5, .int .i64 y), (13, .sl true (vs .str ts)), (14, .int .i64 ts.length), (15, .int .i64 j)] ∧ s = ⟨[.arr 0 6 true true [.agg [.int .i64 N, .int .i64 E, .sl la A, .sl ty (vs CN.av L), .sl ou B, .sl is C]]], c⟩) ?_ _ _ _ ⟨0, _, 0, rfl, .inl ⟨rfl, rfl⟩, rfl, rfl⟩
  rintro _ _ _ ⟨j, c, y, rfl, ⟨rfl, rfl⟩ | ⟨rfl, rfl⟩, rfl, rfl⟩
  · refine ⟨rfl, ?_⟩
    have hk0 := hk (by omega)
    rw [← hk0] at hcnt
    (conv => whnf); repeat' (first | (refine callK_of hcnt ?_; rintro _ rfl; conv => whnf) | ((with_reducible first | apply kN | apply kW | apply kX | apply kG | apply kQ); (· exact sd); conv => whnf) | (refine pcase.mk ?_ ?_ <;> intro hc <;> (try rw [List.length_nil] at hc) <;> first | (exfalso; omega) | (exact absurd rfl hc) | conv => whnf) | (refine bcase_intro ?_ ?_ <;> intro hc <;> conv => whnf))
    exact again.mk ⟨_, by omega, 1, _, _, rfl, .inr ⟨rfl, by omega⟩, rfl, rfl⟩
  · refine ⟨rfl, ?_⟩
    (conv => whnf); repeat' (first  | ((with_reducible first | apply kN | apply kW | apply kX | apply kG | apply kQ); (· exact sd); conv => whnf) | (refine pcase.mk ?_ ?_ <;> intro hc <;> (try rw [List.length_nil] at hc) <;> first | (exfalso; omega) | (exact absurd rfl hc) | conv => whnf) | (refine bcase_intro ?_ ?_ <;> intro hc <;> conv => whnf))
    rfl

end AI
end Go.Proofs.YtokdbmakkoleiaaGreat
