/- The reference's null, lists of properties and labels. -/
import Derived.Test.YtnfdpfeeenmffaaGreatDoorDT1
import Derived.Test.YtnfdpfeeenmffaaGreatDoorNuR
set_option linter.unusedVariables false
set_option maxRecDepth 4000
namespace Go.Proofs.YtnfdpfeeenmffaaGreatDoor
namespace AI

theorem dec_iff' {p q : Prop} [Decidable p] [Decidable q] (h : p ↔ q) : AV.bool (decide p) = AV.bool (decide q) := by
  by_cases hp : p
  · rw [decide_eq_true hp, decide_eq_true (h.1 hp)]
  · rw [decide_eq_false hp, decide_eq_false (mt h.2 hp)]

theorem nullR {g : GV} (hg : g.ok) : PureP (findFn tab) 64 [g.av] (· = .bool (decide (isNull g))) := by
  refine pureP_of rfl rfl ?_
  (conv => whnf); repeat' (first | (refine callK_of (orderRN hg) ?_; rintro _ ⟨z, rfl, hz⟩; conv => whnf) | ((with_reducible first | apply kN | apply kW | apply kX | apply kG | apply kQ); (· exact sd); conv => whnf) | (refine pcase.mk ?_ ?_ <;> intro hc <;> (try rw [List.length_nil] at hc) <;> first | (exfalso; omega) | (exact absurd rfl hc) | conv => whnf) | (refine bcase_intro ?_ ?_ <;> intro hc <;> conv => whnf))
  all_goals first | exact bool_t (hz.1 hc) | exact bool_f (mt hz.2 hc) | exact dec_iff' hz

theorem or_snocP {α : Type} {l : List α} {n x : α} {N : List α} (h : ∀ y ∈ l, y = n ∨ y ∈ N) (hx : x = n ∨ x ∈ N) : ∀ y ∈ l ++ [x], y = n ∨ y ∈ N := by
  intro y hy
  rcases List.mem_append.1 hy with hy | hy
  · exact h y hy
  · obtain rfl := List.mem_singleton.1 hy; exact hx

/-- properties with one set -/
theorem setPropR {P : List GP} {nn : Bool} {key : List UInt8} {v : GV} (hP : P.length ≤ 100000) (hv : v.ok) : PureP (findFn tab) 66 [.sl nn (vs GP.av P), .str key, v.av] (fun w => ∃ b r ok, w = .tup [.sl b (vs GP.av r), .bool ok] ∧ (b = false → r = []) ∧ (ok = true → r.length ≤ 16) ∧ ∀ p ∈ r, p = ⟨key, v⟩ ∨ p ∈ P) := by
  obtain ⟨b0, h0⟩ : ∃ b0, PureP (findFn tab) 64 [v.av] (· = .bool b0) := ⟨_, nullR hv⟩
  refine pureP_of rfl rfl ?_
  (conv => whnf); repeat' (first  | ((with_reducible first | apply kN | apply kW | apply kX | apply kG | apply kQ); (· exact sd); conv => whnf) | (refine pcase.mk ?_ ?_ <;> intro hc <;> (try rw [List.length_nil] at hc) <;> first | (exfalso; omega) | (exact absurd rfl hc) | conv => whnf) | (refine bcase_intro ?_ ?_ <;> intro hc <;> conv => whnf))
  refine loop_inv (fun m env s => ∃ (i c go k : Nat) (b d : Bool) (r : List GP), m = P.length - i ∧ i ≤ P.length ∧ k = r.length ∧ r.length ≤ 2 * i ∧ (b = false → r = []) ∧ (∀ p ∈ r, p = ⟨key, v⟩ ∨ p ∈ P) ∧ env = [(0, .sl nn (vs GP.av P)), (1, .str key), (5, .ref 0 0 0 0), (8, .own 1 go 0 k), (9, .bool d), (10, .int .i64 i)] ∧ s = ⟨[.arr 0 5 true true [v.av], .arr go 6 b true (vs GP.av r)], c⟩) ?_ _ _ _ ⟨0, _, _, 0, _, _, [], rfl, by omega, rfl, by simp, fun _ => rfl, by simp, rfl, rfl⟩
  rintro _ _ _ ⟨i, c, go, k, b, d, r, rfl, hi, hk, hr, hb, hx, rfl, rfl⟩
  refine ⟨rfl, ?_⟩
  subst hk
  by_cases hlt : i < P.length
  · have hPi : P[i] ∈ P := List.getElem_mem hlt
    cases d <;> cases b0
    all_goals
      (conv => whnf); repeat' (first | (refine callK_of h0 ?_; rintro _ rfl; conv => whnf) | (refine apV1 (x := (⟨key, v⟩ : GP)) cellsP (by simp) (by simp; omega) ?_; conv => whnf) | (refine apV1 (x := P[i]) cellsP (by simp) (by simp; omega) ?_; conv => whnf) | ((with_reducible first | apply kN | apply kW | apply kX | apply kG | apply kQ); (· exact sd); conv => whnf) | (refine pcase.mk ?_ ?_ <;> intro hc <;> (try rw [List.length_nil] at hc) <;> first | (exfalso; omega) | (exact absurd rfl hc) | conv => whnf) | (refine bcase_intro ?_ ?_ <;> intro hc <;> conv => whnf))
    all_goals first
      | exact again.mk ⟨_, by omega, i + 1, _, _, _, _, _, r ++ [⟨key, v⟩] ++ [P[i]], rfl, by omega, by simp, by simp; omega, fun h => Bool.noConfusion h, or_snocP (or_snocP hx (.inl rfl)) (.inr hPi), rfl, rfl⟩
      | exact again.mk ⟨_, by omega, i + 1, _, _, _, _, _, r ++ [⟨key, v⟩], rfl, by omega, by simp, by simp; omega, fun h => Bool.noConfusion h, or_snocP hx (.inl rfl), rfl, rfl⟩
      | exact again.mk ⟨_, by omega, i + 1, _, _, _, _, _, r ++ [P[i]], rfl, by omega, by simp, by simp; omega, fun h => Bool.noConfusion h, or_snocP hx (.inr hPi), rfl, rfl⟩
      | exact again.mk ⟨_, by omega, i + 1, _, _, _, _, _, r, rfl, by omega, rfl, by omega, hb, hx, rfl, rfl⟩
      | trace_state
  · cases d <;> cases b0
    all_goals
      (conv => whnf); repeat' (first | (refine callK_of h0 ?_; rintro _ rfl; conv => whnf) | (refine apV1 (x := (⟨key, v⟩ : GP)) cellsP (by simp) (by simp; omega) ?_; conv => whnf) | ((with_reducible first | apply kN | apply kW | apply kX | apply kG | apply kQ); (· exact sd); conv => whnf) | (refine pcase.mk ?_ ?_ <;> intro hc <;> (try rw [List.length_nil] at hc) <;> first | (exfalso; omega) | (exact absurd rfl hc) | conv => whnf) | (refine bcase_intro ?_ ?_ <;> intro hc <;> conv => whnf))
    all_goals first
      | exact ⟨b, r, _, rfl, hb, fun _ => by omega, hx⟩
      | exact ⟨b, r, _, rfl, hb, fun h => Bool.noConfusion h, hx⟩
      | exact ⟨true, r ++ [⟨key, v⟩], _, rfl, fun h => Bool.noConfusion h, fun _ => by simp; omega, or_snocP hx (.inl rfl)⟩
      | exact ⟨true, r ++ [⟨key, v⟩], _, rfl, fun h => Bool.noConfusion h, fun h => Bool.noConfusion h, or_snocP hx (.inl rfl)⟩
      | trace_state


end AI
end Go.Proofs.YtnfdpfeeenmffaaGreatDoor
