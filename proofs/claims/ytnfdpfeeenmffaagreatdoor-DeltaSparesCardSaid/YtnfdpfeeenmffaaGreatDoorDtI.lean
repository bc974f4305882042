/- The ids that changes name: the program's Touched. -/
import Derived.Test.YtnfdpfeeenmffaaGreatDoorDT1
import Derived.Test.YtnfdpfeeenmffaaGreatDoorPI2
import Derived.Test.YtnfdpfeeenmffaaGreatDoorPJ2
set_option linter.unusedVariables false
set_option maxRecDepth 4000
namespace Go.Proofs.YtnfdpfeeenmffaaGreatDoor
namespace AI
open Go.Sort

theorem tN_1 {c : GC} (h : 1 ≤ c.op ∧ c.op ≤ 5) : tN c = [c.id] := by unfold tN; rw [if_pos h, if_neg (by omega)]; rfl
theorem tN_6 {c : GC} (h : c.op = 6) : tN c = [c.fr, c.to] := by unfold tN; rw [if_neg (by omega), if_pos h]; rfl
theorem tN_o {c : GC} (h : ¬ (1 ≤ c.op ∧ c.op ≤ 5)) (h6 : c.op ≠ 6) : tN c = [] := by unfold tN; rw [if_neg h, if_neg h6]; rfl
theorem tE_y {c : GC} (h : 6 ≤ c.op ∧ c.op ≤ 8) : tE c = [c.id] := by unfold tE; rw [if_pos (by omega)]
theorem tE_n {c : GC} (h : ¬ (6 ≤ c.op ∧ c.op ≤ 8)) : tE c = [] := by unfold tE; rw [if_neg (by omega)]

theorem mem_cpnI {W : List Int} {x : Int} : x ∈ cpn W.toArray W.length ↔ x ∈ W := by
  rw [mem_cpn W.length (by simp)]; simp

set_option maxHeartbeats 4000000 in
theorem touchedP {L : List GC} {nn : Bool} (hL : L.length ≤ 1000) : PureP (findFn tab) 8 [.sl nn (vs GC.av L)] (fun v => ∃ b1 R1 b2 R2, v = .tup [.sl b1 (vs (.int .i64) R1), .sl b2 (vs (.int .i64) R2)] ∧ R1.length ≤ 2 * L.length ∧ R2.length ≤ L.length ∧ (∀ x, x ∈ R1 ↔ x ∈ L.flatMap tN) ∧ ∀ x, x ∈ R2 ↔ x ∈ L.flatMap tE) := by
  refine pureP_of rfl rfl ?_
  (conv => whnf); repeat' (first  | ((with_reducible first | apply kN | apply kW | apply kX | apply kG | apply kQ); (· exact sd); conv => whnf) | (refine pcase.mk ?_ ?_ <;> intro hc <;> (try rw [List.length_nil] at hc) <;> first | (exfalso; omega) | (exact absurd rfl hc) | conv => whnf) | (refine bcase_intro ?_ ?_ <;> intro hc <;> conv => whnf))
  refine loop_inv (fun z env s => ∃ (i c ga gb n m : Nat) (fa fb : Bool) (A B : List Int), z = L.length - i ∧ i ≤ L.length ∧ A = (L.take i).flatMap tN ∧ B = (L.take i).flatMap tE ∧ n = A.length ∧ m = B.length ∧ A.length ≤ 2 * i ∧ B.length ≤ i ∧ env = [(2, .own 0 ga 0 n), (3, .own 1 gb 0 m), (6, .sl nn (vs GC.av L)), (7, .int .i64 L.length), (8, .int .i64 i)] ∧ s = ⟨[.arr ga 1 fa true (vs (.int .i64) A), .arr gb 1 fb true (vs (.int .i64) B)], c⟩) ?_ _ _ _ ⟨0, _, _, _, _, _, _, _, [], [], rfl, by omega, rfl, rfl, rfl, rfl, by simp, by simp, by first | rfl | (rw [← lV (f := GC.av) L]; rfl), rfl⟩
  rintro _ _ _ ⟨i, c, ga, gb, n, m, fa, fb, A, B, rfl, hi, hA, hB, hn, hm, hAl, hBl, rfl, rfl⟩
  refine ⟨rfl, ?_⟩
  by_cases hlt : i < L.length
  · have hsA := fm_succ (f := tN) hlt
    have hsB := fm_succ (f := tE) hlt
    rw [← hA] at hsA
    rw [← hB] at hsB
    by_cases h1 : 1 ≤ (L[i]).op ∧ (L[i]).op ≤ 5
    · rw [tN_1 h1] at hsA
      rw [tE_n (by omega), List.append_nil] at hsB
      obtain ⟨h1, h2⟩ := h1
      (conv => whnf); repeat' (first | (refine apV1 (f := .int .i64) (l := A) (x := (L[i]).id) cellsI hn (by omega) ?_; conv => whnf) | ((with_reducible first | apply kN | apply kW | apply kX | apply kG | apply kQ); (· exact sd); conv => whnf) | (refine pcase.mk ?_ ?_ <;> intro hc <;> (try rw [List.length_nil] at hc) <;> first | (exfalso; omega) | (exact absurd rfl hc) | conv => whnf) | (refine bcase_intro ?_ ?_ <;> intro hc <;> conv => whnf))
      all_goals first
        | (exfalso; omega)
        | exact again.mk ⟨_, by omega, i + 1, _, _, _, _, _, _, _, A ++ [(L[i]).id], B, rfl, by omega, hsA.symm, hsB.symm, by simp, hm, by simp; omega, by omega, rfl, rfl⟩
        | (trace_state; fail "touched1")
    · by_cases h6 : (L[i]).op = 6
      · rw [tN_6 h6] at hsA
        rw [tE_y (by omega)] at hsB
        (conv => whnf); repeat' (first | (refine apV1 (f := .int .i64) (l := B) (x := (L[i]).id) cellsI hm (by omega) ?_; conv => whnf) | (refine apVm (f := .int .i64) (l := A) (l' := [(L[i]).fr, (L[i]).to]) rfl cellsI hn (by simp; omega) (fun b => ?_); conv => whnf) | ((with_reducible first | apply kN | apply kW | apply kX | apply kG | apply kQ); (· exact sd); conv => whnf) | (refine pcase.mk ?_ ?_ <;> intro hc <;> (try rw [List.length_nil] at hc) <;> first | (exfalso; omega) | (exact absurd rfl hc) | conv => whnf) | (refine bcase_intro ?_ ?_ <;> intro hc <;> conv => whnf))
        all_goals first
          | (exfalso; omega)
          | exact again.mk ⟨_, by omega, i + 1, _, _, _, _, _, _, _, A ++ [(L[i]).fr, (L[i]).to], B ++ [(L[i]).id], rfl, by omega, hsA.symm, hsB.symm, by simp, by simp, by simp; omega, by simp; omega, rfl, rfl⟩
          | (trace_state; fail "touched2")
      · rw [tN_o h1 h6, List.append_nil] at hsA
        by_cases h7 : 6 ≤ (L[i]).op ∧ (L[i]).op ≤ 8
        · rw [tE_y h7] at hsB
          (conv => whnf); repeat' (first | (refine apV1 (f := .int .i64) (l := B) (x := (L[i]).id) cellsI hm (by omega) ?_; conv => whnf) | ((with_reducible first | apply kN | apply kW | apply kX | apply kG | apply kQ); (· exact sd); conv => whnf) | (refine pcase.mk ?_ ?_ <;> intro hc <;> (try rw [List.length_nil] at hc) <;> first | (exfalso; omega) | (exact absurd rfl hc) | conv => whnf) | (refine bcase_intro ?_ ?_ <;> intro hc <;> conv => whnf))
          all_goals first
            | (exfalso; omega)
            | exact again.mk ⟨_, by omega, i + 1, _, _, _, _, _, _, _, A, B ++ [(L[i]).id], rfl, by omega, hsA.symm, hsB.symm, hn, by simp, by omega, by simp; omega, rfl, rfl⟩
            | (trace_state; fail "touched3")
        · rw [tE_n h7, List.append_nil] at hsB
          (conv => whnf); repeat' (first  | ((with_reducible first | apply kN | apply kW | apply kX | apply kG | apply kQ); (· exact sd); conv => whnf) | (refine pcase.mk ?_ ?_ <;> intro hc <;> (try rw [List.length_nil] at hc) <;> first | (exfalso; omega) | (exact absurd rfl hc) | conv => whnf) | (refine bcase_intro ?_ ?_ <;> intro hc <;> conv => whnf))
          all_goals first
            | (exfalso; omega)
            | exact again.mk ⟨_, by omega, i + 1, _, _, _, _, _, _, _, A, B, rfl, by omega, hsA.symm, hsB.symm, hn, hm, by omega, by omega, rfl, rfl⟩
            | (trace_state; fail "touched4")
  · rw [List.take_of_length_le (by omega)] at hA hB
    have e1 : A.length ≤ 2 * L.length := by omega
    have e2 : B.length ≤ L.length := by omega
    clear hAl hBl
    (conv => whnf); repeat' (first  | ((with_reducible first | apply kN | apply kW | apply kX | apply kG | apply kQ); (· exact sd); conv => whnf) | (refine pcase.mk ?_ ?_ <;> intro hc <;> (try rw [List.length_nil] at hc) <;> first | (exfalso; omega) | (exact absurd rfl hc) | conv => whnf) | (refine bcase_intro ?_ ?_ <;> intro hc <;> conv => whnf))
    refine (pisort (L := A) hn.symm (by omega)).mono ?_
    rintro _ _ ⟨c1, W, rfl, rfl, p1, p2⟩
    have hw := p1.length_eq
    conv => whnf
    apply getK_intro rfl
    (conv => whnf); repeat' (first  | ((with_reducible first | apply kN | apply kW | apply kX | apply kG | apply kQ); (· exact sd); conv => whnf) | (refine pcase.mk ?_ ?_ <;> intro hc <;> (try rw [List.length_nil] at hc) <;> first | (exfalso; omega) | (exact absurd rfl hc) | conv => whnf) | (refine bcase_intro ?_ ?_ <;> intro hc <;> conv => whnf))
    refine (pjsort (L := B) hm.symm (by omega)).mono ?_
    rintro _ _ ⟨c2, V, rfl, rfl, r1, r2⟩
    have hv := r1.length_eq
    conv => whnf
    apply getK_intro rfl
    (conv => whnf); repeat' (first  | ((with_reducible first | apply kN | apply kW | apply kX | apply kG | apply kQ); (· exact sd); conv => whnf) | (refine pcase.mk ?_ ?_ <;> intro hc <;> (try rw [List.length_nil] at hc) <;> first | (exfalso; omega) | (exact absurd rfl hc) | conv => whnf) | (refine bcase_intro ?_ ?_ <;> intro hc <;> conv => whnf))
    refine (picpt (d := W.toArray) (by simp; omega) (by omega)).mono ?_
    rintro _ _ ⟨c3, T, rfl, rfl⟩
    rw [show n = W.length by omega]
    conv => whnf
    apply getK_intro rfl
    (conv => whnf); repeat' (first  | ((with_reducible first | apply kN | apply kW | apply kX | apply kG | apply kQ); (· exact sd); conv => whnf) | (refine pcase.mk ?_ ?_ <;> intro hc <;> (try rw [List.length_nil] at hc) <;> first | (exfalso; omega) | (exact absurd rfl hc) | conv => whnf) | (refine bcase_intro ?_ ?_ <;> intro hc <;> conv => whnf))
    refine (pjcpt (d := V.toArray) (by simp; omega) (by omega)).mono ?_
    rintro _ _ ⟨c4, U, rfl, rfl⟩
    rw [show m = V.length by omega]
    conv => whnf
    apply getK_intro rfl
    (conv => whnf); repeat' (first  | ((with_reducible first | apply kN | apply kW | apply kX | apply kG | apply kQ); (· exact sd); conv => whnf) | (refine pcase.mk ?_ ?_ <;> intro hc <;> (try rw [List.length_nil] at hc) <;> first | (exfalso; omega) | (exact absurd rfl hc) | conv => whnf) | (refine bcase_intro ?_ ?_ <;> intro hc <;> conv => whnf))
    have l1 := cpn_len W.toArray W.length
    have l2 := cpn_len V.toArray V.length
    refine ⟨fa, cpn W.toArray W.length, fb, cpn V.toArray V.length, ?_, by omega, by omega, fun x => ?_, fun x => ?_⟩
    · rw [sub_vs, sub_vs]; simp
    · rw [mem_cpnI, p1.mem_iff, hA]
    · rw [mem_cpnI, r1.mem_iff, hB]

end AI
end Go.Proofs.YtnfdpfeeenmffaaGreatDoor
