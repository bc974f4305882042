/- The order of values: the reference's walks. -/
import Derived.Test.YtkknpgebiihkfaaGreatDoorNuR
import Derived.Test.YtkknpgebiihkfaaGreatDoorVoB
set_option linter.unusedVariables false
set_option maxRecDepth 4000
namespace Go.Proofs.YtkknpgebiihkfaaGreatDoor
namespace AI
open Go.Sort

theorem intsRc {a b : Int} : PureP (findFn tab) 83 [.int .i64 a, .int .i64 b] (· = .int .i64 (cmpI a b)) := by
  refine pureP_of rfl rfl ?_
  (conv => whnf); repeat' (first  | ((with_reducible first | apply kN | apply kW | apply kX | apply kG | apply kQ); (· exact sd); conv => whnf) | (refine pcase.mk ?_ ?_ <;> intro hc <;> (try rw [List.length_nil] at hc) <;> first | (exfalso; omega) | (exact absurd rfl hc) | conv => whnf) | (refine bcase_intro ?_ ?_ <;> intro hc <;> conv => whnf))
  all_goals exact congrArg (AV.int .i64) (by unfold cmpI; repeat' split
                                             all_goals omega)
theorem strsRc {x y : List UInt8} : PureP (findFn tab) 115 [.str x, .str y] (· = .int .i64 (cS x y)) := by
  refine pureP_of rfl rfl ?_
  (conv => whnf); repeat' (first  | ((with_reducible first | apply kN | apply kW | apply kX | apply kG | apply kQ); (· exact sd); conv => whnf) | (refine pcase.mk ?_ ?_ <;> intro hc <;> (try rw [List.length_nil] at hc) <;> first | (exfalso; omega) | (exact absurd rfl hc) | conv => whnf) | (refine bcase_intro ?_ ?_ <;> intro hc <;> conv => whnf))
  all_goals first | exact cS_lt hc | exact cS_eq (by assumption) hc | exact cS_gt hc | (trace_state; fail "strsRc")

theorem listsRc {c : AV → AV → Int} {l l' : List AV} {nn nn' : Bool} (hl : l.length < 2^63) (hl' : l'.length < 2^63) (hel : ∀ i (h : i < l.length) (h' : i < l'.length), ElP 53 c l[i] l'[i]) :
    PureP (findFn tab) 116 [.sl nn l, .sl nn' l'] (· = .int .i64 (cmpLs c l l')) := by
  refine pureP_of rfl rfl ?_
  (conv => whnf); repeat' (first  | ((with_reducible first | apply kN | apply kW | apply kX | apply kG | apply kQ); (· exact sd); conv => whnf) | (refine pcase.mk ?_ ?_ <;> intro hc <;> (try rw [List.length_nil] at hc) <;> first | (exfalso; omega) | (exact absurd rfl hc) | conv => whnf) | (refine bcase_intro ?_ ?_ <;> intro hc <;> conv => whnf))
  refine loop_inv (fun m env s => ∃ i k : Nat, m = l.length - i ∧ i ≤ l.length ∧ i ≤ l'.length ∧ cmpLs c (l.drop i) (l'.drop i) = cmpLs c l l' ∧ env = [(0, .sl nn l), (1, .sl nn' l'), (5, .int .i64 i)] ∧ s = ⟨[], k⟩) ?_ _ _ _ ⟨0, _, rfl, by omega, by omega, by simp, rfl, rfl⟩
  rintro _ _ _ ⟨i, k, rfl, hi, hj, hc0, rfl, rfl⟩
  refine ⟨rfl, ?_⟩
  have hfin : (¬ i < l.length ∨ ¬ i < l'.length) → cmpI l.length l'.length = cmpLs c l l' := fun h => by
    rw [← hc0]
    by_cases h1 : i < l.length
    · have e2 : l'.drop i = [] := List.drop_eq_nil_of_le (by omega)
      rw [List.drop_eq_getElem_cons h1, e2, cmpLs]
      unfold cmpI; repeat' split
      all_goals omega
    · have e1 : l.drop i = [] := List.drop_eq_nil_of_le (by omega)
      rw [e1]
      by_cases h2 : i < l'.length
      · rw [List.drop_eq_getElem_cons h2, cmpLs]
        unfold cmpI; repeat' split
        all_goals omega
      · have e2 : l'.drop i = [] := List.drop_eq_nil_of_le (by omega)
        rw [e2, cmpLs]
        unfold cmpI; repeat' split
        all_goals omega
  have hin : PureP (findFn tab) 83 [.int .i64 l.length, .int .i64 l'.length] (· = .int .i64 (cmpI l.length l'.length)) := intsRc
  by_cases hlt : i < l.length
  · by_cases hly : i < l'.length
    · rw [cmpLs_step hlt hly] at hc0
      obtain ⟨gx, gy, e1, e2, hp⟩ := hel i hlt hly
      have n1 : nth l (Int.toNat (Nat.cast i)) = some gx.av := by rw [← e1]; exact nRN hlt
      have n2 : nth l' (Int.toNat (Nat.cast i)) = some gy.av := by rw [← e2]; exact nRN hly
      generalize c l[i] l'[i] = z at *
      unfold fst0 at hc0
      clear hfin hin
      (conv => whnf); repeat' (first | (apply nthK_intro; (· exact n1); conv => whnf) | (apply nthK_intro; (· exact n2); conv => whnf) | (refine callK_of hp ?_; rintro _ rfl; conv => whnf) | ((with_reducible first | apply kN | apply kW | apply kX | apply kG | apply kQ); (· exact sd); conv => whnf) | (refine pcase.mk ?_ ?_ <;> intro hc <;> (try rw [List.length_nil] at hc) <;> first | (exfalso; omega) | (exact absurd rfl hc) | conv => whnf) | (refine bcase_intro ?_ ?_ <;> intro hc <;> conv => whnf))
      all_goals first
        | (rw [if_neg (by assumption)] at hc0; rw [← hc0]; rfl)
        | (rw [if_pos (by assumption)] at hc0; exact again.mk ⟨_, by omega, i + 1, _, rfl, by omega, by omega, hc0, rfl, rfl⟩)
        | (exfalso; omega)
        | (trace_state; fail "listsR1")
    · rw [hfin (.inr hly)] at hin
      (conv => whnf); repeat' (first | (refine callK_of hin ?_; rintro _ rfl; conv => whnf) | ((with_reducible first | apply kN | apply kW | apply kX | apply kG | apply kQ); (· exact sd); conv => whnf) | (refine pcase.mk ?_ ?_ <;> intro hc <;> (try rw [List.length_nil] at hc) <;> first | (exfalso; omega) | (exact absurd rfl hc) | conv => whnf) | (refine bcase_intro ?_ ?_ <;> intro hc <;> conv => whnf))
      all_goals first | rfl | (exfalso; omega) | (trace_state; fail "listsR2")
  · rw [hfin (.inl hlt)] at hin
    (conv => whnf); repeat' (first | (refine callK_of hin ?_; rintro _ rfl; conv => whnf) | ((with_reducible first | apply kN | apply kW | apply kX | apply kG | apply kQ); (· exact sd); conv => whnf) | (refine pcase.mk ?_ ?_ <;> intro hc <;> (try rw [List.length_nil] at hc) <;> first | (exfalso; omega) | (exact absurd rfl hc) | conv => whnf) | (refine bcase_intro ?_ ?_ <;> intro hc <;> conv => whnf))
    all_goals first | rfl | (exfalso; omega) | (trace_state; fail "listsR3")

/-- all fields -/
theorem fieldsRc {a b : GV} {L : Int} (hL : PureP (findFn tab) 116 [.sl a.nn a.l, .sl b.nn b.l] (· = .int .i64 L)) :
    PureP (findFn tab) 82 [a.av, b.av] (· = .int .i64 (fst0 (cmpI a.k b.k) (fst0 (cmpI a.n b.n) (fst0 (cmpI a.d b.d) (fst0 (cS a.s b.s) L))))) := by
  have q1 : PureP (findFn tab) 83 [.int .i64 a.k, .int .i64 b.k] (· = .int .i64 (cmpI a.k b.k)) := intsRc
  have q2 : PureP (findFn tab) 83 [.int .i64 a.n, .int .i64 b.n] (· = .int .i64 (cmpI a.n b.n)) := intsRc
  have q3 : PureP (findFn tab) 83 [.int .i64 a.d, .int .i64 b.d] (· = .int .i64 (cmpI a.d b.d)) := intsRc
  have q4 := strsRc (x := a.s) (y := b.s)
  generalize cmpI a.k b.k = z1 at *
  generalize cmpI a.n b.n = z2 at *
  generalize cmpI a.d b.d = z3 at *
  generalize cS a.s b.s = z4 at *
  have e : ∀ x y : Int, x = y → AV.int .i64 x = .int .i64 y := fun x y h => by rw [h]
  refine pureP_of rfl rfl ?_
  (conv => whnf); repeat' (first | (refine callK_of q1 ?_; rintro _ rfl; conv => whnf) | (refine callK_of q2 ?_; rintro _ rfl; conv => whnf) | (refine callK_of q3 ?_; rintro _ rfl; conv => whnf) | (refine callK_of q4 ?_; rintro _ rfl; conv => whnf) | (refine callK_of hL ?_; rintro _ rfl; conv => whnf) | ((with_reducible first | apply kN | apply kW | apply kX | apply kG | apply kQ); (· exact sd); conv => whnf) | (refine pcase.mk ?_ ?_ <;> intro hc <;> (try rw [List.length_nil] at hc) <;> first | (exfalso; omega) | (exact absurd rfl hc) | conv => whnf) | (refine bcase_intro ?_ ?_ <;> intro hc <;> conv => whnf))
  all_goals first
    | exact e _ _ (by rw [fst0_n (by assumption)])
    | exact e _ _ (by unfold fst0; repeat' split
                      all_goals omega)
    | (trace_state; fail "fieldsRc")

theorem kinds_le {a : GV} (h : VV 8 a) : 0 ≤ a.k ∧ a.k ≤ 8 := by
  by_cases h7 : a.k = 7
  · omega
  · by_cases h8 : a.k = 8
    · omega
    · rw [VV_b h7 h8] at h
      obtain ⟨_, h⟩ := h
      omega
theorem cls_iso {k k' : Int} (h : 0 ≤ k ∧ k ≤ 8) (h' : 0 ≤ k' ∧ k' ≤ 8) : cmpI (clsR k) (clsR k') = cmpI (clsP k) (clsP k') := by
  have h1 : k = 0 ∨ k = 1 ∨ k = 2 ∨ k = 3 ∨ k = 4 ∨ k = 5 ∨ k = 6 ∨ k = 7 ∨ k = 8 := by omega
  have h2 : k' = 0 ∨ k' = 1 ∨ k' = 2 ∨ k' = 3 ∨ k' = 4 ∨ k' = 5 ∨ k' = 6 ∨ k' = 7 ∨ k' = 8 := by omega
  rcases h1 with rfl | rfl | rfl | rfl | rfl | rfl | rfl | rfl | rfl <;> rcases h2 with rfl | rfl | rfl | rfl | rfl | rfl | rfl | rfl | rfl <;> decide
/-- what a valid value that is no number has in its fields -/
theorem plainF {a : GV} (h : VV 8 a) (h2 : ¬ clsP a.k = 2) : a.d = 0 ∧ (a.k = 4 → a.n = 0) ∧ (a.k ≠ 4 → a.s = []) := by
  rw [cls2] at h2
  by_cases h7 : a.k = 7
  · have := (VV_7 h7).1 h
    exact ⟨this.2.1, fun h => by omega, fun _ => this.2.2.1⟩
  · by_cases h8 : a.k = 8
    · have := (VV_8 (m := 7) h8).1 h
      exact ⟨this.2.1, fun h => by omega, fun _ => this.2.2.1⟩
    · obtain ⟨k1, k2⟩ := kindR h h7 h8
      rw [VV_b h7 h8] at h
      obtain ⟨_, h⟩ := h
      refine ⟨?_, k1, k2⟩
      rcases h with h | h | h | h | h | h <;> first | exact h.2.2.1 | exact h.2.2.2.1 | (exfalso; omega)

set_option maxHeartbeats 1000000 in
theorem orderVR : ∀ (m : Nat) {a b : GV}, a.ok → b.ok → dep m a → dep m b → PureP (findFn tab) 53 [a.av, b.av] (· = .int .i64 (cmpV m a b))
  | 0, a, b, ha, hb, da, db => absurd da id
  | m + 1, a, b, ha, hb, da, db => by
    unfold cmpV
    by_cases va : VV 8 a
    · have p1 := vR ha va
      rw [if_pos va]
      by_cases vb : VV 8 b
      · have p2 := vR hb vb
        rw [if_pos vb]
        have k1 := classR (k := a.k)
        have k2 := classR (k := b.k)
        have k3 : PureP (findFn tab) 83 [.int .i64 (clsR a.k), .int .i64 (clsR b.k)] (· = .int .i64 (cmpI (clsP a.k) (clsP b.k))) := by
          rw [← cls_iso (kinds_le va) (kinds_le vb)]; exact intsRc
        unfold ordS
        by_cases h0 : cmpI (clsP a.k) (clsP b.k) = 0
        · rw [h0, fst0_z]
          rw [h0] at k3
          have he := cmpI_zero.1 h0
          by_cases h2 : clsP a.k = 2
          · rw [if_pos h2]
            have na : isNm a := ⟨va, cls2.1 h2⟩
            have nb : isNm b := ⟨vb, cls2.1 (by omega)⟩
            have q1 := nR1 ha na
            have q2 := nR1 hb nb
            have q3 := cmpR3 (isNm_VF na) (isNm_VF nb)
            unfold fracC
            rw [isNm_pd na, isNm_pd nb]
            refine pureP_of rfl rfl ?_
            (conv => whnf); repeat' (first | (refine callK_of p1 ?_; rintro _ rfl; conv => whnf) | (refine callK_of p2 ?_; rintro _ rfl; conv => whnf) | (refine callK_of k1 ?_; rintro _ rfl; conv => whnf) | (refine callK_of k2 ?_; rintro _ rfl; conv => whnf) | (refine callK_of k3 ?_; rintro _ rfl; conv => whnf) | (refine callK_of q1 ?_; rintro _ rfl; conv => whnf) | (refine callK_of q2 ?_; rintro _ rfl; conv => whnf) | (refine callK_of q3 ?_; rintro _ rfl; conv => whnf) | ((with_reducible first | apply kN | apply kW | apply kX | apply kG | apply kQ); (· exact sd); conv => whnf) | (refine pcase.mk ?_ ?_ <;> intro hc <;> (try rw [List.length_nil] at hc) <;> first | (exfalso; omega) | (exact absurd rfl hc) | conv => whnf) | (refine bcase_intro ?_ ?_ <;> intro hc <;> conv => whnf))
            all_goals first | rfl | (exfalso; omega) | (trace_state; fail "orderR1")
          · rw [if_neg h2]
            have na : ¬ isNm a := fun h => h2 (cls2.2 h.2)
            have nb : ¬ isNm b := fun h => h2 (by rw [he]; exact cls2.2 h.2)
            have q1 := nR0 ha na
            have q2 := nR0 hb nb
            have hkk : a.k = b.k := by
              have := kinds_le va
              have := kinds_le vb
              rw [cls2] at h2
              unfold clsP at he
              repeat' split at he
              all_goals omega
            obtain ⟨f1, f2, f3⟩ := plainF va h2
            obtain ⟨g1, g2, g3⟩ := plainF vb (by rw [← he]; exact h2)
            have q3 := fieldsRc (a := a) (b := b) (listsRc (c := fun x y => ordS m (gvOf x) (gvOf y)) (nn := a.nn) (nn' := b.nn) (okN ha) (okN hb) (fun i hi hi' => by
              obtain ⟨g, e1, g1, g2⟩ := dep_at da hi
              obtain ⟨h, e2, h1, h2⟩ := dep_at db hi'
              refine ⟨g, h, e1, e2, ?_⟩
              rw [e1, e2]
              have := orderVR m g1 h1 g2 h2
              have e : cmpV m g h = ordS m g h := by
                cases m with
                | zero => exact absurd g2 id
                | succ m => unfold cmpV; rw [if_pos (elemV va hi e1), if_pos (elemV vb hi' e2)]
              rw [e] at this
              exact this))
            have e : fst0 (cmpI a.k b.k) (fst0 (cmpI a.n b.n) (fst0 (cmpI a.d b.d) (fst0 (cS a.s b.s) (cmpLs (fun x y => ordS m (gvOf x) (gvOf y)) a.l b.l)))) = fst0 (cS a.s b.s) (fst0 (cmpI a.n b.n) (cmpLs (fun x y => ordS m (gvOf x) (gvOf y)) a.l b.l)) := by
              rw [cmpI_zero.2 hkk, fst0_z, f1, g1, cmpI_zero.2 rfl, fst0_z]
              by_cases h4 : a.k = 4
              · rw [f2 h4, g2 (by omega), cmpI_zero.2 rfl, fst0_z, fst0_z]
              · rw [f3 h4, g3 (by omega), cS_zero.2 rfl, fst0_z, fst0_z]
            rw [e] at q3
            refine pureP_of rfl rfl ?_
            (conv => whnf); repeat' (first | (refine callK_of p1 ?_; rintro _ rfl; conv => whnf) | (refine callK_of p2 ?_; rintro _ rfl; conv => whnf) | (refine callK_of k1 ?_; rintro _ rfl; conv => whnf) | (refine callK_of k2 ?_; rintro _ rfl; conv => whnf) | (refine callK_of k3 ?_; rintro _ rfl; conv => whnf) | (refine callK_of q1 ?_; rintro _ rfl; conv => whnf) | (refine callK_of q2 ?_; rintro _ rfl; conv => whnf) | (refine callK_of q3 ?_; rintro _ rfl; conv => whnf) | ((with_reducible first | apply kN | apply kW | apply kX | apply kG | apply kQ); (· exact sd); conv => whnf) | (refine pcase.mk ?_ ?_ <;> intro hc <;> (try rw [List.length_nil] at hc) <;> first | (exfalso; omega) | (exact absurd rfl hc) | conv => whnf) | (refine bcase_intro ?_ ?_ <;> intro hc <;> conv => whnf))
            all_goals first | rfl | (exfalso; omega) | (trace_state; fail "orderR2")
        · rw [fst0_n h0]
          refine pureP_of rfl rfl ?_
          (conv => whnf); repeat' (first | (refine callK_of p1 ?_; rintro _ rfl; conv => whnf) | (refine callK_of p2 ?_; rintro _ rfl; conv => whnf) | (refine callK_of k1 ?_; rintro _ rfl; conv => whnf) | (refine callK_of k2 ?_; rintro _ rfl; conv => whnf) | (refine callK_of k3 ?_; rintro _ rfl; conv => whnf) | ((with_reducible first | apply kN | apply kW | apply kX | apply kG | apply kQ); (· exact sd); conv => whnf) | (refine pcase.mk ?_ ?_ <;> intro hc <;> (try rw [List.length_nil] at hc) <;> first | (exfalso; omega) | (exact absurd rfl hc) | conv => whnf) | (refine bcase_intro ?_ ?_ <;> intro hc <;> conv => whnf))
          all_goals first | rfl | (exfalso; omega) | (trace_state; fail "orderR3")
      · have p2 := vRn hb vb
        rw [if_neg vb]
        refine pureP_of rfl rfl ?_
        (conv => whnf); repeat' (first | (refine callK_of p1 ?_; rintro _ rfl; conv => whnf) | (refine callK_of p2 ?_; rintro _ rfl; conv => whnf) | (refine callK_of yesT ?_; rintro _ rfl; conv => whnf) | (refine callK_of yesF' ?_; rintro _ rfl; conv => whnf) | ((with_reducible first | apply kN | apply kW | apply kX | apply kG | apply kQ); (· exact sd); conv => whnf) | (refine pcase.mk ?_ ?_ <;> intro hc <;> (try rw [List.length_nil] at hc) <;> first | (exfalso; omega) | (exact absurd rfl hc) | conv => whnf) | (refine bcase_intro ?_ ?_ <;> intro hc <;> conv => whnf))
        all_goals first | rfl | (exfalso; simp_all; done) | (trace_state; fail "orderR4")
    · have p1 := vRn ha va
      rw [if_neg va]
      by_cases vb : VV 8 b
      · have p2 := vR hb vb
        rw [if_pos vb]
        refine pureP_of rfl rfl ?_
        (conv => whnf); repeat' (first | (refine callK_of p1 ?_; rintro _ rfl; conv => whnf) | (refine callK_of p2 ?_; rintro _ rfl; conv => whnf) | (refine callK_of yesT ?_; rintro _ rfl; conv => whnf) | (refine callK_of yesF' ?_; rintro _ rfl; conv => whnf) | ((with_reducible first | apply kN | apply kW | apply kX | apply kG | apply kQ); (· exact sd); conv => whnf) | (refine pcase.mk ?_ ?_ <;> intro hc <;> (try rw [List.length_nil] at hc) <;> first | (exfalso; omega) | (exact absurd rfl hc) | conv => whnf) | (refine bcase_intro ?_ ?_ <;> intro hc <;> conv => whnf))
        all_goals first | rfl | (exfalso; simp_all; done) | (trace_state; fail "orderR5")
      · have p2 := vRn hb vb
        rw [if_neg vb]
        have q3 := fieldsRc (a := a) (b := b) (listsRc (c := fun x y => cmpV m (gvOf x) (gvOf y)) (nn := a.nn) (nn' := b.nn) (okN ha) (okN hb) (fun i hi hi' => by
          obtain ⟨g, e1, g1, g2⟩ := dep_at da hi
          obtain ⟨h, e2, h1, h2⟩ := dep_at db hi'
          refine ⟨g, h, e1, e2, ?_⟩
          rw [e1, e2]
          exact orderVR m g1 h1 g2 h2))
        refine pureP_of rfl rfl ?_
        (conv => whnf); repeat' (first | (refine callK_of p1 ?_; rintro _ rfl; conv => whnf) | (refine callK_of p2 ?_; rintro _ rfl; conv => whnf) | (refine callK_of q3 ?_; rintro _ rfl; conv => whnf) | ((with_reducible first | apply kN | apply kW | apply kX | apply kG | apply kQ); (· exact sd); conv => whnf) | (refine pcase.mk ?_ ?_ <;> intro hc <;> (try rw [List.length_nil] at hc) <;> first | (exfalso; omega) | (exact absurd rfl hc) | conv => whnf) | (refine bcase_intro ?_ ?_ <;> intro hc <;> conv => whnf))
        all_goals first | rfl | (exfalso; simp_all; done) | (trace_state; fail "orderR6")

end AI
end Go.Proofs.YtkknpgebiihkfaaGreatDoor
