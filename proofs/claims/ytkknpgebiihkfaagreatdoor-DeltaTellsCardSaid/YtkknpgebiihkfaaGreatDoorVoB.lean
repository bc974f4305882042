/- The order of values: the program's walks. -/
import Derived.Test.YtkknpgebiihkfaaGreatDoorVO1
set_option linter.unusedVariables false
set_option maxRecDepth 4000
namespace Go.Proofs.YtkknpgebiihkfaaGreatDoor
namespace AI
open Go.Sort

theorem fst0_z {b : Int} : fst0 0 b = b := if_pos rfl
theorem fst0_n {a b : Int} (h : a ≠ 0) : fst0 a b = a := if_neg h

/-- elements that are compared -/
def ElP (f : Nat) (c : AV → AV → Int) (x y : AV) : Prop := ∃ g h : GV, x = g.av ∧ y = h.av ∧ PureP (findFn tab) f [g.av, h.av] (· = .int .i64 (c x y))

theorem compareFuncP {f : Nat} {c : AV → AV → Int} {l l' : List AV} {nn nn' : Bool} (hl : l.length < 2^63) (hl' : l'.length < 2^63) (h0 : ∀ i (h : i < l.length), ∃ g : GV, l[i] = g.av) (hel : ∀ i (h : i < l.length) (h' : i < l'.length), ElP f c l[i] l'[i]) :
    PureP (findFn tab) 107 [.sl nn l, .sl nn' l', .fn f []] (· = .int .i64 (cmpLs c l l')) := by
  refine pureP_of rfl rfl ?_
  (conv => whnf); repeat' (first  | ((with_reducible first | apply kN | apply kW | apply kX | apply kG | apply kQ); (· exact sd); conv => whnf) | (refine pcase.mk ?_ ?_ <;> intro hc <;> (try rw [List.length_nil] at hc) <;> first | (exfalso; omega) | (exact absurd rfl hc) | conv => whnf) | (refine bcase_intro ?_ ?_ <;> intro hc <;> conv => whnf))
  refine loop_inv (fun m env s => ∃ i k : Nat, m = l.length - i ∧ i ≤ l.length ∧ i ≤ l'.length ∧ cmpLs c (l.drop i) (l'.drop i) = cmpLs c l l' ∧ env = [(0, .sl nn l), (1, .sl nn' l'), (2, .fn f []), (11, .sl nn l), (12, .int .i64 l.length), (13, .int .i64 i)] ∧ s = ⟨[], k⟩) ?_ _ _ _ ⟨0, _, rfl, by omega, by omega, by simp, rfl, rfl⟩
  rintro _ _ _ ⟨i, k, rfl, hi, hj, hc0, rfl, rfl⟩
  refine ⟨rfl, ?_⟩
  by_cases hlt : i < l.length
  · by_cases hly : i < l'.length
    · rw [cmpLs_step hlt hly] at hc0
      obtain ⟨gx, gy, e1, e2, hp⟩ := hel i hlt hly
      have n1 : nth l (Int.toNat (Nat.cast i)) = some gx.av := by rw [← e1]; exact nRN hlt
      have n2 : nth l' (Int.toNat (Nat.cast i)) = some gy.av := by rw [← e2]; exact nRN hly
      generalize c l[i] l'[i] = z at *
      unfold fst0 at hc0
      (conv => whnf); repeat' (first | (apply nthK_intro; (· exact n1); conv => whnf) | (apply nthK_intro; (· exact n2); conv => whnf) | (refine callK_of hp ?_; rintro _ rfl; conv => whnf) | ((with_reducible first | apply kN | apply kW | apply kX | apply kG | apply kQ); (· exact sd); conv => whnf) | (refine pcase.mk ?_ ?_ <;> intro hc <;> (try rw [List.length_nil] at hc) <;> first | (exfalso; omega) | (exact absurd rfl hc) | conv => whnf) | (refine bcase_intro ?_ ?_ <;> intro hc <;> conv => whnf))
      all_goals first
        | (rw [if_neg (by assumption)] at hc0; rw [← hc0]; rfl)
        | (rw [if_pos (by assumption)] at hc0; exact again.mk ⟨_, by omega, i + 1, _, rfl, by omega, by omega, hc0, rfl, rfl⟩)
        | (exfalso; omega)
        | (trace_state; fail "cmpF1")
    · have e2 : l'.drop i = [] := List.drop_eq_nil_of_le (by omega)
      obtain ⟨gx, hx⟩ := h0 i hlt
      have n1 : nth l (Int.toNat (Nat.cast i)) = some gx.av := by rw [← hx]; exact nRN hlt
      rw [List.drop_eq_getElem_cons hlt, e2, cmpLs] at hc0
      (conv => whnf); repeat' (first | (apply nthK_intro; (· exact n1); conv => whnf) | ((with_reducible first | apply kN | apply kW | apply kX | apply kG | apply kQ); (· exact sd); conv => whnf) | (refine pcase.mk ?_ ?_ <;> intro hc <;> (try rw [List.length_nil] at hc) <;> first | (exfalso; omega) | (exact absurd rfl hc) | conv => whnf) | (refine bcase_intro ?_ ?_ <;> intro hc <;> conv => whnf))
      all_goals first | (rw [← hc0]; rfl) | (exfalso; omega) | (trace_state; fail "cmpF2")
  · have e1 : l.drop i = [] := List.drop_eq_nil_of_le (by omega)
    rw [e1] at hc0
    by_cases hly : i < l'.length
    · rw [List.drop_eq_getElem_cons hly, cmpLs] at hc0
      (conv => whnf); repeat' (first  | ((with_reducible first | apply kN | apply kW | apply kX | apply kG | apply kQ); (· exact sd); conv => whnf) | (refine pcase.mk ?_ ?_ <;> intro hc <;> (try rw [List.length_nil] at hc) <;> first | (exfalso; omega) | (exact absurd rfl hc) | conv => whnf) | (refine bcase_intro ?_ ?_ <;> intro hc <;> conv => whnf))
      all_goals first | (rw [← hc0]; rfl) | (exfalso; omega) | (trace_state; fail "cmpF3")
    · have e2 : l'.drop i = [] := List.drop_eq_nil_of_le (by omega)
      rw [e2, cmpLs] at hc0
      (conv => whnf); repeat' (first  | ((with_reducible first | apply kN | apply kW | apply kX | apply kG | apply kQ); (· exact sd); conv => whnf) | (refine pcase.mk ?_ ?_ <;> intro hc <;> (try rw [List.length_nil] at hc) <;> first | (exfalso; omega) | (exact absurd rfl hc) | conv => whnf) | (refine bcase_intro ?_ ?_ <;> intro hc <;> conv => whnf))
      all_goals first | (rw [← hc0]; rfl) | (exfalso; omega) | (trace_state; fail "cmpF4")

theorem okN {v : GV} (hv : v.ok) : v.l.length < 2^63 := hv.2.2.2.2.1
theorem isNm_pd {g : GV} (h : isNm g) : pd g = dn g := by
  have := (isNm_VF h).1
  unfold pd; rw [if_neg (by omega)]
theorem cls2 {k : Int} : clsP k = 2 ↔ k = 2 ∨ k = 3 := by unfold clsP; split <;> (try split) <;> omega

/-- the elements of a valid value are valid -/
theorem elemV {a g : GV} {i : Nat} (h : VV 8 a) (hi : i < a.l.length) (e : a.l[i] = g.av) : VV 8 g := by
  by_cases h7 : a.k = 7
  · obtain ⟨x, e1, _, x2⟩ := ((VV_7 h7).1 h).2.2.2.2.2 i hi
    rw [e1] at e
    obtain rfl := GV.av_inj e
    exact VV_up (m := 0) (by omega) (.inl x2)
  · by_cases h8 : a.k = 8
    · obtain ⟨x, e1, x2⟩ := ((VV_8 (m := 7) h8).1 h).2.2.2.2 i hi
      rw [e1] at e
      obtain rfl := GV.av_inj e
      exact VV_up (m := 7) (by omega) x2
    · rw [VV_b h7 h8] at h
      have := h.1
      omega

/-- an element of a value of limited depth -/
theorem dep_at {m : Nat} {v : GV} {i : Nat} (h : dep (m + 1) v) (hi : i < v.l.length) : ∃ g : GV, v.l[i] = g.av ∧ g.ok ∧ dep m g := h _ (List.getElem_mem hi)

theorem fnz3 {a b c : Int} : fnz [a, b, c] = fst0 a (fst0 b c) := by
  simp only [fnz]; congr 1; congr 1; unfold fst0; split <;> omega
theorem fnz4 {a b c d : Int} : fnz [a, b, c, d] = fst0 a (fst0 b (fst0 c d)) := by
  simp only [fnz]; congr 1; congr 1; congr 1; unfold fst0; split <;> omega
theorem fnz5 {a b c d e : Int} : fnz [a, b, c, d, e] = fst0 a (fst0 b (fst0 c (fst0 d e))) := by
  simp only [fnz]; congr 1; congr 1; congr 1; congr 1; unfold fst0; split <;> omega
theorem or3P {a b c : Int} : PureP (findFn tab) 105 [.sl true [.int .i64 a, .int .i64 b, .int .i64 c]] (· = .int .i64 (fst0 a (fst0 b c))) := by
  have h := orV (l := [a, b, c]) (nn := true) (by simp)
  rw [fnz3] at h
  exact h
theorem or4P {a b c d : Int} : PureP (findFn tab) 105 [.sl true [.int .i64 a, .int .i64 b, .int .i64 c, .int .i64 d]] (· = .int .i64 (fst0 a (fst0 b (fst0 c d)))) := by
  have h := orV (l := [a, b, c, d]) (nn := true) (by simp)
  rw [fnz4] at h
  exact h
theorem or5P {a b c d e : Int} : PureP (findFn tab) 105 [.sl true [.int .i64 a, .int .i64 b, .int .i64 c, .int .i64 d, .int .i64 e]] (· = .int .i64 (fst0 a (fst0 b (fst0 c (fst0 d e))))) := by
  have h := orV (l := [a, b, c, d, e]) (nn := true) (by simp)
  rw [fnz5] at h
  exact h

theorem cmpC {k k' : Int} : PureP (findFn tab) 63 [.int .i64 (clsP k), .int .i64 (clsP k')] (· = .int .i64 (cmpI (clsP k) (clsP k'))) := compare

/-- valid values -/
theorem orderSP : ∀ (m : Nat) {a b : GV}, a.ok → b.ok → dep m a → dep m b → VV 8 a → VV 8 b → PureP (findFn tab) 104 [a.av, b.av] (· = .int .i64 (ordS m a b))
  | 0, a, b, ha, hb, da, db, va, vb => absurd da id
  | m + 1, a, b, ha, hb, da, db, va, vb => by
    have k1 := classP (v := a)
    have k2 := classP (v := b)
    have k3 := cmpC (k := a.k) (k' := b.k)
    unfold ordS
    by_cases h0 : cmpI (clsP a.k) (clsP b.k) = 0
    · rw [h0, fst0_z]
      rw [h0] at k3
      have he := cmpI_zero.1 h0
      by_cases h2 : clsP a.k = 2
      · rw [if_pos h2]
        have na : isNm a := ⟨va, cls2.1 h2⟩
        have nb : isNm b := ⟨vb, cls2.1 (by omega)⟩
        have p1 := nP1 ha na
        have p2 := nP1 hb nb
        have p3 := cmpP (isNm_VF na) (isNm_VF nb)
        unfold fracC
        rw [isNm_pd na, isNm_pd nb]
        refine pureP_of rfl rfl ?_
        (conv => whnf); repeat' (first | (refine callK_of k1 ?_; rintro _ rfl; conv => whnf) | (refine callK_of k2 ?_; rintro _ rfl; conv => whnf) | (refine callK_of k3 ?_; rintro _ rfl; conv => whnf) | (refine callK_of p1 ?_; rintro _ rfl; conv => whnf) | (refine callK_of p2 ?_; rintro _ rfl; conv => whnf) | (refine callK_of p3 ?_; rintro _ rfl; conv => whnf) | ((with_reducible first | apply kN | apply kW | apply kX | apply kG | apply kQ); (· exact sd); conv => whnf) | (refine pcase.mk ?_ ?_ <;> intro hc <;> (try rw [List.length_nil] at hc) <;> first | (exfalso; omega) | (exact absurd rfl hc) | conv => whnf) | (refine bcase_intro ?_ ?_ <;> intro hc <;> conv => whnf))
        all_goals first | rfl | (exfalso; omega) | (trace_state; fail "orderS1")
      · rw [if_neg h2]
        have p1 := compareS (x := a.s) (y := b.s)
        have p2 : PureP (findFn tab) 63 [.int .i64 a.n, .int .i64 b.n] (· = .int .i64 (cmpI a.n b.n)) := compare
        have p3 := compareFuncP (f := 104) (c := fun x y => ordS m (gvOf x) (gvOf y)) (nn := a.nn) (nn' := b.nn) (okN ha) (okN hb) (fun i hi => by
          obtain ⟨g, e, _⟩ := dep_at da hi
          exact ⟨g, e⟩) (fun i hi hi' => by
          obtain ⟨g, e1, g1, g2⟩ := dep_at da hi
          obtain ⟨h, e2, h1, h2⟩ := dep_at db hi'
          refine ⟨g, h, e1, e2, ?_⟩
          rw [e1, e2]
          exact orderSP m g1 h1 g2 h2 (elemV va hi e1) (elemV vb hi' e2))
        have p4 := or3P (a := cS a.s b.s) (b := cmpI a.n b.n) (c := cmpLs (fun x y => ordS m (gvOf x) (gvOf y)) a.l b.l)
        refine pureP_of rfl rfl ?_
        (conv => whnf); repeat' (first | (refine callK_of k1 ?_; rintro _ rfl; conv => whnf) | (refine callK_of k2 ?_; rintro _ rfl; conv => whnf) | (refine callK_of k3 ?_; rintro _ rfl; conv => whnf) | (refine callK_of p1 ?_; rintro _ rfl; conv => whnf) | (refine callK_of p2 ?_; rintro _ rfl; conv => whnf) | (refine callK_of p3 ?_; rintro _ rfl; conv => whnf) | (refine callK_of p4 ?_; rintro _ rfl; conv => whnf) | ((with_reducible first | apply kN | apply kW | apply kX | apply kG | apply kQ); (· exact sd); conv => whnf) | (refine pcase.mk ?_ ?_ <;> intro hc <;> (try rw [List.length_nil] at hc) <;> first | (exfalso; omega) | (exact absurd rfl hc) | conv => whnf) | (refine bcase_intro ?_ ?_ <;> intro hc <;> conv => whnf))
        all_goals first | rfl | (exfalso; omega) | (trace_state; fail "orderS2")
    · rw [fst0_n h0]
      refine pureP_of rfl rfl ?_
      (conv => whnf); repeat' (first | (refine callK_of k1 ?_; rintro _ rfl; conv => whnf) | (refine callK_of k2 ?_; rintro _ rfl; conv => whnf) | (refine callK_of k3 ?_; rintro _ rfl; conv => whnf) | ((with_reducible first | apply kN | apply kW | apply kX | apply kG | apply kQ); (· exact sd); conv => whnf) | (refine pcase.mk ?_ ?_ <;> intro hc <;> (try rw [List.length_nil] at hc) <;> first | (exfalso; omega) | (exact absurd rfl hc) | conv => whnf) | (refine bcase_intro ?_ ?_ <;> intro hc <;> conv => whnf))
      all_goals first | rfl | (exfalso; omega) | (trace_state; fail "orderS3")

/-- any values -/
theorem orderVP : ∀ (m : Nat) {a b : GV}, a.ok → b.ok → dep m a → dep m b → PureP (findFn tab) 68 [a.av, b.av] (· = .int .i64 (cmpV m a b))
  | 0, a, b, ha, hb, da, db => absurd da id
  | m + 1, a, b, ha, hb, da, db => by
    unfold cmpV
    by_cases va : VV 8 a
    · have p1 := vP ha va
      rw [if_pos va]
      by_cases vb : VV 8 b
      · have p2 := vP hb vb
        have p3 := orderSP (m + 1) ha hb da db va vb
        rw [if_pos vb]
        refine pureP_of rfl rfl ?_
        (conv => whnf); repeat' (first | (refine callK_of p1 ?_; rintro _ rfl; conv => whnf) | (refine callK_of p2 ?_; rintro _ rfl; conv => whnf) | (refine callK_of p3 ?_; rintro _ rfl; conv => whnf) | ((with_reducible first | apply kN | apply kW | apply kX | apply kG | apply kQ); (· exact sd); conv => whnf) | (refine pcase.mk ?_ ?_ <;> intro hc <;> (try rw [List.length_nil] at hc) <;> first | (exfalso; omega) | (exact absurd rfl hc) | conv => whnf) | (refine bcase_intro ?_ ?_ <;> intro hc <;> conv => whnf))
        all_goals first | rfl | (trace_state; fail "orderV1")
      · have p2 := vPn hb vb
        rw [if_neg vb]
        refine pureP_of rfl rfl ?_
        (conv => whnf); repeat' (first | (refine callK_of p1 ?_; rintro _ rfl; conv => whnf) | (refine callK_of p2 ?_; rintro _ rfl; conv => whnf) | ((with_reducible first | apply kN | apply kW | apply kX | apply kG | apply kQ); (· exact sd); conv => whnf) | (refine pcase.mk ?_ ?_ <;> intro hc <;> (try rw [List.length_nil] at hc) <;> first | (exfalso; omega) | (exact absurd rfl hc) | conv => whnf) | (refine bcase_intro ?_ ?_ <;> intro hc <;> conv => whnf))
        all_goals first | rfl | (trace_state; fail "orderV2")
    · have p1 := vPn ha va
      rw [if_neg va]
      by_cases vb : VV 8 b
      · have p2 := vP hb vb
        rw [if_pos vb]
        refine pureP_of rfl rfl ?_
        (conv => whnf); repeat' (first | (refine callK_of p1 ?_; rintro _ rfl; conv => whnf) | (refine callK_of p2 ?_; rintro _ rfl; conv => whnf) | ((with_reducible first | apply kN | apply kW | apply kX | apply kG | apply kQ); (· exact sd); conv => whnf) | (refine pcase.mk ?_ ?_ <;> intro hc <;> (try rw [List.length_nil] at hc) <;> first | (exfalso; omega) | (exact absurd rfl hc) | conv => whnf) | (refine bcase_intro ?_ ?_ <;> intro hc <;> conv => whnf))
        all_goals first | rfl | (trace_state; fail "orderV3")
      · have p2 := vPn hb vb
        rw [if_neg vb]
        have q1 : PureP (findFn tab) 63 [.int .i64 a.k, .int .i64 b.k] (· = .int .i64 (cmpI a.k b.k)) := compare
        have q2 : PureP (findFn tab) 63 [.int .i64 a.n, .int .i64 b.n] (· = .int .i64 (cmpI a.n b.n)) := compare
        have q3 : PureP (findFn tab) 63 [.int .i64 a.d, .int .i64 b.d] (· = .int .i64 (cmpI a.d b.d)) := compare
        have q4 := compareS (x := a.s) (y := b.s)
        have q5 := compareFuncP (f := 68) (c := fun x y => cmpV m (gvOf x) (gvOf y)) (nn := a.nn) (nn' := b.nn) (okN ha) (okN hb) (fun i hi => by
          obtain ⟨g, e, _⟩ := dep_at da hi
          exact ⟨g, e⟩) (fun i hi hi' => by
          obtain ⟨g, e1, g1, g2⟩ := dep_at da hi
          obtain ⟨h, e2, h1, h2⟩ := dep_at db hi'
          refine ⟨g, h, e1, e2, ?_⟩
          rw [e1, e2]
          exact orderVP m g1 h1 g2 h2)
        have q6 := or5P (a := cmpI a.k b.k) (b := cmpI a.n b.n) (c := cmpI a.d b.d) (d := cS a.s b.s) (e := cmpLs (fun x y => cmpV m (gvOf x) (gvOf y)) a.l b.l)
        refine pureP_of rfl rfl ?_
        (conv => whnf); repeat' (first | (refine callK_of p1 ?_; rintro _ rfl; conv => whnf) | (refine callK_of p2 ?_; rintro _ rfl; conv => whnf) | (refine callK_of q1 ?_; rintro _ rfl; conv => whnf) | (refine callK_of q2 ?_; rintro _ rfl; conv => whnf) | (refine callK_of q3 ?_; rintro _ rfl; conv => whnf) | (refine callK_of q4 ?_; rintro _ rfl; conv => whnf) | (refine callK_of q5 ?_; rintro _ rfl; conv => whnf) | (refine callK_of q6 ?_; rintro _ rfl; conv => whnf) | ((with_reducible first | apply kN | apply kW | apply kX | apply kG | apply kQ); (· exact sd); conv => whnf) | (refine pcase.mk ?_ ?_ <;> intro hc <;> (try rw [List.length_nil] at hc) <;> first | (exfalso; omega) | (exact absurd rfl hc) | conv => whnf) | (refine bcase_intro ?_ ?_ <;> intro hc <;> conv => whnf))
        all_goals first | rfl | (trace_state; fail "orderV4")

end AI
end Go.Proofs.YtkknpgebiihkfaaGreatDoor
