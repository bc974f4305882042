/- The order of values: plain. The order of values: the program's walks. The order of values: the reference's walks. -/
import Derived.Test.YtbkibamoigmboaaGreatDoorPo0
import Derived.Test.YtbkibamoigmboaaGreatDoorVlE
import Derived.Test.YtbkibamoigmboaaGreatDoorNU1
set_option linter.unusedVariables false
set_option maxRecDepth 4000
namespace Go.Proofs.YtbkibamoigmboaaGreatDoor
namespace AI
open Go.Sort

/-- the value that is meant -/
def gvOf : AV → GV
  | .agg [.int _ k, .int _ n, .int _ d, .str s, .sl nn l] => ⟨k, n, d, s, nn, l⟩
  | _ => ⟨0, 0, 0, [], false, []⟩
theorem gvOf_av (g : GV) : gvOf g.av = g := rfl

/-- of at most this depth -/
def dep : Nat → GV → Prop
  | 0, _ => False
  | m + 1, v => ∀ x ∈ v.l, ∃ g : GV, x = g.av ∧ g.ok ∧ dep m g

theorem dep_up : ∀ {m k : Nat} {v : GV}, m ≤ k → dep m v → dep k v
  | 0, _, _, _, h => absurd h id
  | m + 1, 0, _, h, _ => by omega
  | m + 1, k + 1, v, h, hd => fun x hx => by
    obtain ⟨g, e, h1, h2⟩ := hd x hx
    exact ⟨g, e, h1, dep_up (by omega) h2⟩

/-- lists compared -/
def cmpLs (c : AV → AV → Int) : List AV → List AV → Int
  | [], [] => 0
  | [], _ :: _ => -1
  | _ :: _, [] => 1
  | a :: x, b :: y => fst0 (c a b) (cmpLs c x y)
theorem cmpLs_anti {c : AV → AV → Int} (hc : PC c) : ∀ x y, cmpLs c y x = - cmpLs c x y
  | [], [] => rfl
  | [], _ :: _ => rfl
  | _ :: _, [] => rfl
  | a :: x, b :: y => by
    have h1 := hc.anti a b
    have h2 := cmpLs_anti hc x y
    simp only [cmpLs, fst0]
    split <;> split <;> omega
theorem cmpLs_trans {c : AV → AV → Int} (hc : PC c) : ∀ x y z, cmpLs c x y ≤ 0 → cmpLs c y z ≤ 0 → cmpLs c x z ≤ 0
  | [], _, [], _, _ => Int.le_refl 0
  | [], _, _ :: _, _, _ => by show (-1 : Int) ≤ 0; omega
  | _ :: _, [], _, h, _ => absurd h (by show ¬ (1 : Int) ≤ 0; omega)
  | _ :: _, _ :: _, [], _, h => absurd h (by show ¬ (1 : Int) ≤ 0; omega)
  | a :: x, b :: y, d :: z, h1, h2 => by
    have ih := cmpLs_trans hc x y z
    have a1 := hc.trans a b d
    have a2 := hc.trans b d a
    have a3 := hc.trans d a b
    have b1 := hc.anti a b
    have b2 := hc.anti b d
    have b3 := hc.anti a d
    simp only [cmpLs, fst0] at *
    split at h1 <;> split at h2 <;> split <;> omega
theorem PC.lists {c : AV → AV → Int} (hc : PC c) : PC (cmpLs c) := ⟨cmpLs_anti hc, cmpLs_trans hc⟩
theorem cmpLs_step {c : AV → AV → Int} {x y : List AV} {i : Nat} (hx : i < x.length) (hy : i < y.length) : cmpLs c (x.drop i) (y.drop i) = fst0 (c x[i] y[i]) (cmpLs c (x.drop (i + 1)) (y.drop (i + 1))) := by
  rw [List.drop_eq_getElem_cons hx, List.drop_eq_getElem_cons hy, cmpLs]

/-- a comparison of one kind or another -/
theorem PC.lexIf {α : Type} {c d e : α → α → Int} {p : α → Prop} [DecidablePred p] (hc : PC c) (hd : PC d) (he : PC e) (hp : ∀ x y, c x y = 0 → (p x ↔ p y)) : PC fun x y => fst0 (c x y) (if p x then d x y else e x y) where
  anti x y := by
    have h1 := hc.anti x y
    have h2 := hd.anti x y
    have h3 := he.anti x y
    have h4 := hp x y
    unfold fst0
    by_cases h0 : c x y = 0
    · rw [if_pos (by omega), if_pos h0]
      by_cases hx : p x
      · rw [if_pos hx, if_pos ((h4 h0).1 hx)]; exact h2
      · rw [if_neg hx, if_neg (fun h => hx ((h4 h0).2 h))]; exact h3
    · rw [if_neg (by omega), if_neg h0]; exact h1
  trans x y z h1 h2 := by
    have a0 := hc.trans z y x
    have a1 := hc.trans x y z
    have a2 := hc.trans y z x
    have a3 := hc.trans z x y
    have b1 := hc.anti x y
    have b2 := hc.anti y z
    have b3 := hc.anti x z
    have d1 := hd.trans x y z
    have e1 := he.trans x y z
    have p1 := hp x y
    have p2 := hp y z
    unfold fst0 at *
    by_cases h0 : c x y = 0
    · rw [if_pos h0] at h1
      by_cases h00 : c y z = 0
      · rw [if_pos h00] at h2
        rw [if_pos (by omega)]
        by_cases hx : p x
        · rw [if_pos hx] at h1 ⊢
          rw [if_pos ((p1 h0).1 hx)] at h2
          exact d1 h1 h2
        · rw [if_neg hx] at h1 ⊢
          rw [if_neg (fun h => hx ((p1 h0).2 h))] at h2
          exact e1 h1 h2
      · rw [if_neg h00] at h2
        rw [if_neg (by omega)]
        omega
    · rw [if_neg h0] at h1
      by_cases h00 : c y z = 0
      · rw [if_neg (by omega)]
        omega
      · rw [if_neg h00] at h2
        rw [if_neg (by omega)]
        omega

/-- a denominator that is positive in any case -/
def pd (g : GV) : Int := if dn g ≤ 0 then 1 else dn g
theorem pd_pos (g : GV) : 0 < pd g := by unfold pd; split <;> omega
def fracC (a b : GV) : Int := sgn (a.n * pd b - b.n * pd a)
theorem fracC_le {a b : GV} : fracC a b ≤ 0 ↔ a.n * pd b ≤ b.n * pd a := by
  unfold fracC sgn; split
  · omega
  · split <;> omega
theorem pc_frac : PC fracC where
  anti x y := by unfold fracC sgn; repeat' split
                 all_goals omega
  trans x y z h1 h2 := by
    rw [fracC_le] at *
    have p1 := pd_pos x
    have p2 := pd_pos y
    have p3 := pd_pos z
    have e1 : x.n * pd y * pd z ≤ y.n * pd x * pd z := Int.mul_le_mul_of_nonneg_right h1 (by omega)
    have e2 : y.n * pd z * pd x ≤ z.n * pd y * pd x := Int.mul_le_mul_of_nonneg_right h2 (by omega)
    have e3 : x.n * pd z * pd y ≤ z.n * pd x * pd y := by
      rw [Int.mul_right_comm x.n, Int.mul_right_comm z.n]
      rw [Int.mul_right_comm y.n] at e2
      omega
    exact Int.le_of_mul_le_mul_right e3 p2

/-- valid values compared -/
def ordS : Nat → GV → GV → Int
  | 0, _, _ => 0
  | m + 1, a, b => fst0 (cmpI (clsP a.k) (clsP b.k)) (if clsP a.k = 2 then fracC a b else fst0 (cS a.s b.s) (fst0 (cmpI a.n b.n) (cmpLs (fun x y => ordS m (gvOf x) (gvOf y)) a.l b.l)))
theorem pc_zero {α : Type} : PC fun _ _ : α => 0 := ⟨fun _ _ => rfl, fun _ _ _ _ _ => Int.le_refl 0⟩
theorem pc_ordS : ∀ m, PC (ordS m)
  | 0 => pc_zero
  | m + 1 => PC.lexIf (p := fun a : GV => clsP a.k = 2) (pc_int.on fun a : GV => clsP a.k) pc_frac ((pc_str.on GV.s).lex ((pc_int.on GV.n).lex (((pc_ordS m).on gvOf).lists.on GV.l))) fun x y h => by
    have h : cmpI (clsP x.k) (clsP y.k) = 0 := h
    rw [cmpI_zero] at h
    show clsP x.k = 2 ↔ clsP y.k = 2
    rw [h]

/-- two classes, the first ahead -/
theorem PC.two {α : Type} {d e : α → α → Int} {p : α → Prop} [DecidablePred p] (hd : PC d) (he : PC e) : PC fun x y => if p x then if p y then d x y else -1 else if p y then 1 else e x y where
  anti x y := by
    have h2 := hd.anti x y
    have h3 := he.anti x y
    by_cases hx : p x <;> by_cases hy : p y <;> simp only [hx, hy, if_true, if_false] <;> first | assumption | rfl
  trans x y z h1 h2 := by
    have d1 := hd.trans x y z
    have e1 := he.trans x y z
    by_cases hx : p x <;> by_cases hy : p y <;> by_cases hz : p z <;> simp only [hx, hy, hz, if_true, if_false] at * <;> first | exact d1 h1 h2 | exact e1 h1 h2 | omega

/-- any values compared -/
noncomputable def cmpV : Nat → GV → GV → Int
  | 0, _, _ => 0
  | m + 1, a, b => if VV 8 a then if VV 8 b then ordS (m + 1) a b else -1 else if VV 8 b then 1 else
      fst0 (cmpI a.k b.k) (fst0 (cmpI a.n b.n) (fst0 (cmpI a.d b.d) (fst0 (cS a.s b.s) (cmpLs (fun x y => cmpV m (gvOf x) (gvOf y)) a.l b.l))))
theorem pc_cmpV : ∀ m, PC (cmpV m)
  | 0 => pc_zero
  | m + 1 => PC.two (p := fun a => VV 8 a) (pc_ordS (m + 1)) ((pc_int.on GV.k).lex ((pc_int.on GV.n).lex ((pc_int.on GV.d).lex ((pc_str.on GV.s).lex (((pc_cmpV m).on gvOf).lists.on GV.l)))))

end AI
end Go.Proofs.YtbkibamoigmboaaGreatDoor
set_option linter.unusedVariables false
namespace Go.Proofs.YtbkibamoigmboaaGreatDoor
namespace AI
open Go.Sort

theorem fst0_z {b : Int} : fst0 0 b = b := if_pos rfl
theorem fst0_n {a b : Int} (h : a ≠ 0) : fst0 a b = a := if_neg h

/-- elements that are compared -/
def ElP (f : Nat) (c : AV → AV → Int) (x y : AV) : Prop := ∃ g h : GV, x = g.av ∧ y = h.av ∧ PureP (findFn tab) f [g.av, h.av] (· = .int .i64 (c x y))

theorem compareFuncP {f : Nat} {c : AV → AV → Int} {l l' : List AV} {nn nn' : Bool} (hl : l.length < 2^63) (hl' : l'.length < 2^63) (h0 : ∀ i (h : i < l.length), ∃ g : GV, l[i] = g.av) (hel : ∀ i (h : i < l.length) (h' : i < l'.length), ElP f c l[i] l'[i]) :
    PureP (findFn tab) 64 [.sl nn l, .sl nn' l', .fn f []] (· = .int .i64 (cmpLs c l l')) := by
  refine pureP_of rfl rfl ?_
  (conv => whnf); repeat' (first  | ((with_reducible first | apply kN | apply kW | apply kX | apply kG | apply kQ); (· exact sd); conv => whnf) | (refine pcase.mk ?_ ?_ <;> intro hc <;> (try rw [List.length_nil] at hc) <;> first | (exfalso; omega) | (exact absurd rfl hc) | conv => whnf) | (refine bcase_intro ?_ ?_ <;> intro hc <;> conv => whnf))
  refine loop_inv (fun m env s => ∃ i k : Nat, m = l.length - i ∧ i ≤ l.length ∧ i ≤ l'.length ∧ cmpLs c (l.drop i) (l'.drop i) = cmpLs c l l' ∧ env = [(0, .sl nn l), (1, .sl nn' l'), (2, .fn f []), (11, .sl nn l), (12, .int .i64 l.length), (13, .int .i64 i)] ∧ s = ⟨[], k⟩) ?_ _ _ _ ⟨0, _, rfl, by omega, by omega, by simp, rfl, rfl⟩
  rintro _ _ _ ⟨i, k, rfl, hi, hj, hc0, rfl, rfl⟩
  refine ⟨rfl, ?_⟩
  by_cases hlt : i < l.length
  · by_cases hly : i < l'.length
    · rw [cmpLs_step hlt hly] at hc0
      obtain ⟨gx, gy, e1, e2, hp⟩ := hel i hlt hly
      have n1 : nth l (Int.toNat (Nat.cast i)) = some gx.av := by rw [← e1]; exact nRN hlt
      have n2 : nth l' (Int.toNat (Nat.cast i)) = some gy.av := by rw [← e2]; exact nRN hly
      generalize c l[i] l'[i] = z at *
      unfold fst0 at hc0
      (conv => whnf); repeat' (first | (apply nthK_intro; (· exact n1); conv => whnf) | (apply nthK_intro; (· exact n2); conv => whnf) | (refine callK_of hp ?_; rintro _ rfl; conv => whnf) | ((with_reducible first | apply kN | apply kW | apply kX | apply kG | apply kQ); (· exact sd); conv => whnf) | (refine pcase.mk ?_ ?_ <;> intro hc <;> (try rw [List.length_nil] at hc) <;> first | (exfalso; omega) | (exact absurd rfl hc) | conv => whnf) | (refine bcase_intro ?_ ?_ <;> intro hc <;> conv => whnf))
      all_goals first
        | (rw [if_neg (by assumption)] at hc0; rw [← hc0]; rfl)
        | (rw [if_pos (by assumption)] at hc0; exact again.mk ⟨_, by omega, i + 1, _, rfl, by omega, by omega, hc0, rfl, rfl⟩)
        | (exfalso; omega)
        | (trace_state; fail "cmpF1")
    · have e2 : l'.drop i = [] := List.drop_eq_nil_of_le (by omega)
      obtain ⟨gx, hx⟩ := h0 i hlt
      have n1 : nth l (Int.toNat (Nat.cast i)) = some gx.av := by rw [← hx]; exact nRN hlt
      rw [List.drop_eq_getElem_cons hlt, e2, cmpLs] at hc0
      (conv => whnf); repeat' (first | (apply nthK_intro; (· exact n1); conv => whnf) | ((with_reducible first | apply kN | apply kW | apply kX | apply kG | apply kQ); (· exact sd); conv => whnf) | (refine pcase.mk ?_ ?_ <;> intro hc <;> (try rw [List.length_nil] at hc) <;> first | (exfalso; omega) | (exact absurd rfl hc) | conv => whnf) | (refine bcase_intro ?_ ?_ <;> intro hc <;> conv => whnf))
      all_goals first | (rw [← hc0]; rfl) | (exfalso; omega) | (trace_state; fail "cmpF2")
  · have e1 : l.drop i = [] := List.drop_eq_nil_of_le (by omega)
    rw [e1] at hc0
    by_cases hly : i < l'.length
    · rw [List.drop_eq_getElem_cons hly, cmpLs] at hc0
      (conv => whnf); repeat' (first  | ((with_reducible first | apply kN | apply kW | apply kX | apply kG | apply kQ); (· exact sd); conv => whnf) | (refine pcase.mk ?_ ?_ <;> intro hc <;> (try rw [List.length_nil] at hc) <;> first | (exfalso; omega) | (exact absurd rfl hc) | conv => whnf) | (refine bcase_intro ?_ ?_ <;> intro hc <;> conv => whnf))
      all_goals first | (rw [← hc0]; rfl) | (exfalso; omega) | (trace_state; fail "cmpF3")
    · have e2 : l'.drop i = [] := List.drop_eq_nil_of_le (by omega)
      rw [e2, cmpLs] at hc0
      (conv => whnf); repeat' (first  | ((with_reducible first | apply kN | apply kW | apply kX | apply kG | apply kQ); (· exact sd); conv => whnf) | (refine pcase.mk ?_ ?_ <;> intro hc <;> (try rw [List.length_nil] at hc) <;> first | (exfalso; omega) | (exact absurd rfl hc) | conv => whnf) | (refine bcase_intro ?_ ?_ <;> intro hc <;> conv => whnf))
      all_goals first | (rw [← hc0]; rfl) | (exfalso; omega) | (trace_state; fail "cmpF4")

theorem okN {v : GV} (hv : v.ok) : v.l.length < 2^63 := hv.2.2.2.2.1
theorem isN_pd {g : GV} (h : isN g) : pd g = dn g := by
  have := (isN_VF h).1
  unfold pd; rw [if_neg (by omega)]
theorem cls2 {k : Int} : clsP k = 2 ↔ k = 2 ∨ k = 3 := by unfold clsP; split <;> (try split) <;> omega

/-- the elements of a valid value are valid -/
theorem elemV {a g : GV} {i : Nat} (h : VV 8 a) (hi : i < a.l.length) (e : a.l[i] = g.av) : VV 8 g := by
  by_cases h7 : a.k = 7
  · obtain ⟨x, e1, _, x2⟩ := ((VV_7 h7).1 h).2.2.2.2.2 i hi
    rw [e1] at e
    obtain rfl := GV.av_inj e
    exact VV_up (m := 0) (by omega) (.inl x2)
  · by_cases h8 : a.k = 8
    · obtain ⟨x, e1, x2⟩ := ((VV_8 (m := 7) h8).1 h).2.2.2.2 i hi
      rw [e1] at e
      obtain rfl := GV.av_inj e
      exact VV_up (m := 7) (by omega) x2
    · rw [VV_b h7 h8] at h
      have := h.1
      omega

/-- an element of a value of limited depth -/
theorem dep_at {m : Nat} {v : GV} {i : Nat} (h : dep (m + 1) v) (hi : i < v.l.length) : ∃ g : GV, v.l[i] = g.av ∧ g.ok ∧ dep m g := h _ (List.getElem_mem hi)

theorem fnz3 {a b c : Int} : fnz [a, b, c] = fst0 a (fst0 b c) := by
  simp only [fnz]; congr 1; congr 1; unfold fst0; split <;> omega
theorem fnz4 {a b c d : Int} : fnz [a, b, c, d] = fst0 a (fst0 b (fst0 c d)) := by
  simp only [fnz]; congr 1; congr 1; congr 1; unfold fst0; split <;> omega
theorem fnz5 {a b c d e : Int} : fnz [a, b, c, d, e] = fst0 a (fst0 b (fst0 c (fst0 d e))) := by
  simp only [fnz]; congr 1; congr 1; congr 1; congr 1; unfold fst0; split <;> omega
theorem or3P {a b c : Int} : PureP (findFn tab) 59 [.sl true [.int .i64 a, .int .i64 b, .int .i64 c]] (· = .int .i64 (fst0 a (fst0 b c))) := by
  have h := orV (l := [a, b, c]) (nn := true) (by simp)
  rw [fnz3] at h
  exact h
theorem or4P {a b c d : Int} : PureP (findFn tab) 59 [.sl true [.int .i64 a, .int .i64 b, .int .i64 c, .int .i64 d]] (· = .int .i64 (fst0 a (fst0 b (fst0 c d)))) := by
  have h := orV (l := [a, b, c, d]) (nn := true) (by simp)
  rw [fnz4] at h
  exact h
theorem or5P {a b c d e : Int} : PureP (findFn tab) 59 [.sl true [.int .i64 a, .int .i64 b, .int .i64 c, .int .i64 d, .int .i64 e]] (· = .int .i64 (fst0 a (fst0 b (fst0 c (fst0 d e))))) := by
  have h := orV (l := [a, b, c, d, e]) (nn := true) (by simp)
  rw [fnz5] at h
  exact h

theorem cmpC {k k' : Int} : PureP (findFn tab) 61 [.int .i64 (clsP k), .int .i64 (clsP k')] (· = .int .i64 (cmpI (clsP k) (clsP k'))) := compare

/-- valid values -/
theorem orderSP : ∀ (m : Nat) {a b : GV}, a.ok → b.ok → dep m a → dep m b → VV 8 a → VV 8 b → PureP (findFn tab) 63 [a.av, b.av] (· = .int .i64 (ordS m a b))
  | 0, a, b, ha, hb, da, db, va, vb => absurd da id
  | m + 1, a, b, ha, hb, da, db, va, vb => by
    have k1 := classP (v := a)
    have k2 := classP (v := b)
    have k3 := cmpC (k := a.k) (k' := b.k)
    unfold ordS
    by_cases h0 : cmpI (clsP a.k) (clsP b.k) = 0
    · rw [h0, fst0_z]
      rw [h0] at k3
      have he := cmpI_zero.1 h0
      by_cases h2 : clsP a.k = 2
      · rw [if_pos h2]
        have na : isN a := ⟨va, cls2.1 h2⟩
        have nb : isN b := ⟨vb, cls2.1 (by omega)⟩
        have p1 := nP1 ha na
        have p2 := nP1 hb nb
        have p3 := cmpP (isN_VF na) (isN_VF nb)
        unfold fracC
        rw [isN_pd na, isN_pd nb]
        refine pureP_of rfl rfl ?_
        (conv => whnf); repeat' (first | (refine callK_of k1 ?_; rintro _ rfl; conv => whnf) | (refine callK_of k2 ?_; rintro _ rfl; conv => whnf) | (refine callK_of k3 ?_; rintro _ rfl; conv => whnf) | (refine callK_of p1 ?_; rintro _ rfl; conv => whnf) | (refine callK_of p2 ?_; rintro _ rfl; conv => whnf) | (refine callK_of p3 ?_; rintro _ rfl; conv => whnf) | ((with_reducible first | apply kN | apply kW | apply kX | apply kG | apply kQ); (· exact sd); conv => whnf) | (refine pcase.mk ?_ ?_ <;> intro hc <;> (try rw [List.length_nil] at hc) <;> first | (exfalso; omega) | (exact absurd rfl hc) | conv => whnf) | (refine bcase_intro ?_ ?_ <;> intro hc <;> conv => whnf))
        all_goals first | rfl | (exfalso; omega) | (trace_state; fail "orderS1")
      · rw [if_neg h2]
        have p1 := compareS (x := a.s) (y := b.s)
        have p2 : PureP (findFn tab) 61 [.int .i64 a.n, .int .i64 b.n] (· = .int .i64 (cmpI a.n b.n)) := compare
        have p3 := compareFuncP (f := 63) (c := fun x y => ordS m (gvOf x) (gvOf y)) (nn := a.nn) (nn' := b.nn) (okN ha) (okN hb) (fun i hi => by
          obtain ⟨g, e, _⟩ := dep_at da hi
          exact ⟨g, e⟩) (fun i hi hi' => by
          obtain ⟨g, e1, g1, g2⟩ := dep_at da hi
          obtain ⟨h, e2, h1, h2⟩ := dep_at db hi'
          refine ⟨g, h, e1, e2, ?_⟩
          rw [e1, e2]
          exact orderSP m g1 h1 g2 h2 (elemV va hi e1) (elemV vb hi' e2))
        have p4 := or3P (a := cS a.s b.s) (b := cmpI a.n b.n) (c := cmpLs (fun x y => ordS m (gvOf x) (gvOf y)) a.l b.l)
        refine pureP_of rfl rfl ?_
        (conv => whnf); repeat' (first | (refine callK_of k1 ?_; rintro _ rfl; conv => whnf) | (refine callK_of k2 ?_; rintro _ rfl; conv => whnf) | (refine callK_of k3 ?_; rintro _ rfl; conv => whnf) | (refine callK_of p1 ?_; rintro _ rfl; conv => whnf) | (refine callK_of p2 ?_; rintro _ rfl; conv => whnf) | (refine callK_of p3 ?_; rintro _ rfl; conv => whnf) | (refine callK_of p4 ?_; rintro _ rfl; conv => whnf) | ((with_reducible first | apply kN | apply kW | apply kX | apply kG | apply kQ); (· exact sd); conv => whnf) | (refine pcase.mk ?_ ?_ <;> intro hc <;> (try rw [List.length_nil] at hc) <;> first | (exfalso; omega) | (exact absurd rfl hc) | conv => whnf) | (refine bcase_intro ?_ ?_ <;> intro hc <;> conv => whnf))
        all_goals first | rfl | (exfalso; omega) | (trace_state; fail "orderS2")
    · rw [fst0_n h0]
      refine pureP_of rfl rfl ?_
      (conv => whnf); repeat' (first | (refine callK_of k1 ?_; rintro _ rfl; conv => whnf) | (refine callK_of k2 ?_; rintro _ rfl; conv => whnf) | (refine callK_of k3 ?_; rintro _ rfl; conv => whnf) | ((with_reducible first | apply kN | apply kW | apply kX | apply kG | apply kQ); (· exact sd); conv => whnf) | (refine pcase.mk ?_ ?_ <;> intro hc <;> (try rw [List.length_nil] at hc) <;> first | (exfalso; omega) | (exact absurd rfl hc) | conv => whnf) | (refine bcase_intro ?_ ?_ <;> intro hc <;> conv => whnf))
      all_goals first | rfl | (exfalso; omega) | (trace_state; fail "orderS3")

/-- any values -/
theorem orderVP : ∀ (m : Nat) {a b : GV}, a.ok → b.ok → dep m a → dep m b → PureP (findFn tab) 30 [a.av, b.av] (· = .int .i64 (cmpV m a b))
  | 0, a, b, ha, hb, da, db => absurd da id
  | m + 1, a, b, ha, hb, da, db => by
    unfold cmpV
    by_cases va : VV 8 a
    · have p1 := vP ha va
      rw [if_pos va]
      by_cases vb : VV 8 b
      · have p2 := vP hb vb
        have p3 := orderSP (m + 1) ha hb da db va vb
        rw [if_pos vb]
        refine pureP_of rfl rfl ?_
        (conv => whnf); repeat' (first | (refine callK_of p1 ?_; rintro _ rfl; conv => whnf) | (refine callK_of p2 ?_; rintro _ rfl; conv => whnf) | (refine callK_of p3 ?_; rintro _ rfl; conv => whnf) | ((with_reducible first | apply kN | apply kW | apply kX | apply kG | apply kQ); (· exact sd); conv => whnf) | (refine pcase.mk ?_ ?_ <;> intro hc <;> (try rw [List.length_nil] at hc) <;> first | (exfalso; omega) | (exact absurd rfl hc) | conv => whnf) | (refine bcase_intro ?_ ?_ <;> intro hc <;> conv => whnf))
        all_goals first | rfl | (trace_state; fail "orderV1")
      · have p2 := vPn hb vb
        rw [if_neg vb]
        refine pureP_of rfl rfl ?_
        (conv => whnf); repeat' (first | (refine callK_of p1 ?_; rintro _ rfl; conv => whnf) | (refine callK_of p2 ?_; rintro _ rfl; conv => whnf) | ((with_reducible first | apply kN | apply kW | apply kX | apply kG | apply kQ); (· exact sd); conv => whnf) | (refine pcase.mk ?_ ?_ <;> intro hc <;> (try rw [List.length_nil] at hc) <;> first | (exfalso; omega) | (exact absurd rfl hc) | conv => whnf) | (refine bcase_intro ?_ ?_ <;> intro hc <;> conv => whnf))
        all_goals first | rfl | (trace_state; fail "orderV2")
    · have p1 := vPn ha va
      rw [if_neg va]
      by_cases vb : VV 8 b
      · have p2 := vP hb vb
        rw [if_pos vb]
        refine pureP_of rfl rfl ?_
        (conv => whnf); repeat' (first | (refine callK_of p1 ?_; rintro _ rfl; conv => whnf) | (refine callK_of p2 ?_; rintro _ rfl; conv => whnf) | ((with_reducible first | apply kN | apply kW | apply kX | apply kG | apply kQ); (· exact sd); conv => whnf) | (refine pcase.mk ?_ ?_ <;> intro hc <;> (try rw [List.length_nil] at hc) <;> first | (exfalso; omega) | (exact absurd rfl hc) | conv => whnf) | (refine bcase_intro ?_ ?_ <;> intro hc <;> conv => whnf))
        all_goals first | rfl | (trace_state; fail "orderV3")
      · have p2 := vPn hb vb
        rw [if_neg vb]
        have q1 : PureP (findFn tab) 61 [.int .i64 a.k, .int .i64 b.k] (· = .int .i64 (cmpI a.k b.k)) := compare
        have q2 : PureP (findFn tab) 61 [.int .i64 a.n, .int .i64 b.n] (· = .int .i64 (cmpI a.n b.n)) := compare
        have q3 : PureP (findFn tab) 61 [.int .i64 a.d, .int .i64 b.d] (· = .int .i64 (cmpI a.d b.d)) := compare
        have q4 := compareS (x := a.s) (y := b.s)
        have q5 := compareFuncP (f := 30) (c := fun x y => cmpV m (gvOf x) (gvOf y)) (nn := a.nn) (nn' := b.nn) (okN ha) (okN hb) (fun i hi => by
          obtain ⟨g, e, _⟩ := dep_at da hi
          exact ⟨g, e⟩) (fun i hi hi' => by
          obtain ⟨g, e1, g1, g2⟩ := dep_at da hi
          obtain ⟨h, e2, h1, h2⟩ := dep_at db hi'
          refine ⟨g, h, e1, e2, ?_⟩
          rw [e1, e2]
          exact orderVP m g1 h1 g2 h2)
        have q6 := or5P (a := cmpI a.k b.k) (b := cmpI a.n b.n) (c := cmpI a.d b.d) (d := cS a.s b.s) (e := cmpLs (fun x y => cmpV m (gvOf x) (gvOf y)) a.l b.l)
        refine pureP_of rfl rfl ?_
        (conv => whnf); repeat' (first | (refine callK_of p1 ?_; rintro _ rfl; conv => whnf) | (refine callK_of p2 ?_; rintro _ rfl; conv => whnf) | (refine callK_of q1 ?_; rintro _ rfl; conv => whnf) | (refine callK_of q2 ?_; rintro _ rfl; conv => whnf) | (refine callK_of q3 ?_; rintro _ rfl; conv => whnf) | (refine callK_of q4 ?_; rintro _ rfl; conv => whnf) | (refine callK_of q5 ?_; rintro _ rfl; conv => whnf) | (refine callK_of q6 ?_; rintro _ rfl; conv => whnf) | ((with_reducible first | apply kN | apply kW | apply kX | apply kG | apply kQ); (· exact sd); conv => whnf) | (refine pcase.mk ?_ ?_ <;> intro hc <;> (try rw [List.length_nil] at hc) <;> first | (exfalso; omega) | (exact absurd rfl hc) | conv => whnf) | (refine bcase_intro ?_ ?_ <;> intro hc <;> conv => whnf))
        all_goals first | rfl | (trace_state; fail "orderV4")

end AI
end Go.Proofs.YtbkibamoigmboaaGreatDoor
set_option linter.unusedVariables false
namespace Go.Proofs.YtbkibamoigmboaaGreatDoor
namespace AI
open Go.Sort

theorem intsRc {a b : Int} : PureP (findFn tab) 121 [.int .i64 a, .int .i64 b] (· = .int .i64 (cmpI a b)) := by
  refine pureP_of rfl rfl ?_
  (conv => whnf); repeat' (first  | ((with_reducible first | apply kN | apply kW | apply kX | apply kG | apply kQ); (· exact sd); conv => whnf) | (refine pcase.mk ?_ ?_ <;> intro hc <;> (try rw [List.length_nil] at hc) <;> first | (exfalso; omega) | (exact absurd rfl hc) | conv => whnf) | (refine bcase_intro ?_ ?_ <;> intro hc <;> conv => whnf))
  all_goals exact congrArg (AV.int .i64) (by unfold cmpI; repeat' split
                                             all_goals omega)
theorem strsRc {x y : List UInt8} : PureP (findFn tab) 180 [.str x, .str y] (· = .int .i64 (cS x y)) := by
  refine pureP_of rfl rfl ?_
  (conv => whnf); repeat' (first  | ((with_reducible first | apply kN | apply kW | apply kX | apply kG | apply kQ); (· exact sd); conv => whnf) | (refine pcase.mk ?_ ?_ <;> intro hc <;> (try rw [List.length_nil] at hc) <;> first | (exfalso; omega) | (exact absurd rfl hc) | conv => whnf) | (refine bcase_intro ?_ ?_ <;> intro hc <;> conv => whnf))
  all_goals first | exact cS_lt hc | exact cS_eq (by assumption) hc | exact cS_gt hc | (trace_state; fail "strsRc")
theorem textsRc {x y : List UInt8} : PureP (findFn tab) 83 [.str x, .str y] (· = .int .i64 (cS x y)) := by
  refine pureP_of rfl rfl ?_
  (conv => whnf); repeat' (first  | ((with_reducible first | apply kN | apply kW | apply kX | apply kG | apply kQ); (· exact sd); conv => whnf) | (refine pcase.mk ?_ ?_ <;> intro hc <;> (try rw [List.length_nil] at hc) <;> first | (exfalso; omega) | (exact absurd rfl hc) | conv => whnf) | (refine bcase_intro ?_ ?_ <;> intro hc <;> conv => whnf))
  all_goals first | exact cS_lt hc | exact cS_eq (by assumption) hc | exact cS_gt hc | (trace_state; fail "textsRc")

theorem listsRc {c : AV → AV → Int} {l l' : List AV} {nn nn' : Bool} (hl : l.length < 2^63) (hl' : l'.length < 2^63) (hel : ∀ i (h : i < l.length) (h' : i < l'.length), ElP 84 c l[i] l'[i]) :
    PureP (findFn tab) 181 [.sl nn l, .sl nn' l'] (· = .int .i64 (cmpLs c l l')) := by
  refine pureP_of rfl rfl ?_
  (conv => whnf); repeat' (first  | ((with_reducible first | apply kN | apply kW | apply kX | apply kG | apply kQ); (· exact sd); conv => whnf) | (refine pcase.mk ?_ ?_ <;> intro hc <;> (try rw [List.length_nil] at hc) <;> first | (exfalso; omega) | (exact absurd rfl hc) | conv => whnf) | (refine bcase_intro ?_ ?_ <;> intro hc <;> conv => whnf))
  refine loop_inv (fun m env s => ∃ i k : Nat, m = l.length - i ∧ i ≤ l.length ∧ i ≤ l'.length ∧ cmpLs c (l.drop i) (l'.drop i) = cmpLs c l l' ∧ env = [(0, .sl nn l), (1, .sl nn' l'), (5, .int .i64 i)] ∧ s = ⟨[], k⟩) ?_ _ _ _ ⟨0, _, rfl, by omega, by omega, by simp, rfl, rfl⟩
  rintro _ _ _ ⟨i, k, rfl, hi, hj, hc0, rfl, rfl⟩
  refine ⟨rfl, ?_⟩
  have hfin : (¬ i < l.length ∨ ¬ i < l'.length) → cmpI l.length l'.length = cmpLs c l l' := fun h => by
    rw [← hc0]
    by_cases h1 : i < l.length
    · have e2 : l'.drop i = [] := List.drop_eq_nil_of_le (by omega)
      rw [List.drop_eq_getElem_cons h1, e2, cmpLs]
      unfold cmpI; repeat' split
      all_goals omega
    · have e1 : l.drop i = [] := List.drop_eq_nil_of_le (by omega)
      rw [e1]
      by_cases h2 : i < l'.length
      · rw [List.drop_eq_getElem_cons h2, cmpLs]
        unfold cmpI; repeat' split
        all_goals omega
      · have e2 : l'.drop i = [] := List.drop_eq_nil_of_le (by omega)
        rw [e2, cmpLs]
        unfold cmpI; repeat' split
        all_goals omega
  have hin : PureP (findFn tab) 121 [.int .i64 l.length, .int .i64 l'.length] (· = .int .i64 (cmpI l.length l'.length)) := intsRc
  by_cases hlt : i < l.length
  · by_cases hly : i < l'.length
    · rw [cmpLs_step hlt hly] at hc0
      obtain ⟨gx, gy, e1, e2, hp⟩ := hel i hlt hly
      have n1 : nth l (Int.toNat (Nat.cast i)) = some gx.av := by rw [← e1]; exact nRN hlt
      have n2 : nth l' (Int.toNat (Nat.cast i)) = some gy.av := by rw [← e2]; exact nRN hly
      generalize c l[i] l'[i] = z at *
      unfold fst0 at hc0
      clear hfin hin
      (conv => whnf); repeat' (first | (apply nthK_intro; (· exact n1); conv => whnf) | (apply nthK_intro; (· exact n2); conv => whnf) | (refine callK_of hp ?_; rintro _ rfl; conv => whnf) | ((with_reducible first | apply kN | apply kW | apply kX | apply kG | apply kQ); (· exact sd); conv => whnf) | (refine pcase.mk ?_ ?_ <;> intro hc <;> (try rw [List.length_nil] at hc) <;> first | (exfalso; omega) | (exact absurd rfl hc) | conv => whnf) | (refine bcase_intro ?_ ?_ <;> intro hc <;> conv => whnf))
      all_goals first
        | (rw [if_neg (by assumption)] at hc0; rw [← hc0]; rfl)
        | (rw [if_pos (by assumption)] at hc0; exact again.mk ⟨_, by omega, i + 1, _, rfl, by omega, by omega, hc0, rfl, rfl⟩)
        | (exfalso; omega)
        | (trace_state; fail "listsR1")
    · rw [hfin (.inr hly)] at hin
      (conv => whnf); repeat' (first | (refine callK_of hin ?_; rintro _ rfl; conv => whnf) | ((with_reducible first | apply kN | apply kW | apply kX | apply kG | apply kQ); (· exact sd); conv => whnf) | (refine pcase.mk ?_ ?_ <;> intro hc <;> (try rw [List.length_nil] at hc) <;> first | (exfalso; omega) | (exact absurd rfl hc) | conv => whnf) | (refine bcase_intro ?_ ?_ <;> intro hc <;> conv => whnf))
      all_goals first | rfl | (exfalso; omega) | (trace_state; fail "listsR2")
  · rw [hfin (.inl hlt)] at hin
    (conv => whnf); repeat' (first | (refine callK_of hin ?_; rintro _ rfl; conv => whnf) | ((with_reducible first | apply kN | apply kW | apply kX | apply kG | apply kQ); (· exact sd); conv => whnf) | (refine pcase.mk ?_ ?_ <;> intro hc <;> (try rw [List.length_nil] at hc) <;> first | (exfalso; omega) | (exact absurd rfl hc) | conv => whnf) | (refine bcase_intro ?_ ?_ <;> intro hc <;> conv => whnf))
    all_goals first | rfl | (exfalso; omega) | (trace_state; fail "listsR3")

/-- all fields -/
theorem fieldsRc {a b : GV} {L : Int} (hL : PureP (findFn tab) 181 [.sl a.nn a.l, .sl b.nn b.l] (· = .int .i64 L)) :
    PureP (findFn tab) 120 [a.av, b.av] (· = .int .i64 (fst0 (cmpI a.k b.k) (fst0 (cmpI a.n b.n) (fst0 (cmpI a.d b.d) (fst0 (cS a.s b.s) L))))) := by
  have q1 : PureP (findFn tab) 121 [.int .i64 a.k, .int .i64 b.k] (· = .int .i64 (cmpI a.k b.k)) := intsRc
  have q2 : PureP (findFn tab) 121 [.int .i64 a.n, .int .i64 b.n] (· = .int .i64 (cmpI a.n b.n)) := intsRc
  have q3 : PureP (findFn tab) 121 [.int .i64 a.d, .int .i64 b.d] (· = .int .i64 (cmpI a.d b.d)) := intsRc
  have q4 := strsRc (x := a.s) (y := b.s)
  generalize cmpI a.k b.k = z1 at *
  generalize cmpI a.n b.n = z2 at *
  generalize cmpI a.d b.d = z3 at *
  generalize cS a.s b.s = z4 at *
  have e : ∀ x y : Int, x = y → AV.int .i64 x = .int .i64 y := fun x y h => by rw [h]
  refine pureP_of rfl rfl ?_
  (conv => whnf); repeat' (first | (refine callK_of q1 ?_; rintro _ rfl; conv => whnf) | (refine callK_of q2 ?_; rintro _ rfl; conv => whnf) | (refine callK_of q3 ?_; rintro _ rfl; conv => whnf) | (refine callK_of q4 ?_; rintro _ rfl; conv => whnf) | (refine callK_of hL ?_; rintro _ rfl; conv => whnf) | ((with_reducible first | apply kN | apply kW | apply kX | apply kG | apply kQ); (· exact sd); conv => whnf) | (refine pcase.mk ?_ ?_ <;> intro hc <;> (try rw [List.length_nil] at hc) <;> first | (exfalso; omega) | (exact absurd rfl hc) | conv => whnf) | (refine bcase_intro ?_ ?_ <;> intro hc <;> conv => whnf))
  all_goals first
    | exact e _ _ (by rw [fst0_n (by assumption)])
    | exact e _ _ (by unfold fst0; repeat' split
                      all_goals omega)
    | (trace_state; fail "fieldsRc")

theorem kinds_le {a : GV} (h : VV 8 a) : 0 ≤ a.k ∧ a.k ≤ 8 := by
  by_cases h7 : a.k = 7
  · omega
  · by_cases h8 : a.k = 8
    · omega
    · rw [VV_b h7 h8] at h
      obtain ⟨_, h⟩ := h
      omega
theorem cls_iso {k k' : Int} (h : 0 ≤ k ∧ k ≤ 8) (h' : 0 ≤ k' ∧ k' ≤ 8) : cmpI (clsR k) (clsR k') = cmpI (clsP k) (clsP k') := by
  have h1 : k = 0 ∨ k = 1 ∨ k = 2 ∨ k = 3 ∨ k = 4 ∨ k = 5 ∨ k = 6 ∨ k = 7 ∨ k = 8 := by omega
  have h2 : k' = 0 ∨ k' = 1 ∨ k' = 2 ∨ k' = 3 ∨ k' = 4 ∨ k' = 5 ∨ k' = 6 ∨ k' = 7 ∨ k' = 8 := by omega
  rcases h1 with rfl | rfl | rfl | rfl | rfl | rfl | rfl | rfl | rfl <;> rcases h2 with rfl | rfl | rfl | rfl | rfl | rfl | rfl | rfl | rfl <;> decide
/-- what a valid value that is no number has in its fields -/
theorem plainF {a : GV} (h : VV 8 a) (h2 : ¬ clsP a.k = 2) : a.d = 0 ∧ (a.k = 4 → a.n = 0) ∧ (a.k ≠ 4 → a.s = []) := by
  rw [cls2] at h2
  by_cases h7 : a.k = 7
  · have := (VV_7 h7).1 h
    exact ⟨this.2.1, fun h => by omega, fun _ => this.2.2.1⟩
  · by_cases h8 : a.k = 8
    · have := (VV_8 (m := 7) h8).1 h
      exact ⟨this.2.1, fun h => by omega, fun _ => this.2.2.1⟩
    · obtain ⟨k1, k2⟩ := kindR h h7 h8
      rw [VV_b h7 h8] at h
      obtain ⟨_, h⟩ := h
      refine ⟨?_, k1, k2⟩
      rcases h with h | h | h | h | h | h <;> first | exact h.2.2.1 | exact h.2.2.2.1 | (exfalso; omega)

set_option maxHeartbeats 1000000 in
theorem orderVR : ∀ (m : Nat) {a b : GV}, a.ok → b.ok → dep m a → dep m b → PureP (findFn tab) 84 [a.av, b.av] (· = .int .i64 (cmpV m a b))
  | 0, a, b, ha, hb, da, db => absurd da id
  | m + 1, a, b, ha, hb, da, db => by
    unfold cmpV
    by_cases va : VV 8 a
    · have p1 := vR ha va
      rw [if_pos va]
      by_cases vb : VV 8 b
      · have p2 := vR hb vb
        rw [if_pos vb]
        have k1 := classR (k := a.k)
        have k2 := classR (k := b.k)
        have k3 : PureP (findFn tab) 121 [.int .i64 (clsR a.k), .int .i64 (clsR b.k)] (· = .int .i64 (cmpI (clsP a.k) (clsP b.k))) := by
          rw [← cls_iso (kinds_le va) (kinds_le vb)]; exact intsRc
        unfold ordS
        by_cases h0 : cmpI (clsP a.k) (clsP b.k) = 0
        · rw [h0, fst0_z]
          rw [h0] at k3
          have he := cmpI_zero.1 h0
          by_cases h2 : clsP a.k = 2
          · rw [if_pos h2]
            have na : isN a := ⟨va, cls2.1 h2⟩
            have nb : isN b := ⟨vb, cls2.1 (by omega)⟩
            have q1 := nR1 ha na
            have q2 := nR1 hb nb
            have q3 := cmpR3 (isN_VF na) (isN_VF nb)
            unfold fracC
            rw [isN_pd na, isN_pd nb]
            refine pureP_of rfl rfl ?_
            (conv => whnf); repeat' (first | (refine callK_of p1 ?_; rintro _ rfl; conv => whnf) | (refine callK_of p2 ?_; rintro _ rfl; conv => whnf) | (refine callK_of k1 ?_; rintro _ rfl; conv => whnf) | (refine callK_of k2 ?_; rintro _ rfl; conv => whnf) | (refine callK_of k3 ?_; rintro _ rfl; conv => whnf) | (refine callK_of q1 ?_; rintro _ rfl; conv => whnf) | (refine callK_of q2 ?_; rintro _ rfl; conv => whnf) | (refine callK_of q3 ?_; rintro _ rfl; conv => whnf) | ((with_reducible first | apply kN | apply kW | apply kX | apply kG | apply kQ); (· exact sd); conv => whnf) | (refine pcase.mk ?_ ?_ <;> intro hc <;> (try rw [List.length_nil] at hc) <;> first | (exfalso; omega) | (exact absurd rfl hc) | conv => whnf) | (refine bcase_intro ?_ ?_ <;> intro hc <;> conv => whnf))
            all_goals first | rfl | (exfalso; omega) | (trace_state; fail "orderR1")
          · rw [if_neg h2]
            have na : ¬ isN a := fun h => h2 (cls2.2 h.2)
            have nb : ¬ isN b := fun h => h2 (by rw [he]; exact cls2.2 h.2)
            have q1 := nR0 ha na
            have q2 := nR0 hb nb
            have hkk : a.k = b.k := by
              have := kinds_le va
              have := kinds_le vb
              rw [cls2] at h2
              unfold clsP at he
              repeat' split at he
              all_goals omega
            obtain ⟨f1, f2, f3⟩ := plainF va h2
            obtain ⟨g1, g2, g3⟩ := plainF vb (by rw [← he]; exact h2)
            have q3 := fieldsRc (a := a) (b := b) (listsRc (c := fun x y => ordS m (gvOf x) (gvOf y)) (nn := a.nn) (nn' := b.nn) (okN ha) (okN hb) (fun i hi hi' => by
              obtain ⟨g, e1, g1, g2⟩ := dep_at da hi
              obtain ⟨h, e2, h1, h2⟩ := dep_at db hi'
              refine ⟨g, h, e1, e2, ?_⟩
              rw [e1, e2]
              have := orderVR m g1 h1 g2 h2
              have e : cmpV m g h = ordS m g h := by
                cases m with
                | zero => exact absurd g2 id
                | succ m => unfold cmpV; rw [if_pos (elemV va hi e1), if_pos (elemV vb hi' e2)]
              rw [e] at this
              exact this))
            have e : fst0 (cmpI a.k b.k) (fst0 (cmpI a.n b.n) (fst0 (cmpI a.d b.d) (fst0 (cS a.s b.s) (cmpLs (fun x y => ordS m (gvOf x) (gvOf y)) a.l b.l)))) = fst0 (cS a.s b.s) (fst0 (cmpI a.n b.n) (cmpLs (fun x y => ordS m (gvOf x) (gvOf y)) a.l b.l)) := by
              rw [cmpI_zero.2 hkk, fst0_z, f1, g1, cmpI_zero.2 rfl, fst0_z]
              by_cases h4 : a.k = 4
              · rw [f2 h4, g2 (by omega), cmpI_zero.2 rfl, fst0_z, fst0_z]
              · rw [f3 h4, g3 (by omega), cS_zero.2 rfl, fst0_z, fst0_z]
            rw [e] at q3
            refine pureP_of rfl rfl ?_
            (conv => whnf); repeat' (first | (refine callK_of p1 ?_; rintro _ rfl; conv => whnf) | (refine callK_of p2 ?_; rintro _ rfl; conv => whnf) | (refine callK_of k1 ?_; rintro _ rfl; conv => whnf) | (refine callK_of k2 ?_; rintro _ rfl; conv => whnf) | (refine callK_of k3 ?_; rintro _ rfl; conv => whnf) | (refine callK_of q1 ?_; rintro _ rfl; conv => whnf) | (refine callK_of q2 ?_; rintro _ rfl; conv => whnf) | (refine callK_of q3 ?_; rintro _ rfl; conv => whnf) | ((with_reducible first | apply kN | apply kW | apply kX | apply kG | apply kQ); (· exact sd); conv => whnf) | (refine pcase.mk ?_ ?_ <;> intro hc <;> (try rw [List.length_nil] at hc) <;> first | (exfalso; omega) | (exact absurd rfl hc) | conv => whnf) | (refine bcase_intro ?_ ?_ <;> intro hc <;> conv => whnf))
            all_goals first | rfl | (exfalso; omega) | (trace_state; fail "orderR2")
        · rw [fst0_n h0]
          refine pureP_of rfl rfl ?_
          (conv => whnf); repeat' (first | (refine callK_of p1 ?_; rintro _ rfl; conv => whnf) | (refine callK_of p2 ?_; rintro _ rfl; conv => whnf) | (refine callK_of k1 ?_; rintro _ rfl; conv => whnf) | (refine callK_of k2 ?_; rintro _ rfl; conv => whnf) | (refine callK_of k3 ?_; rintro _ rfl; conv => whnf) | ((with_reducible first | apply kN | apply kW | apply kX | apply kG | apply kQ); (· exact sd); conv => whnf) | (refine pcase.mk ?_ ?_ <;> intro hc <;> (try rw [List.length_nil] at hc) <;> first | (exfalso; omega) | (exact absurd rfl hc) | conv => whnf) | (refine bcase_intro ?_ ?_ <;> intro hc <;> conv => whnf))
          all_goals first | rfl | (exfalso; omega) | (trace_state; fail "orderR3")
      · have p2 := vRn hb vb
        rw [if_neg vb]
        refine pureP_of rfl rfl ?_
        (conv => whnf); repeat' (first | (refine callK_of p1 ?_; rintro _ rfl; conv => whnf) | (refine callK_of p2 ?_; rintro _ rfl; conv => whnf) | (refine callK_of yesT ?_; rintro _ rfl; conv => whnf) | (refine callK_of yesF' ?_; rintro _ rfl; conv => whnf) | ((with_reducible first | apply kN | apply kW | apply kX | apply kG | apply kQ); (· exact sd); conv => whnf) | (refine pcase.mk ?_ ?_ <;> intro hc <;> (try rw [List.length_nil] at hc) <;> first | (exfalso; omega) | (exact absurd rfl hc) | conv => whnf) | (refine bcase_intro ?_ ?_ <;> intro hc <;> conv => whnf))
        all_goals first | rfl | (exfalso; simp_all; done) | (trace_state; fail "orderR4")
    · have p1 := vRn ha va
      rw [if_neg va]
      by_cases vb : VV 8 b
      · have p2 := vR hb vb
        rw [if_pos vb]
        refine pureP_of rfl rfl ?_
        (conv => whnf); repeat' (first | (refine callK_of p1 ?_; rintro _ rfl; conv => whnf) | (refine callK_of p2 ?_; rintro _ rfl; conv => whnf) | (refine callK_of yesT ?_; rintro _ rfl; conv => whnf) | (refine callK_of yesF' ?_; rintro _ rfl; conv => whnf) | ((with_reducible first | apply kN | apply kW | apply kX | apply kG | apply kQ); (· exact sd); conv => whnf) | (refine pcase.mk ?_ ?_ <;> intro hc <;> (try rw [List.length_nil] at hc) <;> first | (exfalso; omega) | (exact absurd rfl hc) | conv => whnf) | (refine bcase_intro ?_ ?_ <;> intro hc <;> conv => whnf))
        all_goals first | rfl | (exfalso; simp_all; done) | (trace_state; fail "orderR5")
      · have p2 := vRn hb vb
        rw [if_neg vb]
        have q3 := fieldsRc (a := a) (b := b) (listsRc (c := fun x y => cmpV m (gvOf x) (gvOf y)) (nn := a.nn) (nn' := b.nn) (okN ha) (okN hb) (fun i hi hi' => by
          obtain ⟨g, e1, g1, g2⟩ := dep_at da hi
          obtain ⟨h, e2, h1, h2⟩ := dep_at db hi'
          refine ⟨g, h, e1, e2, ?_⟩
          rw [e1, e2]
          exact orderVR m g1 h1 g2 h2))
        refine pureP_of rfl rfl ?_
        (conv => whnf); repeat' (first | (refine callK_of p1 ?_; rintro _ rfl; conv => whnf) | (refine callK_of p2 ?_; rintro _ rfl; conv => whnf) | (refine callK_of q3 ?_; rintro _ rfl; conv => whnf) | ((with_reducible first | apply kN | apply kW | apply kX | apply kG | apply kQ); (· exact sd); conv => whnf) | (refine pcase.mk ?_ ?_ <;> intro hc <;> (try rw [List.length_nil] at hc) <;> first | (exfalso; omega) | (exact absurd rfl hc) | conv => whnf) | (refine bcase_intro ?_ ?_ <;> intro hc <;> conv => whnf))
        all_goals first | rfl | (exfalso; simp_all; done) | (trace_state; fail "orderR6")

end AI
end Go.Proofs.YtbkibamoigmboaaGreatDoor
