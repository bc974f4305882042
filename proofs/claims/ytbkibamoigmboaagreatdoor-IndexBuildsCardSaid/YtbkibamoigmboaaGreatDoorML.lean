/- The reference's wide numbers: they are reckoned without a panic. The reference's numbers, classes, strings compared. The reference's comparison of a fraction with itself. -/
import Derived.Test.YtbkibamoigmboaaGreatDoorMG
set_option linter.unusedVariables false
set_option maxRecDepth 4000
namespace Go.Proofs.YtbkibamoigmboaaGreatDoor
namespace AI

/-- digits -/
def Dig (l : List Int) : Prop := l.length = 14 ∧ ∀ x ∈ l, 0 ≤ x ∧ x ≤ 999

theorem Dig.set {l : List Int} (h : Dig l) {k : Nat} {y : Int} (hy : 0 ≤ y ∧ y ≤ 999) : Dig (l.set k y) := by
  refine ⟨by rw [List.length_set]; exact h.1, fun x hx => ?_⟩
  rcases List.mem_or_eq_of_mem_set hx with hx | rfl
  · exact h.2 x hx
  · exact hy

theorem mul_bound {d e : Int} (h1 : 0 ≤ d) (h2 : d ≤ 999) (h3 : 0 ≤ e) (h4 : e ≤ 999) : 0 ≤ d * e ∧ d * e ≤ 998001 :=
  ⟨Int.mul_nonneg h1 h3, by
    have := Int.mul_le_mul h2 h4 h3 (by omega : (0 : Int) ≤ 999)
    omega⟩

theorem tmE {c : Int} (h : 0 ≤ c) : c.tmod 1000 = c % 1000 := Int.tmod_eq_emod_of_nonneg h
theorem tdE {c : Int} (h : 0 ≤ c) : c.tdiv 1000 = c / 1000 := Int.tdiv_eq_ediv_of_nonneg h

/-- what is left of a number after so many digits -/
def Left (j : Nat) (c : Int) : Prop := 0 ≤ c ∧ ((j = 0 ∧ c < 1000000000000000000) ∨ (j = 1 ∧ c < 1000000000000000) ∨ (j = 2 ∧ c < 1000000000000) ∨ (j = 3 ∧ c < 1000000000) ∨ (j = 4 ∧ c < 1000000) ∨ (j = 5 ∧ c < 1000) ∨ (6 ≤ j ∧ c = 0))

def Carry (j : Nat) (y : Int) : Prop := 0 ≤ y ∧ ((j ≤ 6 ∧ y ≤ 999) ∨ (j = 7 ∧ y ≤ 1) ∨ (j = 8 ∧ y = 0))

theorem step_left {j : Nat} {c : Int} (h : Left j c) : Left (j + 1) (c.tdiv 1000) := by
  have e := tdE h.1
  unfold Left at *; omega
theorem step_carry {j : Nat} {c y x d : Int} (h : Left j c) (hy : Carry j y) (hj : 0 < c ∨ 0 < y) (hx : 0 ≤ x ∧ x ≤ 999 ∧ (j = 7 → x = 0)) (hd : 0 ≤ d ∧ d ≤ 999) : Carry (j + 1) ((y + x + d * c.tmod 1000).tdiv 1000) := by
  have e1 := tmE h.1
  have hm := h.1
  obtain ⟨m1, m2⟩ := mul_bound hd.1 hd.2 (e := c.tmod 1000) (by omega) (by omega)
  have hy0 := hy.1
  have e2 := tdE (c := y + x + d * c.tmod 1000) (by omega)
  have hc : c.tmod 1000 = 0 ∨ j ≤ 5 := by unfold Left at h; omega
  rw [e2]
  rcases hc with h0 | h0
  · have hm0 : d * c.tmod 1000 = 0 := by rw [h0]; exact Int.mul_zero _
    rw [hm0]
    unfold Carry Left at *; omega
  · unfold Carry Left at *; omega

/-- one row -/
theorem timesI {i : Nat} {dd : Int} {A : Int} {l : List Int} {Q : AExit → Env → Sto → Prop} (hi : i ≤ 5) (hl : Dig l) (hz : ∀ q (h : q < l.length), i + 7 ≤ q → l[q] = 0) (hd : 0 ≤ dd ∧ dd ≤ 999) {B C : Int} (hB : 0 ≤ C ∧ C ≤ 1000000000000000)
    (hQ : ∀ (l' : List Int) (c k y : Int), Dig l' → (∀ q (h : q < l'.length), i + 8 ≤ q → l'[q] = 0) → Q (.exit 2) [(0, .int .i64 A), (1, .int .i64 B), (5, .own 0 0 0 14), (6, .int .i64 i), (7, .int .i64 dd), (8, .int .i64 c), (9, .int .i64 y), (10, .int .i64 k), (27, .bool false)] ⟨[.arr 0 1 true true (ints l')], 1⟩) :
    Run (findFn tab) (.loop l138_0_h l138_0_b) [(0, .int .i64 A), (1, .int .i64 B), (5, .own 0 0 0 14), (6, .int .i64 i), (7, .int .i64 dd), (8, .int .i64 C), (9, .int .i64 0), (10, .int .i64 i)] ⟨[.arr 0 1 true true (ints l)], 1⟩ Q := by
  refine loop_inv (fun m env s => ∃ (j k : Nat) (c y : Int) (l : List Int), m = 8 - j ∧ k = i + j ∧ Left j c ∧ Carry j y ∧ Dig l ∧ (∀ q (h : q < l.length), i + 7 ≤ q → k ≤ q → l[q] = 0) ∧
    env = [(0, .int .i64 A), (1, .int .i64 B), (5, .own 0 0 0 14), (6, .int .i64 i), (7, .int .i64 dd), (8, .int .i64 c), (9, .int .i64 y), (10, .int .i64 k)] ∧ s = ⟨[.arr 0 1 true true (ints l)], 1⟩) ?_ _ _ _ ⟨0, i, C, 0, l, rfl, rfl, by unfold Left; omega, by unfold Carry; omega, hl, fun q h h1 h2 => hz q h h1, rfl, rfl⟩
  clear hl hz hB
  rintro _ _ _ ⟨j, k, c, y, l, rfl, hk, hc0, hy, hl, hz, rfl, rfl⟩
  refine ⟨rfl, ?_⟩
  have hll := hl.1
  have hj7 : 0 < c ∨ 0 < y → j ≤ 7 := by unfold Left Carry at *; omega
  have hk8 : k ≤ i + 8 := by unfold Carry at hy; omega
  have c0 := hc0.1
  have y0 := hy.1
  have c1 : c < 1000000000000000000 := by unfold Left at hc0; omega
  have y1 : y ≤ 999 := by unfold Carry at hy; omega
  have e2 := tdE c0
  obtain ⟨m0, m1, m2⟩ : ∃ m, dd * c.tmod 1000 = m ∧ 0 ≤ m ∧ m ≤ 998001 := ⟨_, rfl, by have := tmE c0; exact mul_bound hd.1 hd.2 (by omega) (by omega)⟩
  obtain ⟨x, hx⟩ : ∃ x : Int, ∀ h : k < l.length, l[k] = x ∧ 0 ≤ x ∧ x ≤ 999 ∧ (j = 7 → x = 0) := by
    by_cases h : k < l.length
    · exact ⟨l[k], fun _ => ⟨rfl, (hl.2 _ (List.getElem_mem h)).1, (hl.2 _ (List.getElem_mem h)).2, fun h7 => hz k h (by omega) (by omega)⟩⟩
    · exact ⟨0, fun h' => absurd h' h⟩
  have hkl : 0 < c ∨ 0 < y → k < l.length := by intro h; have := hj7 h; omega
  have hq : ∀ h : k < l.length, (y + x + dd * c.tmod 1000).tdiv 1000 = (y + x + dd * c.tmod 1000) / 1000 ∧ 0 ≤ y + x + dd * c.tmod 1000 ∧ y + x + dd * c.tmod 1000 ≤ 2000000 := by
    intro h
    have h1 := hx h
    have h2 : 0 ≤ y + x + dd * c.tmod 1000 := by omega
    exact ⟨tdE h2, h2, by omega⟩
  clear hj7
  by_cases hstop : 0 < c ∨ 0 < y
  · have hk1 := hkl hstop
    obtain ⟨q1, q2, q3⟩ := hq hk1
    obtain ⟨x0, x1, x2, x3⟩ := hx hk1
    have fin : ∀ k', k' = (k : Int) + 1 → again (fun m env s => ∃ (j k : Nat) (c y : Int) (l : List Int), m = 8 - j ∧ k = i + j ∧ Left j c ∧ Carry j y ∧ Dig l ∧ (∀ q (h : q < l.length), i + 7 ≤ q → k ≤ q → l[q] = 0) ∧
        env = [(0, .int .i64 A), (1, .int .i64 B), (5, .own 0 0 0 14), (6, .int .i64 i), (7, .int .i64 dd), (8, .int .i64 c), (9, .int .i64 y), (10, .int .i64 k)] ∧ s = ⟨[.arr 0 1 true true (ints l)], 1⟩) (8 - j)
        [(0, .int .i64 A), (1, .int .i64 B), (5, .own 0 0 0 14), (6, .int .i64 i), (7, .int .i64 dd), (8, .int .i64 (c.tdiv 1000)), (9, .int .i64 ((y + x + dd * c.tmod 1000).tdiv 1000)), (10, .int .i64 k')] ⟨[.arr 0 1 true true (ints (l.set k ((y + x + dd * c.tmod 1000).tmod 1000)))], 1⟩ := by
      intro k' hk'
      have e3 := tmE q2
      refine again.mk ⟨_, ?_, j + 1, k + 1, _, _, _, rfl, by omega, step_left hc0, step_carry hc0 hy hstop ⟨x1, x2, x3⟩ hd, hl.set (by rw [e3]; omega), fun q h h1 h2 => ?_, by rw [hk']; rfl, rfl⟩
      · have : j ≤ 7 := by unfold Left Carry at *; omega
        omega
      · rw [List.length_set] at h
        rw [List.getElem_set_ne (by omega)]
        exact hz q h h1 (by omega)
    clear hx hq hkl hz hl hc0 hy m2
    (conv => whnf); repeat' (first | ((with_reducible first | apply kN | apply kW | apply kX | apply kG | apply kQ); (· exact sd); conv => whnf) | (refine pcase.mk ?_ ?_ <;> intro hc <;> (try rw [List.length_nil] at hc) <;> first | (exfalso; omega) | (exact absurd rfl hc) | conv => whnf) | (rw [x0]; conv => whnf) | (refine bcase_intro ?_ ?_ <;> intro hc <;> conv => whnf))
    all_goals exact fin _ rfl
  · clear hx hq hkl
    (conv => whnf); repeat' (first | ((with_reducible first | apply kN | apply kW | apply kX | apply kG | apply kQ); (· exact sd); conv => whnf) | (refine pcase.mk ?_ ?_ <;> intro hc <;> (try rw [List.length_nil] at hc) <;> first | (exfalso; omega) | (exact absurd rfl hc) | conv => whnf)  | (refine bcase_intro ?_ ?_ <;> intro hc <;> conv => whnf))
    exact hQ l _ _ _ hl (fun q h h1 => hz q h (by omega) (by omega))

end AI
end Go.Proofs.YtbkibamoigmboaaGreatDoor
set_option linter.unusedVariables false
namespace Go.Proofs.YtbkibamoigmboaaGreatDoor
namespace AI

theorem number {g : GV} (hg : g.ok) : PureP (findFn tab) 90 [g.av] (fun v => ∃ n d b, v = .tup [.agg [.int .i64 n, .int .i64 d], .bool b]) := by
  refine pureP_of rfl rfl ?_
  (conv => whnf); repeat' (first | ((with_reducible first | apply kN | apply kW | apply kX | apply kG | apply kQ); (· exact sd); conv => whnf) | (refine pcase.mk ?_ ?_ <;> intro hc <;> (try rw [List.length_nil] at hc) <;> first | (exfalso; omega) | (exact absurd rfl hc) | conv => whnf) | (refine callK_of (Valid hg) ?_; rintro _ ⟨b, rfl⟩; conv => whnf) | (refine bcase_intro ?_ ?_ <;> intro hc <;> conv => whnf))
  all_goals exact ⟨_, _, _, rfl⟩

theorem classV {k : Int} : PureP (findFn tab) 122 [.int .i64 k] (fun v => ∃ z, v = .int .i64 z) := by
  refine pureP_of rfl rfl ?_
  (conv => whnf); repeat' (first | ((with_reducible first | apply kN | apply kW | apply kX | apply kG | apply kQ); (· exact sd); conv => whnf) | (refine pcase.mk ?_ ?_ <;> intro hc <;> (try rw [List.length_nil] at hc) <;> first | (exfalso; omega) | (exact absurd rfl hc) | conv => whnf)  | (refine bcase_intro ?_ ?_ <;> intro hc <;> conv => whnf))
  all_goals exact ⟨_, rfl⟩

theorem ints0 {k : Int} : PureP (findFn tab) 121 [.int .i64 k, .int .i64 k] (· = .int .i64 0) := by
  refine pureP_of rfl rfl ?_
  (conv => whnf); repeat' (first | ((with_reducible first | apply kN | apply kW | apply kX | apply kG | apply kQ); (· exact sd); conv => whnf) | (refine pcase.mk ?_ ?_ <;> intro hc <;> (try rw [List.length_nil] at hc) <;> first | (exfalso; omega) | (exact absurd rfl hc) | conv => whnf)  | (refine bcase_intro ?_ ?_ <;> intro hc <;> conv => whnf))
  all_goals rfl

theorem less_self : ∀ s : List UInt8, Op.bytesLess s s = false
  | [] => rfl
  | a :: s => by simp [Op.bytesLess, less_self s]

theorem strs0 {s : List UInt8} : PureP (findFn tab) 180 [.str s, .str s] (· = .int .i64 0) := by
  refine pureP_of rfl rfl ?_
  (conv => whnf); repeat' (first | ((with_reducible first | apply kN | apply kW | apply kX | apply kG | apply kQ); (· exact sd); conv => whnf) | (refine pcase.mk ?_ ?_ <;> intro hc <;> (try rw [List.length_nil] at hc) <;> first | (exfalso; omega) | (exact absurd rfl hc) | conv => whnf)  | (refine bcase_intro ?_ ?_ <;> intro hc <;> conv => whnf))
  all_goals first | rfl | (exfalso; simp [less_self] at hc)

end AI
end Go.Proofs.YtbkibamoigmboaaGreatDoor
set_option linter.unusedVariables false
namespace Go.Proofs.YtbkibamoigmboaaGreatDoor
namespace AI

theorem times {a b : Int} (ha : 0 ≤ a ∧ a ≤ 1000000000000000) (hb : 0 ≤ b ∧ b ≤ 1000000000000000) : PureP (findFn tab) 138 [.int .i64 a, .int .i64 b] (fun v => ∃ nn l, v = isl nn l ∧ Dig l) := by
  refine pureP_of rfl rfl ?_
  (conv => whnf); repeat' (first | ((with_reducible first | apply kN | apply kW | apply kX | apply kG | apply kQ); (· exact sd); conv => whnf) | (refine pcase.mk ?_ ?_ <;> intro hc <;> (try rw [List.length_nil] at hc) <;> first | (exfalso; omega) | (exact absurd rfl hc) | conv => whnf)  | (refine bcase_intro ?_ ?_ <;> intro hc <;> conv => whnf))
  refine loop_inv (fun m env s => ∃ (i : Nat) (a : Int) (l : List Int), m = 7 - i ∧ i ≤ 6 ∧ Left i a ∧ Dig l ∧ (∀ q (h : q < l.length), i + 7 ≤ q → l[q] = 0) ∧ env = [(0, .int .i64 a), (1, .int .i64 b), (5, .own 0 0 0 14), (6, .int .i64 i)] ∧ s = ⟨[.arr 0 1 true true (ints l)], 1⟩) ?_ _ _ _ ⟨0, a, List.replicate 14 0, rfl, by omega, by unfold Left; omega, ⟨by simp, by intro x hx; have := List.eq_of_mem_replicate hx; omega⟩, fun q h _ => List.getElem_replicate _, rfl, rfl⟩
  clear ha a
  rintro _ _ _ ⟨i, a, l, rfl, hi, hL, hl, hz, rfl, rfl⟩
  refine ⟨rfl, ?_⟩
  have a0 := hL.1
  have e1 := tmE a0
  have e2 := tdE a0
  have a1 : a < 1000000000000000000 := by unfold Left at hL; omega
  (conv => whnf); repeat' (first | ((with_reducible first | apply kN | apply kW | apply kX | apply kG | apply kQ); (· exact sd); conv => whnf) | (refine pcase.mk ?_ ?_ <;> intro hc <;> (try rw [List.length_nil] at hc) <;> first | (exfalso; omega) | (exact absurd rfl hc) | conv => whnf)  | (refine bcase_intro ?_ ?_ <;> intro hc <;> conv => whnf))
  · have hi5 : i ≤ 5 := by unfold Left at hL; omega
    refine timesI (dd := a.tmod 1000) hi5 hl hz (by omega) hb ?_
    intro l' c k y hl' hz'
    (conv => whnf); repeat' (first | ((with_reducible first | apply kN | apply kW | apply kX | apply kG | apply kQ); (· exact sd); conv => whnf) | (refine pcase.mk ?_ ?_ <;> intro hc <;> (try rw [List.length_nil] at hc) <;> first | (exfalso; omega) | (exact absurd rfl hc) | conv => whnf)  | (refine bcase_intro ?_ ?_ <;> intro hc <;> conv => whnf))
    exact again.mk ⟨_, by omega, i + 1, _, l', rfl, by omega, step_left hL, hl', hz', rfl, rfl⟩
  · refine need.mk ⟨rfl, by rw [lI, hl.1]; omega⟩ (eqK_intro (b := ints l) ?_ ⟨true, l, rfl, hl⟩)
    have := @uI l
    rw [hl.1] at this
    exact this

theorem plus {x y : List Int} {na nb : Bool} (hx : Dig x) (hy : Dig y) : PureP (findFn tab) 202 [isl na x, isl nb y] (fun v => ∃ nn l, v = isl nn l) := by
  have hxl := hx.1
  have hyl := hy.1
  refine pureP_of rfl rfl ?_
  (conv => whnf); repeat' (first | ((with_reducible first | apply kN | apply kW | apply kX | apply kG | apply kQ); (· exact sd); conv => whnf) | (refine pcase.mk ?_ ?_ <;> intro hc <;> (try rw [List.length_nil] at hc) <;> first | (exfalso; omega) | (exact absurd rfl hc) | conv => whnf)  | (refine bcase_intro ?_ ?_ <;> intro hc <;> conv => whnf))
  refine loop_inv (fun m env s => ∃ (k : Nat) (c : Int) (l : List Int), m = 14 - k ∧ 0 ≤ c ∧ c ≤ 1 ∧ l.length = 14 ∧ env = [(0, isl na x), (1, isl nb y), (5, .own 0 0 0 (Int.toNat (Nat.cast x.length))), (6, .int .i64 c), (7, .int .i64 k)] ∧ s = ⟨[.arr 0 1 true true (ints l)], 1⟩) ?_ _ _ _ ⟨0, 0, List.replicate x.length 0, rfl, by omega, by omega, by simp [hxl], rfl, rfl⟩
  rintro _ _ _ ⟨k, c, l, rfl, c0, c1, hl, rfl, rfl⟩
  refine ⟨rfl, ?_⟩
  have bx : ∀ h : k < x.length, 0 ≤ x[k] ∧ x[k] ≤ 999 := fun h => hx.2 _ (List.getElem_mem h)
  have bY : ∀ h : k < y.length, 0 ≤ y[k] ∧ y[k] ≤ 999 := fun h => hy.2 _ (List.getElem_mem h)
  have hq : ∀ (h : k < x.length) (h2 : k < y.length), (c + x[k] + y[k]).tdiv 1000 = (c + x[k] + y[k]) / 1000 ∧ 0 ≤ x[k] ∧ x[k] ≤ 999 ∧ 0 ≤ y[k] ∧ y[k] ≤ 999 := by
    intro h h2
    have := bx h
    have := bY h2
    exact ⟨tdE (by omega), by omega⟩
  (conv => whnf); repeat' (first | ((with_reducible first | apply kN | apply kW | apply kX | apply kG | apply kQ); (· exact sd); conv => whnf) | (refine pcase.mk ?_ ?_ <;> intro hc <;> (try rw [List.length_nil] at hc) <;> first | (exfalso; omega) | (exact absurd rfl hc) | conv => whnf) | (have hwr := hq (by omega) (by omega); apply wrapK_intro; (· exact wrap_i64 (by omega) (by omega)); clear hwr; conv => whnf) | (refine bcase_intro ?_ ?_ <;> intro hc <;> conv => whnf))
  · obtain ⟨q1, q2⟩ := hq (by omega) (by omega)
    exact again.mk ⟨_, by omega, k + 1, _, _, rfl, by omega, by omega, by rw [List.length_set]; exact hl, rfl, rfl⟩
  · refine ⟨true, l, ?_⟩
    rw [hxl]
    have := @uI l
    rw [hl] at this
    exact congrArg (AV.sl true) this

theorem plusO {c0 : Nat} {x y : List Int} (hx : Dig x) (hy : Dig y) : Calls1 (findFn tab) 202 [.own 0 0 0 14, .own 1 1 0 14] ⟨[.arr 0 1 true true (ints x), .arr 1 1 true true (ints y)], c0⟩ fun out s' => ∃ l : List Int, out = .ok (.own 2 c0 0 14) ∧ s' = ⟨[.arr 0 1 true true (ints x), .arr 1 1 true true (ints y), .arr c0 1 true true (ints l)], c0 + 1⟩ ∧ l.length = 14 := by
  have hxl := hx.1
  have hyl := hy.1
  refine calls1_of rfl rfl ?_
  (conv => whnf); repeat' (first | ((with_reducible first | apply kN | apply kW | apply kX | apply kG | apply kQ); (· exact sd); conv => whnf) | (refine pcase.mk ?_ ?_ <;> intro hc <;> (try rw [List.length_nil] at hc) <;> first | (exfalso; omega) | (exact absurd rfl hc) | conv => whnf)  | (refine bcase_intro ?_ ?_ <;> intro hc <;> conv => whnf))
  refine loop_inv (fun m env s => ∃ (k : Nat) (c : Int) (l : List Int), m = 14 - k ∧ 0 ≤ c ∧ c ≤ 1 ∧ l.length = 14 ∧ env = [(0, .own 0 0 0 14), (1, .own 1 1 0 14), (5, .own 2 c0 0 14), (6, .int .i64 c), (7, .int .i64 k)] ∧ s = ⟨[.arr 0 1 true true (ints x), .arr 1 1 true true (ints y), .arr c0 1 true true (ints l)], c0 + 1⟩) ?_ _ _ _ ⟨0, 0, List.replicate 14 0, rfl, by omega, by omega, by simp, rfl, rfl⟩
  rintro _ _ _ ⟨k, c, l, rfl, c2, c1, hl, rfl, rfl⟩
  refine ⟨rfl, ?_⟩
  have bx : ∀ h : k < x.length, 0 ≤ x[k] ∧ x[k] ≤ 999 := fun h => hx.2 _ (List.getElem_mem h)
  have bY : ∀ h : k < y.length, 0 ≤ y[k] ∧ y[k] ≤ 999 := fun h => hy.2 _ (List.getElem_mem h)
  have hq : ∀ (h : k < x.length) (h2 : k < y.length), (c + x[k] + y[k]).tdiv 1000 = (c + x[k] + y[k]) / 1000 ∧ 0 ≤ x[k] ∧ x[k] ≤ 999 ∧ 0 ≤ y[k] ∧ y[k] ≤ 999 := by
    intro h h2
    have := bx h
    have := bY h2
    exact ⟨tdE (by omega), by omega⟩
  (conv => whnf); repeat' (first | ((with_reducible first | apply kN | apply kW | apply kX | apply kG | apply kQ); (· exact sd); conv => whnf) | (refine pcase.mk ?_ ?_ <;> intro hc <;> (try rw [List.length_nil] at hc) <;> first | (exfalso; omega) | (exact absurd rfl hc) | conv => whnf) | (have hwr := hq (by omega) (by omega); apply wrapK_intro; (· exact wrap_i64 (by omega) (by omega)); clear hwr; conv => whnf) | (refine bcase_intro ?_ ?_ <;> intro hc <;> conv => whnf))
  · obtain ⟨q1, q2⟩ := hq (by omega) (by omega)
    exact again.mk ⟨_, by omega, k + 1, _, _, rfl, by omega, by omega, by rw [List.length_set]; exact hl, rfl, rfl⟩
  · exact ⟨l, rfl, rfl, hl⟩

theorem dig0 : Dig (List.replicate 14 0) := ⟨by simp, by intro x hx; have := List.eq_of_mem_replicate hx; omega⟩

theorem order0 {x : List Int} {na : Bool} (hx : Dig x) : PureP (findFn tab) 203 [isl na x, isl na x] (· = .int .i64 0) := by
  have hxl := hx.1
  refine pureP_of rfl rfl ?_
  (conv => whnf); repeat' (first | ((with_reducible first | apply kN | apply kW | apply kX | apply kG | apply kQ); (· exact sd); conv => whnf) | (refine pcase.mk ?_ ?_ <;> intro hc <;> (try rw [List.length_nil] at hc) <;> first | (exfalso; omega) | (exact absurd rfl hc) | conv => whnf)  | (refine bcase_intro ?_ ?_ <;> intro hc <;> conv => whnf))
  refine loop_inv (fun m env s => ∃ (k : Int), m = (k + 1).toNat ∧ -1 ≤ k ∧ k ≤ 13 ∧ env = [(0, isl na x), (1, isl na x), (5, .int .i64 k)] ∧ s = ⟨[], 0⟩) ?_ _ _ _ ⟨_, rfl, ?_, ?_, rfl, rfl⟩
  rotate_left
  · omega
  · omega
  rintro _ _ _ ⟨k, rfl, k0, k1, rfl, rfl⟩
  refine ⟨rfl, ?_⟩
  (conv => whnf); repeat' (first | ((with_reducible first | apply kN | apply kW | apply kX | apply kG | apply kQ); (· exact sd); conv => whnf) | (refine pcase.mk ?_ ?_ <;> intro hc <;> (try rw [List.length_nil] at hc) <;> first | (exfalso; omega) | (exact absurd rfl hc) | conv => whnf)  | (refine bcase_intro ?_ ?_ <;> intro hc <;> conv => whnf))
  · exact again.mk ⟨_, by omega, _, rfl, by omega, by omega, rfl, rfl⟩
  · rfl

theorem sum0 {an : Int} {na : Bool} {l : List Int} (hl : Dig l) : PureP (findFn tab) 136 [.int .i64 an, isl na l, .int .i64 (0 - an), isl na l] (fun v => ∃ n2 l2, v = .tup [.int .i64 0, isl n2 l2]) := by
  refine pureP_of rfl rfl ?_
  (conv => whnf); repeat' (first | ((with_reducible first | apply kN | apply kW | apply kX | apply kG | apply kQ); (· exact sd); conv => whnf) | (refine pcase.mk ?_ ?_ <;> intro hc <;> (try rw [List.length_nil] at hc) <;> first | (exfalso; omega) | (exact absurd rfl hc) | conv => whnf) | (refine callK_of (plus hl hl) ?_; rintro _ ⟨nn, l, rfl⟩; conv => whnf) | (refine callK_of (order0 hl) ?_; rintro _ rfl; conv => whnf) | (refine bcase_intro ?_ ?_ <;> intro hc <;> conv => whnf))
  · exact ⟨_, _, by rw [show an = 0 by omega]; rfl⟩
  · refine Calls1.mono (K := fun out s' => ∃ l : List Int, out = .ok (.own 2 4 0 14) ∧ s' = ⟨[.arr 0 1 true true (ints (List.replicate 14 0)), .arr 1 1 true true (ints (List.replicate 14 0)), .arr 4 1 true true (ints l)], 5⟩ ∧ l.length = 14) (plusO (c0 := 4) dig0 dig0) ?_
    rintro _ _ ⟨l2, rfl, rfl, hl2⟩
    (conv => whnf); repeat' (first | ((with_reducible first | apply kN | apply kW | apply kX | apply kG | apply kQ); (· exact sd); conv => whnf) | (refine pcase.mk ?_ ?_ <;> intro hc <;> (try rw [List.length_nil] at hc) <;> first | (exfalso; omega) | (exact absurd rfl hc) | conv => whnf)  | (refine bcase_intro ?_ ?_ <;> intro hc <;> conv => whnf))
    refine ⟨true, l2, ?_⟩
    have := @uI l2
    rw [hl2] at this
    exact congrArg (fun q => AV.tup [.int .i64 0, .sl true q]) this

def sgn (n : Int) : Int := if n < 0 then -1 else if 0 < n then 1 else 0
theorem sign {n : Int} : PureP (findFn tab) 137 [.int .i64 n] (· = .int .i64 (sgn n)) := by
  refine pureP_of rfl rfl ?_
  (conv => whnf); repeat' (first | ((with_reducible first | apply kN | apply kW | apply kX | apply kG | apply kQ); (· exact sd); conv => whnf) | (refine pcase.mk ?_ ?_ <;> intro hc <;> (try rw [List.length_nil] at hc) <;> first | (exfalso; omega) | (exact absurd rfl hc) | conv => whnf)  | (refine bcase_intro ?_ ?_ <;> intro hc <;> conv => whnf))
  all_goals unfold sgn; first | (rw [if_pos (by omega)]; rfl) | (rw [if_neg (by omega), if_pos (by omega)]; rfl) | (rw [if_neg (by omega), if_neg (by omega)]; rfl)
theorem sgn_le (n : Int) : -1 ≤ sgn n ∧ sgn n ≤ 1 := by unfold sgn; repeat' split; all_goals omega

/-- a fraction is equal to itself -/
theorem cmp0 {n d : Int} : PureP (findFn tab) 92 [.agg [.int .i64 n, .int .i64 d], .agg [.int .i64 n, .int .i64 d]] (· = .int .i64 0) := by
  obtain ⟨_, ⟨b, rfl, hb⟩, hP⟩ := (fvalid (n := n) (d := d)).det
  have hs0 := sgn_le n
  have hs1 := sgn_le 0
  cases b with
  | true =>
    obtain ⟨d1, d2, n1, n2⟩ := hb rfl
    obtain ⟨_, ⟨z, rfl, z0, z1⟩, hz⟩ := (size (n := n) (by omega) (by omega)).det
    obtain ⟨_, ⟨nn, l, rfl, hl⟩, ht⟩ := (times (a := z) (b := d) (by omega) (by omega)).det
    refine pureP_of rfl rfl ?_
    (conv => whnf); repeat' (first | ((with_reducible first | apply kN | apply kW | apply kX | apply kG | apply kQ); (· exact sd); conv => whnf) | (refine pcase.mk ?_ ?_ <;> intro hc <;> (try rw [List.length_nil] at hc) <;> first | (exfalso; omega) | (exact absurd rfl hc) | conv => whnf) | (refine callK_of hP ?_; rintro _ rfl; conv => whnf) | (refine callK_of (sign (n := n)) ?_; rintro _ rfl; conv => whnf) | (refine callK_of hz ?_; rintro _ rfl; conv => whnf) | (refine callK_of ht ?_; rintro _ rfl; conv => whnf) | (refine callK_of (sum0 (an := sgn n) hl) ?_; rintro _ ⟨n2, l2, rfl⟩; conv => whnf) | (refine bcase_intro ?_ ?_ <;> intro hc <;> conv => whnf))
    all_goals rfl
  | false =>
    obtain ⟨_, ⟨z, rfl, z0, z1⟩, hz⟩ := (size (n := 0) (by omega) (by omega)).det
    obtain ⟨_, ⟨nn, l, rfl, hl⟩, ht⟩ := (times (a := z) (b := 1) (by omega) (by omega)).det
    refine pureP_of rfl rfl ?_
    (conv => whnf); repeat' (first | ((with_reducible first | apply kN | apply kW | apply kX | apply kG | apply kQ); (· exact sd); conv => whnf) | (refine pcase.mk ?_ ?_ <;> intro hc <;> (try rw [List.length_nil] at hc) <;> first | (exfalso; omega) | (exact absurd rfl hc) | conv => whnf) | (refine callK_of hP ?_; rintro _ rfl; conv => whnf) | (refine callK_of (sign (n := 0)) ?_; rintro _ rfl; conv => whnf) | (refine callK_of hz ?_; rintro _ rfl; conv => whnf) | (refine callK_of ht ?_; rintro _ rfl; conv => whnf) | (refine callK_of (sum0 (an := sgn 0) hl) ?_; rintro _ ⟨n2, l2, rfl⟩; conv => whnf) | (refine bcase_intro ?_ ?_ <;> intro hc <;> conv => whnf))
    all_goals rfl

end AI
end Go.Proofs.YtbkibamoigmboaaGreatDoor
