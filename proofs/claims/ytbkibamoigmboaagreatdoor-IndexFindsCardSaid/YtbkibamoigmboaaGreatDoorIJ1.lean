/- Finding ids: the reference puts them in one by one; both find the same. Ranges of values: the reference's; the program's Find and Range. The law about finding: any list of entries and any question. -/
import Derived.Test.YtbkibamoigmboaaGreatDoorIxI
import Derived.Test.YtbkibamoigmboaaGreatDoorVlM
import Derived.Test.YtbkibamoigmboaaGreatDoorIxLives
set_option linter.unusedVariables false
set_option maxRecDepth 4000
namespace Go.Proofs.YtbkibamoigmboaaGreatDoor
namespace AI
open Go.Sort

/-- two lists of the same numbers -/
theorem intsSame {L : List Int} {n1 n2 : Bool} (hl : L.length < 2^61) : PureP (findFn tab) 12 [.sl n1 (vs (.int .i64) L), .sl n2 (vs (.int .i64) L)] (· = .bool true) := by
  refine pureP_of rfl rfl ?_
  (conv => whnf); repeat' (first  | ((with_reducible first | apply kN | apply kW | apply kX | apply kG | apply kQ); (· exact sd); conv => whnf) | (refine pcase.mk ?_ ?_ <;> intro hc <;> (try rw [List.length_nil] at hc) <;> first | (exfalso; omega) | (exact absurd rfl hc) | conv => whnf) | (refine bcase_intro ?_ ?_ <;> intro hc <;> conv => whnf))
  all_goals first | (exfalso; omega) | skip
  refine loop_inv (fun m env s => ∃ i : Nat, m = L.length - i ∧ env = [(0, .sl n1 (vs (.int .i64) L)), (1, .sl n2 (vs (.int .i64) L)), (5, .int .i64 i)] ∧ s = ⟨[], 0⟩) ?_ _ _ _ ⟨0, rfl, rfl, rfl⟩
  rintro _ _ _ ⟨i, rfl, rfl, rfl⟩
  refine ⟨rfl, ?_⟩
  by_cases hlt : i < L.length
  · (conv => whnf); repeat' (first  | ((with_reducible first | apply kN | apply kW | apply kX | apply kG | apply kQ); (· exact sd); conv => whnf) | (refine pcase.mk ?_ ?_ <;> intro hc <;> (try rw [List.length_nil] at hc) <;> first | (exfalso; omega) | (exact absurd rfl hc) | conv => whnf) | (refine bcase_intro ?_ ?_ <;> intro hc <;> conv => whnf))
    all_goals first
      | exact again.mk ⟨_, by omega, i + 1, rfl, rfl, rfl⟩
      | (exfalso; simp_all; done)
      | (trace_state; fail "intsSame")
  · (conv => whnf); repeat' (first  | ((with_reducible first | apply kN | apply kW | apply kX | apply kG | apply kQ); (· exact sd); conv => whnf) | (refine pcase.mk ?_ ?_ <;> intro hc <;> (try rw [List.length_nil] at hc) <;> first | (exfalso; omega) | (exact absurd rfl hc) | conv => whnf) | (refine bcase_intro ?_ ?_ <;> intro hc <;> conv => whnf))
    all_goals first | rfl | (trace_state; fail "intsSame2")

theorem SetI_eq {M : Int → Prop} {v w : AV} (h1 : SetI M v) (h2 : SetI M w) : PureP (findFn tab) 12 [v, w] (· = .bool true) := by
  obtain ⟨b1, W1, rfl, s1, l1, m1⟩ := h1
  obtain ⟨b2, W2, rfl, s2, l2, m2⟩ := h2
  obtain rfl : W1 = W2 := strict_unique ltI_swo s1 s2 fun x => by rw [m1, m2]
  exact intsSame (by omega)

theorem ltI_of {x y : Int} (h : x < y) : ltI x y = true := ltI_iff.2 h
theorem ltI_ge {x y : Int} (h : ¬ x < y) : ltI x y = false := ltI_no.2 h

theorem withR {W : List Int} {b : Bool} {x : Int} (hl : W.length ≤ 100000) (hs : W.Pairwise (fun x y => ltI x y = true)) : PureP (findFn tab) 50 [.sl b (vs (.int .i64) W), .int .i64 x] (fun v => ∃ b' W', v = .sl b' (vs (.int .i64) W') ∧ W'.Pairwise (fun x y => ltI x y = true) ∧ W'.length ≤ W.length + 1 ∧ ∀ y, y ∈ W' ↔ y ∈ W ∨ y = x) := by
  refine pureP_of rfl rfl ?_
  (conv => whnf); repeat' (first  | ((with_reducible first | apply kN | apply kW | apply kX | apply kG | apply kQ); (· exact sd); conv => whnf) | (refine pcase.mk ?_ ?_ <;> intro hc <;> (try rw [List.length_nil] at hc) <;> first | (exfalso; omega) | (exact absurd rfl hc) | conv => whnf) | (refine bcase_intro ?_ ?_ <;> intro hc <;> conv => whnf))
  refine loop_inv (fun m env s => ∃ (i c ga n : Nat) (fa : Bool) (A : List Int), m = W.length - i ∧ i ≤ W.length ∧ A = W.take i ∧ n = A.length ∧ (∀ y ∈ W.take i, ltI y x = true) ∧ env = [(0, .sl b (vs (.int .i64) W)), (1, .int .i64 x), (5, .own 0 ga 0 n), (6, .int .i64 i)] ∧ s = ⟨[.arr ga 1 fa true (vs (.int .i64) A)], c⟩) ?_ _ _ _ ⟨0, _, _, _, _, [], rfl, by omega, rfl, rfl, by simp, rfl, rfl⟩
  rintro _ _ _ ⟨i, c, ga, n, fa, A, rfl, hi, hA, hn, hx, rfl, rfl⟩
  refine ⟨rfl, ?_⟩
  have hAl : A.length = i := by rw [hA, List.length_take]; omega
  by_cases hgo : ∃ h : i < W.length, W[i] < x
  · obtain ⟨hlt, hlx⟩ := hgo
    have hA2 : A ++ [W[i]] = W.take (i + 1) := by rw [List.take_succ_eq_append_getElem hlt, hA]
    have hx2 : ∀ y ∈ W.take (i + 1), ltI y x = true := by
      intro y hy
      rw [← hA2, hA, List.mem_append, List.mem_singleton] at hy
      rcases hy with hy | rfl
      · exact hx y hy
      · exact ltI_of hlx
    (conv => whnf); repeat' (first | (refine apV1 (f := .int .i64) (l := A) (x := W[i]) cellsI hn (by omega) ?_; conv => whnf) | ((with_reducible first | apply kN | apply kW | apply kX | apply kG | apply kQ); (· exact sd); conv => whnf) | (refine pcase.mk ?_ ?_ <;> intro hc <;> (try rw [List.length_nil] at hc) <;> first | (exfalso; omega) | (exact absurd rfl hc) | conv => whnf) | (refine bcase_intro ?_ ?_ <;> intro hc <;> conv => whnf))
    all_goals first
      | exact again.mk ⟨_, by omega, i + 1, _, _, _, _, A ++ [W[i]], rfl, by omega, hA2, by simp, hx2, rfl, rfl⟩
      | (exfalso; omega)
      | (trace_state; fail "with1")
  · have hx3 : ∀ h : i < W.length, ltI W[i] x = false := fun h => ltI_ge fun h2 => hgo ⟨h, h2⟩
    have hno : ∀ h : i < W.length, ¬ W[i] < x := fun h h2 => hgo ⟨h, h2⟩
    have hins := ins_ok ltI_swo ltI_tot hs hx hx3
    have hwhole : (W.take i ++ x :: (W.drop i).filter (ltI x)).length ≤ W.length + 1 := by
      have := List.length_filter_le (ltI x) (W.drop i)
      simp only [List.length_append, List.length_cons, List.length_take, List.length_drop] at this ⊢
      omega
    by_cases hlt : i < W.length
    · have hno' := hno hlt
      (conv => whnf); repeat' (first | (refine apV1 (f := .int .i64) (l := A) (x := x) cellsI hn (by omega) ?_; conv => whnf) | ((with_reducible first | apply kN | apply kW | apply kX | apply kG | apply kQ); (· exact sd); conv => whnf) | (refine pcase.mk ?_ ?_ <;> intro hc <;> (try rw [List.length_nil] at hc) <;> first | (exfalso; omega) | (exact absurd rfl hc) | conv => whnf) | (refine bcase_intro ?_ ?_ <;> intro hc <;> conv => whnf))
      all_goals first | (exfalso; omega) | skip
      refine loop_inv (fun m env s => ∃ (j c ga n : Nat) (fa : Bool) (B : List Int), m = W.length - j ∧ i ≤ j ∧ j ≤ W.length ∧ B = W.take i ++ x :: ((W.drop i).take (j - i)).filter (ltI x) ∧ n = B.length ∧ B.length ≤ j + 1 ∧ env = [(0, .sl b (vs (.int .i64) W)), (1, .int .i64 x), (5, .own 0 ga 0 n), (6, .int .i64 j)] ∧ s = ⟨[.arr ga 1 fa true (vs (.int .i64) B)], c⟩) ?_ _ _ _ ⟨i, _, _, _, _, A ++ [x], rfl, by omega, by omega, by rw [Nat.sub_self, List.take_zero, hA]; rfl, by simp, by simp; omega, rfl, rfl⟩
      clear hn
      rintro _ _ _ ⟨j, c, ga, n, fa, B, rfl, hij, hj, hB, hn, hBl, rfl, rfl⟩
      refine ⟨rfl, ?_⟩
      by_cases hjl : j < W.length
      · have hk : j - i < (W.drop i).length := by rw [List.length_drop]; omega
        have hg : (W.drop i)[j - i] = W[j] := by rw [List.getElem_drop]; congr 1; omega
        have hf := filter_take_succ (p := ltI x) hk
        rw [hg, show j - i + 1 = j + 1 - i by omega] at hf
        by_cases hxj : x < W[j]
        · rw [if_pos (ltI_of hxj)] at hf
          have hB2 : B ++ [W[j]] = W.take i ++ x :: ((W.drop i).take (j + 1 - i)).filter (ltI x) := by rw [hf, hB]; simp
          (conv => whnf); repeat' (first | (refine apV1 (f := .int .i64) (l := B) (x := W[j]) cellsI hn (by omega) ?_; conv => whnf) | ((with_reducible first | apply kN | apply kW | apply kX | apply kG | apply kQ); (· exact sd); conv => whnf) | (refine pcase.mk ?_ ?_ <;> intro hc <;> (try rw [List.length_nil] at hc) <;> first | (exfalso; omega) | (exact absurd rfl hc) | conv => whnf) | (refine bcase_intro ?_ ?_ <;> intro hc <;> conv => whnf))
          all_goals first
            | exact again.mk ⟨_, by omega, j + 1, _, _, _, _, B ++ [W[j]], rfl, by omega, by omega, hB2, by simp, by simp; omega, rfl, rfl⟩
            | (exfalso; omega)
            | (trace_state; fail "with2")
        · rw [if_neg (by rw [ltI_ge hxj]; exact Bool.noConfusion), List.append_nil] at hf
          (conv => whnf); repeat' (first  | ((with_reducible first | apply kN | apply kW | apply kX | apply kG | apply kQ); (· exact sd); conv => whnf) | (refine pcase.mk ?_ ?_ <;> intro hc <;> (try rw [List.length_nil] at hc) <;> first | (exfalso; omega) | (exact absurd rfl hc) | conv => whnf) | (refine bcase_intro ?_ ?_ <;> intro hc <;> conv => whnf))
          all_goals first
            | exact again.mk ⟨_, by omega, j + 1, _, _, _, _, B, rfl, by omega, by omega, by rw [hf, hB], hn, by omega, rfl, rfl⟩
            | (exfalso; omega)
            | (trace_state; fail "with3")
      · have hwh : (W.drop i).take (j - i) = W.drop i := List.take_of_length_le (by rw [List.length_drop]; omega)
        rw [hwh] at hB
        (conv => whnf); repeat' (first  | ((with_reducible first | apply kN | apply kW | apply kX | apply kG | apply kQ); (· exact sd); conv => whnf) | (refine pcase.mk ?_ ?_ <;> intro hc <;> (try rw [List.length_nil] at hc) <;> first | (exfalso; omega) | (exact absurd rfl hc) | conv => whnf) | (refine bcase_intro ?_ ?_ <;> intro hc <;> conv => whnf))
        refine ⟨fa, B, ?_, by rw [hB]; exact hins.1, by rw [hB]; exact hwhole, by rw [hB]; exact hins.2⟩
        rw [hn, sub_vs]; simp
    · (conv => whnf); repeat' (first | (refine apV1 (f := .int .i64) (l := A) (x := x) cellsI hn (by omega) ?_; conv => whnf) | ((with_reducible first | apply kN | apply kW | apply kX | apply kG | apply kQ); (· exact sd); conv => whnf) | (refine pcase.mk ?_ ?_ <;> intro hc <;> (try rw [List.length_nil] at hc) <;> first | (exfalso; omega) | (exact absurd rfl hc) | conv => whnf) | (refine bcase_intro ?_ ?_ <;> intro hc <;> conv => whnf))
      all_goals first | (exfalso; omega) | skip
      refine loop_inv (fun m env s => ∃ (j c ga n : Nat) (fa : Bool) (B : List Int), m = W.length - j ∧ i ≤ j ∧ j ≤ W.length ∧ B = W.take i ++ x :: ((W.drop i).take (j - i)).filter (ltI x) ∧ n = B.length ∧ B.length ≤ j + 1 ∧ env = [(0, .sl b (vs (.int .i64) W)), (1, .int .i64 x), (5, .own 0 ga 0 n), (6, .int .i64 j)] ∧ s = ⟨[.arr ga 1 fa true (vs (.int .i64) B)], c⟩) ?_ _ _ _ ⟨i, _, _, _, _, A ++ [x], rfl, by omega, by omega, by rw [Nat.sub_self, List.take_zero, hA]; rfl, by simp, by simp; omega, rfl, rfl⟩
      clear hn
      rintro _ _ _ ⟨j, c, ga, n, fa, B, rfl, hij, hj, hB, hn, hBl, rfl, rfl⟩
      refine ⟨rfl, ?_⟩
      by_cases hjl : j < W.length
      · have hk : j - i < (W.drop i).length := by rw [List.length_drop]; omega
        have hg : (W.drop i)[j - i] = W[j] := by rw [List.getElem_drop]; congr 1; omega
        have hf := filter_take_succ (p := ltI x) hk
        rw [hg, show j - i + 1 = j + 1 - i by omega] at hf
        by_cases hxj : x < W[j]
        · rw [if_pos (ltI_of hxj)] at hf
          have hB2 : B ++ [W[j]] = W.take i ++ x :: ((W.drop i).take (j + 1 - i)).filter (ltI x) := by rw [hf, hB]; simp
          (conv => whnf); repeat' (first | (refine apV1 (f := .int .i64) (l := B) (x := W[j]) cellsI hn (by omega) ?_; conv => whnf) | ((with_reducible first | apply kN | apply kW | apply kX | apply kG | apply kQ); (· exact sd); conv => whnf) | (refine pcase.mk ?_ ?_ <;> intro hc <;> (try rw [List.length_nil] at hc) <;> first | (exfalso; omega) | (exact absurd rfl hc) | conv => whnf) | (refine bcase_intro ?_ ?_ <;> intro hc <;> conv => whnf))
          all_goals first
            | exact again.mk ⟨_, by omega, j + 1, _, _, _, _, B ++ [W[j]], rfl, by omega, by omega, hB2, by simp, by simp; omega, rfl, rfl⟩
            | (exfalso; omega)
            | (trace_state; fail "with2")
        · rw [if_neg (by rw [ltI_ge hxj]; exact Bool.noConfusion), List.append_nil] at hf
          (conv => whnf); repeat' (first  | ((with_reducible first | apply kN | apply kW | apply kX | apply kG | apply kQ); (· exact sd); conv => whnf) | (refine pcase.mk ?_ ?_ <;> intro hc <;> (try rw [List.length_nil] at hc) <;> first | (exfalso; omega) | (exact absurd rfl hc) | conv => whnf) | (refine bcase_intro ?_ ?_ <;> intro hc <;> conv => whnf))
          all_goals first
            | exact again.mk ⟨_, by omega, j + 1, _, _, _, _, B, rfl, by omega, by omega, by rw [hf, hB], hn, by omega, rfl, rfl⟩
            | (exfalso; omega)
            | (trace_state; fail "with3")
      · have hwh : (W.drop i).take (j - i) = W.drop i := List.take_of_length_le (by rw [List.length_drop]; omega)
        rw [hwh] at hB
        (conv => whnf); repeat' (first  | ((with_reducible first | apply kN | apply kW | apply kX | apply kG | apply kQ); (· exact sd); conv => whnf) | (refine pcase.mk ?_ ?_ <;> intro hc <;> (try rw [List.length_nil] at hc) <;> first | (exfalso; omega) | (exact absurd rfl hc) | conv => whnf) | (refine bcase_intro ?_ ?_ <;> intro hc <;> conv => whnf))
        refine ⟨fa, B, ?_, by rw [hB]; exact hins.1, by rw [hB]; exact hwhole, by rw [hB]; exact hins.2⟩
        rw [hn, sub_vs]; simp

/-- what fits, taken one by one -/
theorem hits_succ {label key : List UInt8} {ok : GV → Bool} {l : List GT} {i : Nat} (h : i < l.length) {x : Int} : hits label key ok (l.take (i + 1)) x ↔ hits label key ok (l.take i) x ∨ (hit label key ok l[i] ∧ x = l[i].id) := by
  unfold hits
  rw [List.take_succ_eq_append_getElem h]
  constructor
  · rintro ⟨e, he, h1, h2⟩
    rw [List.mem_append, List.mem_singleton] at he
    rcases he with he | rfl
    · exact .inl ⟨e, he, h1, h2⟩
    · exact .inr ⟨h1, h2⟩
  · rintro (⟨e, he, h1, h2⟩ | ⟨h1, h2⟩)
    · exact ⟨e, List.mem_append_left _ he, h1, h2⟩
    · exact ⟨l[i], List.mem_append_right _ (List.mem_singleton.2 rfl), h1, h2⟩
/-- so far -/
def SoFar (label key : List UInt8) (ok : GV → Bool) (l : List GT) (i : Nat) (W : List Int) : Prop := W.Pairwise (fun x y => ltI x y = true) ∧ W.length ≤ i ∧ ∀ y, y ∈ W ↔ hits label key ok (l.take i) y
theorem sofar0 {label key : List UInt8} {ok : GV → Bool} {l : List GT} : SoFar label key ok l 0 [] := ⟨.nil, by simp, fun y => by simp [hits]⟩
theorem sofar_no {label key : List UInt8} {ok : GV → Bool} {l : List GT} {i : Nat} {W : List Int} (h : i < l.length) (hs : SoFar label key ok l i W) (hn : ¬ hit label key ok l[i]) : SoFar label key ok l (i + 1) W :=
  ⟨hs.1, by have := hs.2.1; omega, fun y => by rw [hs.2.2, hits_succ h]; exact ⟨.inl, fun k => k.elim id fun k => absurd k.1 hn⟩⟩
theorem sofar_yes {label key : List UInt8} {ok : GV → Bool} {l : List GT} {i : Nat} {W W' : List Int} (h : i < l.length) (hs : SoFar label key ok l i W) (hn : hit label key ok l[i]) (h1 : W'.Pairwise (fun x y => ltI x y = true)) (h2 : W'.length ≤ W.length + 1) (h3 : ∀ y, y ∈ W' ↔ y ∈ W ∨ y = l[i].id) : SoFar label key ok l (i + 1) W' :=
  ⟨h1, by have := hs.2.1; omega, fun y => by rw [h3, hs.2.2, hits_succ h]; exact ⟨fun k => k.elim .inl fun k => .inr ⟨hn, k⟩, fun k => k.elim .inl fun k => .inr k.2⟩⟩
theorem sofar_all {label key : List UInt8} {ok : GV → Bool} {l : List GT} {i : Nat} {W : List Int} {b : Bool} (hi : l.length ≤ i) (hil : i ≤ 100000) (hs : SoFar label key ok l i W) : SetI (hits label key ok l) (.sl b (vs (.int .i64) W)) := by
  obtain ⟨h1, h2, h3⟩ := hs
  rw [List.take_of_length_le hi] at h3
  exact ⟨b, W, rfl, h1, by omega, h3⟩

theorem findR {l : List GT} {nn : Bool} {label key : List UInt8} {v : GV} {ok : GV → Bool} (hl : l.length ≤ 100000) (hok : ∀ e ∈ l, ∃ x : Int, (x = 2 ↔ ok e.v = true) ∧ PureP (findFn tab) 49 [e.v.av, v.av] (· = .int .i64 x)) :
    PureP (findFn tab) 24 [.sl nn (vs GT.av l), .str label, .str key, v.av] (SetI (hits label key ok l)) := by
  refine pureP_of rfl rfl ?_
  (conv => whnf); repeat' (first  | ((with_reducible first | apply kN | apply kW | apply kX | apply kG | apply kQ); (· exact sd); conv => whnf) | (refine pcase.mk ?_ ?_ <;> intro hc <;> (try rw [List.length_nil] at hc) <;> first | (exfalso; omega) | (exact absurd rfl hc) | conv => whnf) | (refine bcase_intro ?_ ?_ <;> intro hc <;> conv => whnf))
  refine loop_inv (fun z env s => ∃ (i c : Nat) (b : Bool) (W : List Int), z = l.length - i ∧ i ≤ l.length ∧ SoFar label key ok l i W ∧ env = [(0, .sl nn (vs GT.av l)), (1, .str label), (2, .str key), (7, .ref 0 0 0 0), (9, .sl b (vs (.int .i64) W)), (10, .int .i64 i)] ∧ s = ⟨[.arr 0 5 true true [v.av]], c⟩) ?_ _ _ _ ⟨0, _, _, [], rfl, by omega, sofar0, rfl, rfl⟩
  rintro _ _ _ ⟨i, c, b, W, rfl, hi, hs, rfl, rfl⟩
  refine ⟨rfl, ?_⟩
  by_cases hlt : i < l.length
  · obtain ⟨x, hx, hp⟩ := hok l[i] (List.getElem_mem hlt)
    by_cases h1 : l[i].label = label
    · by_cases h2 : l[i].key = key
      · by_cases h3 : x = 2
        · have hh : hit label key ok l[i] := ⟨h1, h2, hx.1 h3⟩
          have hw := withR (W := W) (b := b) (x := l[i].id) (by have := hs.2.1; omega) hs.1
          (conv => whnf); repeat' (first | (refine callK_of hp ?_; rintro _ rfl; conv => whnf) | (refine callK_of hw ?_; rintro _ ⟨b', W', rfl, w1, w2, w3⟩; conv => whnf) | ((with_reducible first | apply kN | apply kW | apply kX | apply kG | apply kQ); (· exact sd); conv => whnf) | (refine pcase.mk ?_ ?_ <;> intro hc <;> (try rw [List.length_nil] at hc) <;> first | (exfalso; omega) | (exact absurd rfl hc) | conv => whnf) | (refine bcase_intro ?_ ?_ <;> intro hc <;> conv => whnf))
          all_goals first
            | exact again.mk ⟨_, by omega, i + 1, _, _, W', rfl, by omega, sofar_yes hlt hs hh w1 w2 w3, rfl, rfl⟩
            | (exfalso; simp_all; done)
            | (trace_state; fail "findR1")
        · have hh : ¬ hit label key ok l[i] := fun h => h3 (hx.2 h.2.2)
          (conv => whnf); repeat' (first | (refine callK_of hp ?_; rintro _ rfl; conv => whnf) | ((with_reducible first | apply kN | apply kW | apply kX | apply kG | apply kQ); (· exact sd); conv => whnf) | (refine pcase.mk ?_ ?_ <;> intro hc <;> (try rw [List.length_nil] at hc) <;> first | (exfalso; omega) | (exact absurd rfl hc) | conv => whnf) | (refine bcase_intro ?_ ?_ <;> intro hc <;> conv => whnf))
          all_goals first
            | exact again.mk ⟨_, by omega, i + 1, _, _, W, rfl, by omega, sofar_no hlt hs hh, rfl, rfl⟩
            | (exfalso; simp_all; done)
            | (trace_state; fail "findR2")
      · have hh : ¬ hit label key ok l[i] := fun h => h2 h.2.1
        (conv => whnf); repeat' (first  | ((with_reducible first | apply kN | apply kW | apply kX | apply kG | apply kQ); (· exact sd); conv => whnf) | (refine pcase.mk ?_ ?_ <;> intro hc <;> (try rw [List.length_nil] at hc) <;> first | (exfalso; omega) | (exact absurd rfl hc) | conv => whnf) | (refine bcase_intro ?_ ?_ <;> intro hc <;> conv => whnf))
        all_goals first
          | exact again.mk ⟨_, by omega, i + 1, _, _, W, rfl, by omega, sofar_no hlt hs hh, rfl, rfl⟩
          | (exfalso; simp_all; done)
          | (trace_state; fail "findR3")
    · have hh : ¬ hit label key ok l[i] := fun h => h1 h.1
      (conv => whnf); repeat' (first  | ((with_reducible first | apply kN | apply kW | apply kX | apply kG | apply kQ); (· exact sd); conv => whnf) | (refine pcase.mk ?_ ?_ <;> intro hc <;> (try rw [List.length_nil] at hc) <;> first | (exfalso; omega) | (exact absurd rfl hc) | conv => whnf) | (refine bcase_intro ?_ ?_ <;> intro hc <;> conv => whnf))
      all_goals first
        | exact again.mk ⟨_, by omega, i + 1, _, _, W, rfl, by omega, sofar_no hlt hs hh, rfl, rfl⟩
        | (exfalso; simp_all; done)
        | (trace_state; fail "findR4")
  · (conv => whnf); repeat' (first  | ((with_reducible first | apply kN | apply kW | apply kX | apply kG | apply kQ); (· exact sd); conv => whnf) | (refine pcase.mk ?_ ?_ <;> intro hc <;> (try rw [List.length_nil] at hc) <;> first | (exfalso; omega) | (exact absurd rfl hc) | conv => whnf) | (refine bcase_intro ?_ ?_ <;> intro hc <;> conv => whnf))
    exact sofar_all (by omega) (by omega) hs

end AI
end Go.Proofs.YtbkibamoigmboaaGreatDoor
set_option linter.unusedVariables false
namespace Go.Proofs.YtbkibamoigmboaaGreatDoor
namespace AI
open Go.Sort

/-- within bounds, as both reckon it -/
def within (n1 t1 n2 t2 : Bool) : Bool := (n1 || t1) && (n2 || t2)

set_option maxHeartbeats 1000000 in
theorem rangeR {l : List GT} {nn : Bool} {label key : List UInt8} {lo hi : GV} {ok : GV → Bool} (hlo : lo.ok) (hhi : hi.ok) (hl : l.length ≤ 100000)
    (hok : ∀ e ∈ l, ∃ t1 t2 : Bool, ok e.v = within (decide (isNull lo)) t1 (decide (isNull hi)) t2 ∧ PureP (findFn tab) 55 [lo.av, e.v.av] (· = .bool t1) ∧ PureP (findFn tab) 55 [e.v.av, hi.av] (· = .bool t2)) :
    PureP (findFn tab) 26 [.sl nn (vs GT.av l), .str label, .str key, lo.av, hi.av] (SetI (hits label key ok l)) := by
  have hn1 := nullBR hlo
  have hn2 := nullBR hhi
  generalize decide (isNull lo) = b1 at *
  generalize decide (isNull hi) = b2 at *
  refine pureP_of rfl rfl ?_
  (conv => whnf); repeat' (first  | ((with_reducible first | apply kN | apply kW | apply kX | apply kG | apply kQ); (· exact sd); conv => whnf) | (refine pcase.mk ?_ ?_ <;> intro hc <;> (try rw [List.length_nil] at hc) <;> first | (exfalso; omega) | (exact absurd rfl hc) | conv => whnf) | (refine bcase_intro ?_ ?_ <;> intro hc <;> conv => whnf))
  refine loop_inv (fun z env s => ∃ (i c : Nat) (b : Bool) (W : List Int), z = l.length - i ∧ i ≤ l.length ∧ SoFar label key ok l i W ∧ env = [(0, .sl nn (vs GT.av l)), (1, .str label), (2, .str key), (8, .ref 0 0 0 0), (9, .ref 1 1 0 0), (11, .sl b (vs (.int .i64) W)), (12, .int .i64 i)] ∧ s = ⟨[.arr 0 5 true true [lo.av], .arr 1 5 true true [hi.av]], c⟩) ?_ _ _ _ ⟨0, _, _, [], rfl, by omega, sofar0, rfl, rfl⟩
  rintro _ _ _ ⟨i, c, b, W, rfl, hi, hs, rfl, rfl⟩
  refine ⟨rfl, ?_⟩
  by_cases hlt : i < l.length
  · obtain ⟨t1, t2, hx, hp1, hp2⟩ := hok l[i] (List.getElem_mem hlt)
    by_cases h1 : l[i].label = label
    · by_cases h2 : l[i].key = key
      · cases h3 : ok l[i].v with
        | true =>
          rw [h3] at hx
          have hh : hit label key ok l[i] := ⟨h1, h2, h3⟩
          have hw := withR (W := W) (b := b) (x := l[i].id) (by have := hs.2.1; omega) hs.1
          cases b1 <;> cases b2 <;> cases t1 <;> cases t2 <;> (try exact absurd hx (by decide))
          all_goals
            (conv => whnf); repeat' (first | (refine callK_of hn1 ?_; rintro _ rfl; conv => whnf) | (refine callK_of hn2 ?_; rintro _ rfl; conv => whnf) | (refine callK_of hp1 ?_; rintro _ rfl; conv => whnf) | (refine callK_of hp2 ?_; rintro _ rfl; conv => whnf) | (refine callK_of hw ?_; rintro _ ⟨b', W', rfl, w1, w2, w3⟩; conv => whnf) | ((with_reducible first | apply kN | apply kW | apply kX | apply kG | apply kQ); (· exact sd); conv => whnf) | (refine pcase.mk ?_ ?_ <;> intro hc <;> (try rw [List.length_nil] at hc) <;> first | (exfalso; omega) | (exact absurd rfl hc) | conv => whnf) | (refine bcase_intro ?_ ?_ <;> intro hc <;> conv => whnf))
            all_goals first
              | exact again.mk ⟨_, by omega, i + 1, _, _, W', rfl, by omega, sofar_yes hlt hs hh w1 w2 w3, rfl, rfl⟩
              | (exfalso; simp_all; done)
              | (trace_state; fail "rangeR1")
        | false =>
          rw [h3] at hx
          have hh : ¬ hit label key ok l[i] := fun h => by have := h.2.2; rw [h3] at this; cases this
          cases b1 <;> cases b2 <;> cases t1 <;> cases t2 <;> (try exact absurd hx (by decide))
          all_goals
            (conv => whnf); repeat' (first | (refine callK_of hn1 ?_; rintro _ rfl; conv => whnf) | (refine callK_of hn2 ?_; rintro _ rfl; conv => whnf) | (refine callK_of hp1 ?_; rintro _ rfl; conv => whnf) | (refine callK_of hp2 ?_; rintro _ rfl; conv => whnf) | ((with_reducible first | apply kN | apply kW | apply kX | apply kG | apply kQ); (· exact sd); conv => whnf) | (refine pcase.mk ?_ ?_ <;> intro hc <;> (try rw [List.length_nil] at hc) <;> first | (exfalso; omega) | (exact absurd rfl hc) | conv => whnf) | (refine bcase_intro ?_ ?_ <;> intro hc <;> conv => whnf))
            all_goals first
              | exact again.mk ⟨_, by omega, i + 1, _, _, W, rfl, by omega, sofar_no hlt hs hh, rfl, rfl⟩
              | (exfalso; simp_all; done)
              | (trace_state; fail "rangeR2")
      · have hh : ¬ hit label key ok l[i] := fun h => h2 h.2.1
        (conv => whnf); repeat' (first  | ((with_reducible first | apply kN | apply kW | apply kX | apply kG | apply kQ); (· exact sd); conv => whnf) | (refine pcase.mk ?_ ?_ <;> intro hc <;> (try rw [List.length_nil] at hc) <;> first | (exfalso; omega) | (exact absurd rfl hc) | conv => whnf) | (refine bcase_intro ?_ ?_ <;> intro hc <;> conv => whnf))
        all_goals first
          | exact again.mk ⟨_, by omega, i + 1, _, _, W, rfl, by omega, sofar_no hlt hs hh, rfl, rfl⟩
          | (exfalso; simp_all; done)
          | (trace_state; fail "rangeR3")
    · have hh : ¬ hit label key ok l[i] := fun h => h1 h.1
      (conv => whnf); repeat' (first  | ((with_reducible first | apply kN | apply kW | apply kX | apply kG | apply kQ); (· exact sd); conv => whnf) | (refine pcase.mk ?_ ?_ <;> intro hc <;> (try rw [List.length_nil] at hc) <;> first | (exfalso; omega) | (exact absurd rfl hc) | conv => whnf) | (refine bcase_intro ?_ ?_ <;> intro hc <;> conv => whnf))
      all_goals first
        | exact again.mk ⟨_, by omega, i + 1, _, _, W, rfl, by omega, sofar_no hlt hs hh, rfl, rfl⟩
        | (exfalso; simp_all; done)
        | (trace_state; fail "rangeR4")
  · (conv => whnf); repeat' (first  | ((with_reducible first | apply kN | apply kW | apply kX | apply kG | apply kQ); (· exact sd); conv => whnf) | (refine pcase.mk ?_ ?_ <;> intro hc <;> (try rw [List.length_nil] at hc) <;> first | (exfalso; omega) | (exact absurd rfl hc) | conv => whnf) | (refine bcase_intro ?_ ?_ <;> intro hc <;> conv => whnf))
    exact sofar_all (by omega) (by omega) hs

/-- the condition of Find -/
theorem findOk {v : GV} (hv : v.ok) : ∃ ok : GV → Bool, ∀ e : GV, e.ok → PureP (findFn tab) 48 [e.av, .fref v.av.cells] (· = .bool (ok e)) ∧ ∃ x : Int, (x = 2 ↔ ok e = true) ∧ PureP (findFn tab) 49 [e.av, v.av] (· = .int .i64 x) := by
  have key : ∀ e : GV, ∃ t : Bool, e.ok → PureP (findFn tab) 48 [e.av, .fref v.av.cells] (· = .bool t) ∧ ∃ x : Int, (x = 2 ↔ t = true) ∧ PureP (findFn tab) 49 [e.av, v.av] (· = .int .i64 x) := by
    intro e
    by_cases he : e.ok
    · obtain ⟨x, h1, h2⟩ := EqualB he hv
      refine ⟨decide (x = 2), fun _ => ⟨?_, x, by simp, h2⟩⟩
      refine pureP_of rfl rfl ?_
      (conv => whnf); repeat' (first | (refine callK_of h1 ?_; rintro _ rfl; conv => whnf) | ((with_reducible first | apply kN | apply kW | apply kX | apply kG | apply kQ); (· exact sd); conv => whnf) | (refine pcase.mk ?_ ?_ <;> intro hc <;> (try rw [List.length_nil] at hc) <;> first | (exfalso; omega) | (exact absurd rfl hc) | conv => whnf) | (refine bcase_intro ?_ ?_ <;> intro hc <;> conv => whnf))
      all_goals first | exact bool_t (by assumption) | exact bool_f (by assumption) | (trace_state; fail "findOk")
    · exact ⟨false, fun h => absurd h he⟩
  exact ⟨fun e => Classical.choose (key e), fun e => Classical.choose_spec (key e)⟩

theorem findP {l : List GT} {nn : Bool} {label key : List UInt8} {v : GV} {ok : GV → Bool} (hl : l.length ≤ 100000) (hok : ∀ e ∈ l, PureP (findFn tab) 48 [e.v.av, .fref v.av.cells] (· = .bool (ok e.v))) :
    PureP (findFn tab) 23 [.sl nn (vs GT.av l), .str label, .str key, v.av] (SetI (hits label key ok l)) := by
  have h := idsP (nn := nn) (label := label) (key := key) (f := 48) (cs := [.fref v.av.cells]) (ok := ok) hl rfl hok
  refine pureP_of rfl rfl ?_
  (conv => whnf); repeat' (first | (refine callK_of h ?_; rintro _ ⟨b, W, rfl, h1, h2, h3⟩; conv => whnf) | ((with_reducible first | apply kN | apply kW | apply kX | apply kG | apply kQ); (· exact sd); conv => whnf) | (refine pcase.mk ?_ ?_ <;> intro hc <;> (try rw [List.length_nil] at hc) <;> first | (exfalso; omega) | (exact absurd rfl hc) | conv => whnf) | (refine bcase_intro ?_ ?_ <;> intro hc <;> conv => whnf))
  all_goals first | exact ⟨b, W, rfl, h1, h2, h3⟩ | (trace_state; fail "findP")

/-- the condition of Range -/
theorem rangeOk {lo hi : GV} (hlo : lo.ok) (hhi : hi.ok) : ∃ ok : GV → Bool, ∀ e : GV, e.ok → PureP (findFn tab) 51 [e.av, .fref lo.av.cells, .fref hi.av.cells] (· = .bool (ok e)) ∧ ∃ t1 t2 : Bool, ok e = within (decide (isNull lo)) t1 (decide (isNull hi)) t2 ∧ PureP (findFn tab) 55 [lo.av, e.av] (· = .bool t1) ∧ PureP (findFn tab) 55 [e.av, hi.av] (· = .bool t2) := by
  have hn1 := nullBP hlo
  have hn2 := nullBP hhi
  generalize decide (isNull lo) = b1 at *
  generalize decide (isNull hi) = b2 at *
  have key : ∀ e : GV, ∃ t : Bool, e.ok → PureP (findFn tab) 51 [e.av, .fref lo.av.cells, .fref hi.av.cells] (· = .bool t) ∧ ∃ t1 t2 : Bool, t = within b1 t1 b2 t2 ∧ PureP (findFn tab) 55 [lo.av, e.av] (· = .bool t1) ∧ PureP (findFn tab) 55 [e.av, hi.av] (· = .bool t2) := by
    intro e
    by_cases he : e.ok
    · obtain ⟨t1, h1, h2⟩ := atMostB hlo he
      obtain ⟨t2, h3, h4⟩ := atMostB he hhi
      refine ⟨within b1 t1 b2 t2, fun _ => ⟨?_, t1, t2, rfl, h2, h4⟩⟩
      cases b1 <;> cases b2 <;> cases t1 <;> cases t2
      all_goals
        refine pureP_of rfl rfl ?_
        (conv => whnf); repeat' (first | (refine callK_of hn1 ?_; rintro _ rfl; conv => whnf) | (refine callK_of hn2 ?_; rintro _ rfl; conv => whnf) | (refine callK_of h1 ?_; rintro _ rfl; conv => whnf) | (refine callK_of h3 ?_; rintro _ rfl; conv => whnf) | ((with_reducible first | apply kN | apply kW | apply kX | apply kG | apply kQ); (· exact sd); conv => whnf) | (refine pcase.mk ?_ ?_ <;> intro hc <;> (try rw [List.length_nil] at hc) <;> first | (exfalso; omega) | (exact absurd rfl hc) | conv => whnf) | (refine bcase_intro ?_ ?_ <;> intro hc <;> conv => whnf))
        all_goals first | rfl | (exfalso; simp_all; done) | (trace_state; fail "rangeOk")
    · exact ⟨false, fun h => absurd h he⟩
  exact ⟨fun e => Classical.choose (key e), fun e => Classical.choose_spec (key e)⟩

theorem rangeP {l : List GT} {nn : Bool} {label key : List UInt8} {lo hi : GV} {ok : GV → Bool} (hl : l.length ≤ 100000) (hok : ∀ e ∈ l, PureP (findFn tab) 51 [e.v.av, .fref lo.av.cells, .fref hi.av.cells] (· = .bool (ok e.v))) :
    PureP (findFn tab) 25 [.sl nn (vs GT.av l), .str label, .str key, lo.av, hi.av] (SetI (hits label key ok l)) := by
  have h := idsP (nn := nn) (label := label) (key := key) (f := 51) (cs := [.fref lo.av.cells, .fref hi.av.cells]) (ok := ok) hl rfl hok
  refine pureP_of rfl rfl ?_
  (conv => whnf); repeat' (first | (refine callK_of h ?_; rintro _ ⟨b, W, rfl, h1, h2, h3⟩; conv => whnf) | ((with_reducible first | apply kN | apply kW | apply kX | apply kG | apply kQ); (· exact sd); conv => whnf) | (refine pcase.mk ?_ ?_ <;> intro hc <;> (try rw [List.length_nil] at hc) <;> first | (exfalso; omega) | (exact absurd rfl hc) | conv => whnf) | (refine bcase_intro ?_ ?_ <;> intro hc <;> conv => whnf))
  all_goals first | exact ⟨b, W, rfl, h1, h2, h3⟩ | (trace_state; fail "rangeP")

end AI
end Go.Proofs.YtbkibamoigmboaaGreatDoor
set_option linter.unusedVariables false
namespace Go.Proofs.YtbkibamoigmboaaGreatDoor
namespace AI

theorem livesI : PureP (findFn tab) 11 [] (· = .bool (decide True)) := ⟨.bool true, ⟨80, lives_call⟩, rfl⟩

/-- a question -/
structure GQ where
  ln : Bool
  l : List GT
  g : GG
  label : List UInt8
  key : List UInt8
  lo : GV
  hi : GV
def GQ.av (q : GQ) : AV := .agg [.sl q.ln (vs GT.av q.l), .sl q.g.nn (vs GN.av q.g.nodes), .sl q.g.en (vs GE.av q.g.edges), .int .i64 q.g.nextN, .int .i64 q.g.nextE, .str q.label, .str q.key,
  .int .i64 q.lo.k, .int .i64 q.lo.n, .int .i64 q.lo.d, .str q.lo.s, .sl q.lo.nn q.lo.l, .int .i64 q.hi.k, .int .i64 q.hi.n, .int .i64 q.hi.d, .str q.hi.s, .sl q.hi.nn q.hi.l]
def GQ.ok (q : GQ) : Prop := Ln q.l ∧ (q.ln = false → q.l = []) ∧ (∀ e ∈ q.l, e.ok) ∧ q.g.ok ∧ Ln q.label ∧ Ln q.key ∧ q.lo.ok ∧ q.hi.ok

theorem c_ask : Tryz.prog.cellsOf 45 = 17 := by kernel_rfl
theorem c_entries : Tryz.prog.cellsOf 39 = 1 := by kernel_rfl
theorem len17 {l : List AV} (h : l.length = 17) : ∃ a b c d e f g i j k m n o p q r s, l = [a, b, c, d, e, f, g, i, j, k, m, n, o, p, q, r, s] := by
  rcases l with _ | ⟨a, _ | ⟨b, _ | ⟨c, _ | ⟨d, _ | ⟨e, _ | ⟨f, _ | ⟨g, _ | ⟨i, _ | ⟨j, _ | ⟨k, _ | ⟨m, _ | ⟨n, _ | ⟨o, _ | ⟨p, _ | ⟨q, _ | ⟨r, _ | ⟨s, _ | ⟨y, z⟩⟩⟩⟩⟩⟩⟩⟩⟩⟩⟩⟩⟩⟩⟩⟩⟩⟩ <;> simp at h
  exact ⟨a, b, c, d, e, f, g, i, j, k, m, n, o, p, q, r, s, rfl⟩

theorem likeC_graph {d : Nat} {cs : List AV} (h : likeC Tryz.prog d 25 cs) : ∃ v : GG, cs = [.sl v.nn (vs GN.av v.nodes), .sl v.en (vs GE.av v.edges), .int .i64 v.nextN, .int .i64 v.nextE] ∧ v.ok := by
  obtain ⟨d', rfl, g1, g2⟩ := likeC_struct Tryz.underlying25 h
  rw [c_graph] at g1
  obtain ⟨a, b, c, e, rfl⟩ := len4 g1
  clear g1
  simp only [List.forall_mem_cons] at g2
  obtain ⟨f1, f2, f3, f4, _⟩ := g2
  simp only [c_int, c_nodes, c_edges, List.drop_zero, List.drop_succ_cons, List.take_succ_cons, List.take_zero] at f1 f2 f3 f4
  obtain ⟨nn, N, e1, h1, h1a, h1b⟩ := likeC_map (f := GN.av) (Q := GN.ok) Tryz.underlying22 (fun d x h => like_node h) f1
  obtain ⟨en, E, e2, h2, h2a, h2b⟩ := likeC_map (f := GE.av) (Q := GE.ok) Tryz.underlying23 (fun d x h => like_edge h) f2
  obtain ⟨m, e3, h3⟩ := likeC_i f3
  obtain ⟨k, e4, h4⟩ := likeC_i f4
  cases e1; cases e2; cases e3; cases e4
  exact ⟨⟨nn, N, en, E, m, k⟩, rfl, h1a, h1, h1b, h2a, h2, h2b, h3, h4⟩

theorem like_ask {a : AV} (h : Like Tryz.prog 45 a) : ∃ q : GQ, a = q.av ∧ q.ok := by
  obtain ⟨d, h⟩ := h
  obtain ⟨cs, rfl, h0⟩ := like_struct Tryz.underlying45 h
  obtain ⟨d', rfl, g1, g2⟩ := likeC_struct Tryz.underlying45 h0
  rw [c_ask] at g1
  obtain ⟨a, b, c, d, e, f, g, i, j, k, m, n, o, p, q, r, s, rfl⟩ := len17 g1
  clear g1
  simp only [List.forall_mem_cons] at g2
  obtain ⟨f1, f2, f3, f4, f5, f6, _⟩ := g2
  simp only [c_entries, c_graph, c_string, c_value, List.drop_zero, List.drop_succ_cons, List.take_succ_cons, List.take_zero] at f1 f2 f3 f4 f5 f6
  obtain ⟨ln, L, e1, h1, h1a, h1b⟩ := likeC_map (f := GT.av) (Q := GT.ok) Tryz.underlying39 (fun d x h => like_entry h) f1
  obtain ⟨G, e2, h2⟩ := likeC_graph f2
  obtain ⟨s1, e3, h3⟩ := likeC_s f3
  obtain ⟨s2, e4, h4⟩ := likeC_s f4
  obtain ⟨v1, e5, h5⟩ := likeC_value f5
  obtain ⟨v2, e6, h6⟩ := likeC_value f6
  cases e1; cases e2; cases e3; cases e4; cases e5; cases e6
  exact ⟨⟨ln, L, G, s1, s2, v1, v2⟩, rfl, h1a, h1, h1b, h2, h3, h4, h5, h6⟩

set_option maxRecDepth 10000 in
theorem law_finds : ∀ xs, likes Tryz.prog [45] xs → Calls1 (findFn tab) 5 xs ⟨[], 0⟩ fun out _ => out = .ok (.bool true) := by
  intro xs h
  match xs, h with
  | [a], h =>
    obtain ⟨h1, _⟩ := h
    obtain ⟨q, rfl, hq⟩ := like_ask h1
    obtain ⟨hl, hn, hok, hg, hl1, hl2, hlo, hhi⟩ := hq
    unfold Ln at hl
    refine calls1_of rfl rfl ?_
    by_cases hc : 60 < q.l.length
    · (conv => whnf); repeat' (first | (refine callB livesI (fun _ => ?_) (fun h => absurd trivial h); conv => whnf) | ((with_reducible first | apply kN | apply kW | apply kX | apply kG | apply kQ); (· exact sd); conv => whnf) | (refine pcase.mk ?_ ?_ <;> intro hc <;> (try rw [List.length_nil] at hc) <;> first | (exfalso; omega) | (exact absurd rfl hc) | conv => whnf) | (refine bcase_intro ?_ ?_ <;> intro hc <;> conv => whnf))
      all_goals first | rfl | (exfalso; omega) | (trace_state; fail "law1")
    obtain ⟨ok1, k1⟩ := findOk hlo
    obtain ⟨ok2, k2⟩ := rangeOk hlo hhi
    obtain ⟨v1, s1, p1⟩ := (findP (l := q.l) (nn := q.ln) (label := q.label) (key := q.key) (v := q.lo) (ok := ok1) (by omega) (fun e he => (k1 e.v (hok e he).2.2.1).1)).det
    obtain ⟨v2, s2, p2⟩ := (findR (l := q.l) (nn := q.ln) (label := q.label) (key := q.key) (v := q.lo) (ok := ok1) (by omega) (fun e he => (k1 e.v (hok e he).2.2.1).2)).det
    obtain ⟨v3, s3, p3⟩ := (rangeP (l := q.l) (nn := q.ln) (label := q.label) (key := q.key) (lo := q.lo) (hi := q.hi) (ok := ok2) (by omega) (fun e he => (k2 e.v (hok e he).2.2.1).1)).det
    obtain ⟨v4, s4, p4⟩ := (rangeR (l := q.l) (nn := q.ln) (label := q.label) (key := q.key) (lo := q.lo) (hi := q.hi) (ok := ok2) hlo hhi (by omega) (fun e he => (k2 e.v (hok e he).2.2.1).2)).det
    have c1 := SetI_eq s1 s2
    have c2 := SetI_eq s3 s4
    obtain ⟨b1, W1, rfl, -⟩ := s1
    obtain ⟨b2, W2, rfl, -⟩ := s2
    obtain ⟨b3, W3, rfl, -⟩ := s3
    obtain ⟨b4, W4, rfl, -⟩ := s4
    clear k1 k2
    (conv => whnf); repeat' (first | (refine callK_of p1 ?_; rintro _ rfl; conv => whnf) | (refine callK_of p2 ?_; rintro _ rfl; conv => whnf) | (refine callK_of p3 ?_; rintro _ rfl; conv => whnf) | (refine callK_of p4 ?_; rintro _ rfl; conv => whnf) | (refine callK_of c1 ?_; rintro _ rfl; conv => whnf) | (refine callK_of c2 ?_; rintro _ rfl; conv => whnf) | (refine callB livesI (fun _ => ?_) (fun h => absurd trivial h); conv => whnf) | ((with_reducible first | apply kN | apply kW | apply kX | apply kG | apply kQ); (· exact sd); conv => whnf) | (refine pcase.mk ?_ ?_ <;> intro hc <;> (try rw [List.length_nil] at hc) <;> first | (exfalso; omega) | (exact absurd rfl hc) | conv => whnf) | (refine bcase_intro ?_ ?_ <;> intro hc <;> conv => whnf))
    all_goals first | rfl | (exfalso; omega) | (trace_state; fail "law2")

end AI
end Go.Proofs.YtbkibamoigmboaaGreatDoor
