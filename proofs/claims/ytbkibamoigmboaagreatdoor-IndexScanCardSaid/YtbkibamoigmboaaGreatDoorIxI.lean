/- The ids of entries: the program's (sorted, each once) and the reference's (put in one by one). -/
import Derived.Test.YtbkibamoigmboaaGreatDoorIxT
import Derived.Test.YtbkibamoigmboaaGreatDoorMH
import Derived.Test.YtbkibamoigmboaaGreatDoorPO1
import Derived.Test.YtbkibamoigmboaaGreatDoorPK1
set_option linter.unusedVariables false
set_option maxRecDepth 4000
namespace Go.Proofs.YtbkibamoigmboaaGreatDoor
namespace AI
open Go.Sort

theorem ltI_tot (x y : Int) (h1 : ltI x y = false) (h2 : ltI y x = false) : x = y := by
  have a := ltI_no.1 h1
  have b := ltI_no.1 h2
  omega
/-- an increasing list of these numbers -/
def SetI (M : Int → Prop) (v : AV) : Prop := ∃ b W, v = .sl b (vs (.int .i64) W) ∧ W.Pairwise (fun x y => ltI x y = true) ∧ W.length ≤ 100000 ∧ ∀ y, y ∈ W ↔ M y

theorem cpnI {W : List Int} (hs : W.Pairwise (fun x y => ltI y x = false)) : (cpn W.toArray W.length).Pairwise (fun x y => ltI x y = true) ∧ ∀ x, x ∈ cpn W.toArray W.length ↔ x ∈ W := by
  constructor
  · refine cpn_lt ltI_swo ltI_tot (d := W.toArray) ?_ W.length (by simp)
    intro i j h0 hij hj
    simp only [List.size_toArray] at hj
    rw [getElem!_pos _ j (by simpa using hj), getElem!_pos _ i (by simp; omega)]
    simp only [List.getElem_toArray]
    exact List.pairwise_iff_getElem.1 hs i j (by omega) hj hij
  · intro x
    rw [mem_cpn W.length (by simp)]; simp

/-- what an entry adds -/
def hit (label key : List UInt8) (ok : GV → Bool) (e : GT) : Prop := e.label = label ∧ e.key = key ∧ ok e.v = true
def hits (label key : List UInt8) (ok : GV → Bool) (l : List GT) (x : Int) : Prop := ∃ e ∈ l, hit label key ok e ∧ x = e.id
instance (label key : List UInt8) (ok : GV → Bool) (e : GT) : Decidable (hit label key ok e) := by unfold hit; infer_instance
/-- the ids of those that fit, in order -/
def hitL (label key : List UInt8) (ok : GV → Bool) (l : List GT) : List Int := (l.filter fun e => decide (hit label key ok e)).map GT.id
theorem hitL_snoc {label key : List UInt8} {ok : GV → Bool} {l : List GT} {i : Nat} (h : i < l.length) : hitL label key ok (l.take (i + 1)) = hitL label key ok (l.take i) ++ if hit label key ok l[i] then [l[i].id] else [] := by
  unfold hitL
  rw [filter_take_succ h, List.map_append]
  congr 1
  by_cases hh : hit label key ok l[i]
  · simp [hh]
  · simp [hh]
theorem hitL_len {label key : List UInt8} {ok : GV → Bool} {l : List GT} : (hitL label key ok l).length ≤ l.length := by
  unfold hitL; rw [List.length_map]; exact List.length_filter_le _ _
theorem mem_hitL {label key : List UInt8} {ok : GV → Bool} {l : List GT} {x : Int} : x ∈ hitL label key ok l ↔ hits label key ok l x := by
  unfold hitL hits
  simp only [List.mem_map, List.mem_filter, decide_eq_true_eq]
  constructor
  · rintro ⟨e, ⟨h1, h2⟩, rfl⟩; exact ⟨e, h1, h2, rfl⟩
  · rintro ⟨e, h1, h2, rfl⟩; exact ⟨e, ⟨h1, h2⟩, rfl⟩

set_option maxHeartbeats 2000000 in
theorem idsP {l : List GT} {nn : Bool} {label key : List UInt8} {f : Nat} {cs : List AV} {ok : GV → Bool} (hl : l.length ≤ 100000) (hcl : closedL cs = true) (hf : ∀ e ∈ l, PureP (findFn tab) f (e.v.av :: cs) (· = .bool (ok e.v))) :
    PureP (findFn tab) 47 [.sl nn (vs GT.av l), .str label, .str key, .fn f cs] (SetI (hits label key ok l)) := by
  refine pureP_of rfl rfl ?_
  (conv => whnf); repeat' (first  | ((with_reducible first | apply kN | apply kW | apply kX | apply kG | apply kQ); (· exact sd); conv => whnf) | (refine pcase.mk ?_ ?_ <;> intro hc <;> (try rw [List.length_nil] at hc) <;> first | (exfalso; omega) | (exact absurd rfl hc) | conv => whnf) | (refine bcase_intro ?_ ?_ <;> intro hc <;> conv => whnf))
  refine loop_inv (fun z env s => ∃ (i c ga n : Nat) (fa : Bool) (A : List Int), z = l.length - i ∧ i ≤ l.length ∧ A = hitL label key ok (l.take i) ∧ n = A.length ∧ A.length ≤ i ∧ env = [(1, .str label), (2, .str key), (3, .fn f cs), (9, .own 0 ga 0 n), (12, .sl nn (vs GT.av l)), (13, .int .i64 l.length), (14, .int .i64 i)] ∧ s = ⟨[.arr ga 1 fa true (vs (.int .i64) A)], c⟩) ?_ _ _ _ ⟨0, _, _, _, _, [], rfl, by omega, rfl, rfl, by simp, by first | rfl | (rw [← lV (f := GT.av) l]; rfl), rfl⟩
  rintro _ _ _ ⟨i, c, ga, n, fa, A, rfl, hi, hA, hn, hAl, rfl, rfl⟩
  refine ⟨rfl, ?_⟩
  by_cases hlt : i < l.length
  · have hs := hitL_snoc (label := label) (key := key) (ok := ok) hlt
    rw [← hA] at hs
    have hfi := hf l[i] (List.getElem_mem hlt)
    by_cases h1 : l[i].label = label
    · by_cases h2 : l[i].key = key
      · cases h3 : ok l[i].v with
        | true =>
          rw [h3] at hfi
          rw [if_pos ⟨h1, h2, h3⟩] at hs
          (conv => whnf); repeat' (first | (refine callK_of hfi ?_; rintro _ rfl; conv => whnf) | (refine apV1 (f := .int .i64) (l := A) (x := (l[i]).id) cellsI hn (by omega) ?_; conv => whnf) | ((with_reducible first | apply kN | apply kW | apply kX | apply kG | apply kQ); (· exact sd); conv => whnf) | (refine pcase.mk ?_ ?_ <;> intro hc <;> (try rw [List.length_nil] at hc) <;> first | (exfalso; omega) | (exact absurd rfl hc) | conv => whnf) | (refine bcase_intro ?_ ?_ <;> intro hc <;> conv => whnf))
          all_goals first
            | exact again.mk ⟨_, by omega, i + 1, _, _, _, _, A ++ [(l[i]).id], rfl, by omega, hs.symm, by simp, by simp; omega, rfl, rfl⟩
            | (exfalso; simp_all; done)
            | (trace_state; fail "ids1")
        | false =>
          rw [h3] at hfi
          rw [if_neg (fun h => by have := h.2.2; rw [h3] at this; cases this), List.append_nil] at hs
          (conv => whnf); repeat' (first | (refine callK_of hfi ?_; rintro _ rfl; conv => whnf) | ((with_reducible first | apply kN | apply kW | apply kX | apply kG | apply kQ); (· exact sd); conv => whnf) | (refine pcase.mk ?_ ?_ <;> intro hc <;> (try rw [List.length_nil] at hc) <;> first | (exfalso; omega) | (exact absurd rfl hc) | conv => whnf) | (refine bcase_intro ?_ ?_ <;> intro hc <;> conv => whnf))
          all_goals first
            | exact again.mk ⟨_, by omega, i + 1, _, _, _, _, A, rfl, by omega, hs.symm, hn, by omega, rfl, rfl⟩
            | (exfalso; simp_all; done)
            | (trace_state; fail "ids2")
      · rw [if_neg (fun h => h2 h.2.1), List.append_nil] at hs
        (conv => whnf); repeat' (first  | ((with_reducible first | apply kN | apply kW | apply kX | apply kG | apply kQ); (· exact sd); conv => whnf) | (refine pcase.mk ?_ ?_ <;> intro hc <;> (try rw [List.length_nil] at hc) <;> first | (exfalso; omega) | (exact absurd rfl hc) | conv => whnf) | (refine bcase_intro ?_ ?_ <;> intro hc <;> conv => whnf))
        all_goals first
          | exact again.mk ⟨_, by omega, i + 1, _, _, _, _, A, rfl, by omega, hs.symm, hn, by omega, rfl, rfl⟩
          | (exfalso; simp_all; done)
          | (trace_state; fail "ids3")
    · rw [if_neg (fun h => h1 h.1), List.append_nil] at hs
      (conv => whnf); repeat' (first  | ((with_reducible first | apply kN | apply kW | apply kX | apply kG | apply kQ); (· exact sd); conv => whnf) | (refine pcase.mk ?_ ?_ <;> intro hc <;> (try rw [List.length_nil] at hc) <;> first | (exfalso; omega) | (exact absurd rfl hc) | conv => whnf) | (refine bcase_intro ?_ ?_ <;> intro hc <;> conv => whnf))
      all_goals first
        | exact again.mk ⟨_, by omega, i + 1, _, _, _, _, A, rfl, by omega, hs.symm, hn, by omega, rfl, rfl⟩
        | (exfalso; simp_all; done)
        | (trace_state; fail "ids4")
  · rw [List.take_of_length_le (by omega)] at hA
    (conv => whnf); repeat' (first  | ((with_reducible first | apply kN | apply kW | apply kX | apply kG | apply kQ); (· exact sd); conv => whnf) | (refine pcase.mk ?_ ?_ <;> intro hc <;> (try rw [List.length_nil] at hc) <;> first | (exfalso; omega) | (exact absurd rfl hc) | conv => whnf) | (refine bcase_intro ?_ ?_ <;> intro hc <;> conv => whnf))
    refine (pksort (L := A) hn.symm (by omega)).mono ?_
    rintro _ _ ⟨c1, W, rfl, rfl, p1, p2⟩
    have hw := p1.length_eq
    conv => whnf
    apply getK_intro rfl
    (conv => whnf); repeat' (first  | ((with_reducible first | apply kN | apply kW | apply kX | apply kG | apply kQ); (· exact sd); conv => whnf) | (refine pcase.mk ?_ ?_ <;> intro hc <;> (try rw [List.length_nil] at hc) <;> first | (exfalso; omega) | (exact absurd rfl hc) | conv => whnf) | (refine bcase_intro ?_ ?_ <;> intro hc <;> conv => whnf))
    refine (pkcpt (d := W.toArray) (by simp; omega) (by omega)).mono ?_
    rintro _ _ ⟨c3, T, rfl, rfl⟩
    rw [show n = W.length by omega]
    conv => whnf
    apply getK_intro rfl
    (conv => whnf); repeat' (first  | ((with_reducible first | apply kN | apply kW | apply kX | apply kG | apply kQ); (· exact sd); conv => whnf) | (refine pcase.mk ?_ ?_ <;> intro hc <;> (try rw [List.length_nil] at hc) <;> first | (exfalso; omega) | (exact absurd rfl hc) | conv => whnf) | (refine bcase_intro ?_ ?_ <;> intro hc <;> conv => whnf))
    have l1 := cpn_len W.toArray W.length
    obtain ⟨q1, q2⟩ := cpnI p2
    refine ⟨fa, cpn W.toArray W.length, ?_, q1, by omega, fun x => ?_⟩
    · rw [sub_vs]; simp
    · rw [q2, p1.mem_iff, hA, mem_hitL]

theorem SetI_eq {M : Int → Prop} {v w : AV} (h1 : SetI M v) (h2 : SetI M w) : PureP (findFn tab) 12 [v, w] (· = .bool true) := by
  obtain ⟨b1, W1, rfl, s1, l1, m1⟩ := h1
  obtain ⟨b2, W2, rfl, s2, l2, m2⟩ := h2
  obtain rfl : W1 = W2 := strict_unique ltI_swo s1 s2 fun x => by rw [m1, m2]
  exact intsSame (by omega)

end AI
end Go.Proofs.YtbkibamoigmboaaGreatDoor
