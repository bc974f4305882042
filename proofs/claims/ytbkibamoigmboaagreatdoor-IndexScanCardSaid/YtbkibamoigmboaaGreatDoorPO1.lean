/- Orders: lexicographic, of numbers, of strings; the first that is not 0. Sorting numbers in place: the order. -/
import Derived.Test.YtbkibamoigmboaaGreatDoorCmI
import Derived.Test.YtbkibamoigmboaaGreatDoorMP
set_option linter.unusedVariables false
set_option maxRecDepth 4000
namespace Go.Proofs.YtbkibamoigmboaaGreatDoor
namespace AI
open Go.Sort

def fst0 (a b : Int) : Int := if a = 0 then b else a
def cS (x y : List UInt8) : Int := if Op.bytesLess x y = true then -1 else if Op.bytesLess y x = true then 1 else 0
/-- compares, as a total preorder -/
structure PC {α : Type} (c : α → α → Int) : Prop where
  anti : ∀ x y, c y x = - c x y
  trans : ∀ x y z, c x y ≤ 0 → c y z ≤ 0 → c x z ≤ 0

theorem PC.lex {α : Type} {c d : α → α → Int} (hc : PC c) (hd : PC d) : PC fun x y => fst0 (c x y) (d x y) where
  anti x y := by
    have h1 := hc.anti x y
    have h2 := hd.anti x y
    unfold fst0; split <;> split <;> omega
  trans x y z h1 h2 := by
    have a1 := hc.trans x y z
    have a2 := hc.trans y z x
    have a3 := hc.trans z x y
    have b1 := hc.anti x y
    have b2 := hc.anti y z
    have b3 := hc.anti x z
    have d1 := hd.trans x y z
    unfold fst0 at *
    split at h1 <;> split at h2 <;> split <;> omega
theorem PC.on {α β : Type} {c : β → β → Int} (h : PC c) (p : α → β) : PC fun x y => c (p x) (p y) := ⟨fun x y => h.anti _ _, fun x y z => h.trans _ _ _⟩
theorem pc_int : PC cmpI where
  anti x y := by unfold cmpI; repeat' split
                 all_goals omega
  trans x y z := by unfold cmpI; repeat' split
                    all_goals omega
theorem bl_less : ∀ (x y : List UInt8), Op.bytesLess x y = decide (x < y)
  | [], [] => by simp [Op.bytesLess]
  | _ :: _, [] => by simp [Op.bytesLess]
  | [], _ :: _ => by simp [Op.bytesLess]
  | a :: x, b :: y => by
    rw [Op.bytesLess, bl_less x y]
    simp only [List.cons_lt_cons_iff]
    by_cases h1 : a < b <;> by_cases h2 : a = b <;> by_cases h3 : x < y <;> simp [h1, h2, h3]
theorem bl_eq (x y : List UInt8) : Op.bytesLess x y = ltStr x y := bl_less x y
theorem bl_tot {x y : List UInt8} (h1 : Op.bytesLess x y = false) (h2 : Op.bytesLess y x = false) : x = y := by
  rw [bl_eq] at h1 h2
  simp only [ltStr, decide_eq_false_iff_not] at h1 h2
  exact List.le_antisymm (List.not_lt.1 h2) (List.not_lt.1 h1)
theorem pc_str : PC cS where
  anti x y := by
    have h : Op.bytesLess x y = true → Op.bytesLess y x = true → False := fun a b => by
      rw [bl_eq] at a b
      have := swo_ltStr.trans x y x a b
      rw [swo_ltStr.irrefl] at this; cases this
    unfold cS
    by_cases a : Op.bytesLess x y = true <;> by_cases b : Op.bytesLess y x = true <;> simp [a, b]
    exact h a b
  trans x y z h1 h2 := by
    have n1 : Op.bytesLess y x = false := by
      unfold cS at h1
      split at h1
      · rename_i a
        cases hb : Op.bytesLess y x with
        | false => rfl
        | true =>
          rw [bl_eq] at a hb
          have := swo_ltStr.trans x y x a hb
          rw [swo_ltStr.irrefl] at this; cases this
      · split at h1
        · omega
        · rename_i b; simpa using b
    have n2 : Op.bytesLess z y = false := by
      unfold cS at h2
      split at h2
      · rename_i a
        cases hb : Op.bytesLess z y with
        | false => rfl
        | true =>
          rw [bl_eq] at a hb
          have := swo_ltStr.trans y z y a hb
          rw [swo_ltStr.irrefl] at this; cases this
      · split at h2
        · omega
        · rename_i b; simpa using b
    have n3 : Op.bytesLess z x = false := by rw [bl_eq] at *; exact swo_ltStr.ntrans z y x n2 n1
    unfold cS
    split
    · omega
    · rw [n3]; simp
theorem cS_zero {x y : List UInt8} : cS x y = 0 ↔ x = y := by
  constructor
  · intro h
    unfold cS at h
    split at h
    · omega
    · split at h
      · omega
      · rename_i a b; exact bl_tot (by simpa using a) (by simpa using b)
  · rintro rfl
    have := pc_str.anti x x
    omega
theorem fst0_zero {a b : Int} : fst0 a b = 0 ↔ a = 0 ∧ b = 0 := by unfold fst0; split <;> omega
theorem nanSR {x : List UInt8} : PureP (findFn tab) 96 [.str x] (· = .bool false) := by
  refine pureP_of rfl rfl ?_
  (conv => whnf); repeat' (first  | ((with_reducible first | apply kN | apply kW | apply kX | apply kG | apply kQ); (· exact sd); conv => whnf) | (refine pcase.mk ?_ ?_ <;> intro hc <;> (try rw [List.length_nil] at hc) <;> first | (exfalso; omega) | (exact absurd rfl hc) | conv => whnf) | (refine bcase_intro ?_ ?_ <;> intro hc <;> conv => whnf))
  all_goals first | rfl | (exfalso; simp_all) | (trace_state; fail "nanSR")
theorem cS_lt {x y : List UInt8} (h : Op.bytesLess x y = true) : AV.int .i64 (-1) = .int .i64 (cS x y) := by unfold cS; rw [if_pos h]
theorem cS_eq {x y : List UInt8} (h : Op.bytesLess x y = false) (h2 : (Op.bytesLess x y || x == y) = true) : AV.int .i64 0 = .int .i64 (cS x y) := by
  rw [h, Bool.false_or, beq_iff_eq] at h2
  rw [cS_zero.2 h2]
theorem cS_gt {x y : List UInt8} (h2 : (Op.bytesLess x y || x == y) = false) : AV.int .i64 1 = .int .i64 (cS x y) := by
  rw [Bool.or_eq_false_iff, beq_eq_false_iff_ne] at h2
  have h3 : Op.bytesLess y x = true := by
    cases h : Op.bytesLess y x with
    | true => rfl
    | false => exact absurd (bl_tot h2.1 h) h2.2
  unfold cS; rw [h2.1, h3]; rfl
theorem compareS {x y : List UInt8} : PureP (findFn tab) 60 [.str x, .str y] (· = .int .i64 (cS x y)) := by
  refine pureP_of rfl rfl ?_
  (conv => whnf); repeat' (first | (refine callK_of nanSR ?_; rintro _ rfl; conv => whnf) | ((with_reducible first | apply kN | apply kW | apply kX | apply kG | apply kQ); (· exact sd); conv => whnf) | (refine pcase.mk ?_ ?_ <;> intro hc <;> (try rw [List.length_nil] at hc) <;> first | (exfalso; omega) | (exact absurd rfl hc) | conv => whnf) | (refine bcase_intro ?_ ?_ <;> intro hc <;> conv => whnf))
  all_goals first | exact cS_lt hc | exact cS_eq (by assumption) hc | exact cS_gt hc | (trace_state; fail "compareS")
/-- the first that is not 0 -/
def fnz : List Int → Int
  | [] => 0
  | a :: l => fst0 a (fnz l)
theorem fnz_drop {l : List Int} {i : Nat} (h : i < l.length) : fnz (l.drop i) = fst0 l[i] (fnz (l.drop (i + 1))) := by
  rw [List.drop_eq_getElem_cons h]; rfl
theorem orV {l : List Int} {nn : Bool} (hl : l.length < 2^62) : PureP (findFn tab) 59 [.sl nn (vs (.int .i64) l)] (· = .int .i64 (fnz l)) := by
  refine pureP_of rfl rfl ?_
  (conv => whnf); repeat' (first  | ((with_reducible first | apply kN | apply kW | apply kX | apply kG | apply kQ); (· exact sd); conv => whnf) | (refine pcase.mk ?_ ?_ <;> intro hc <;> (try rw [List.length_nil] at hc) <;> first | (exfalso; omega) | (exact absurd rfl hc) | conv => whnf) | (refine bcase_intro ?_ ?_ <;> intro hc <;> conv => whnf))
  refine loop_inv (fun m env s => ∃ i : Nat, m = l.length - i ∧ fnz (l.drop i) = fnz l ∧ env = [(3, .int .i64 0), (6, .sl nn (vs (.int .i64) l)), (7, .int .i64 l.length), (8, .int .i64 i)] ∧ s = ⟨[], 0⟩) ?_ _ _ _ ⟨0, rfl, by simp, by first | rfl | (rw [← lV (f := .int .i64) l]; rfl), rfl⟩
  rintro _ _ _ ⟨i, rfl, hx, rfl, rfl⟩
  refine ⟨rfl, ?_⟩
  by_cases hlt : i < l.length
  · rw [fnz_drop hlt] at hx
    unfold fst0 at hx
    (conv => whnf); repeat' (first  | ((with_reducible first | apply kN | apply kW | apply kX | apply kG | apply kQ); (· exact sd); conv => whnf) | (refine pcase.mk ?_ ?_ <;> intro hc <;> (try rw [List.length_nil] at hc) <;> first | (exfalso; omega) | (exact absurd rfl hc) | conv => whnf) | (refine bcase_intro ?_ ?_ <;> intro hc <;> conv => whnf))
    all_goals first
      | (rw [if_pos (by assumption)] at hx; exact again.mk ⟨_, by omega, i + 1, rfl, hx, rfl, rfl⟩)
      | (rw [if_neg (by assumption)] at hx; rw [← hx]; rfl)
      | (trace_state; fail "orV")
  · rw [List.drop_eq_nil_of_le (by omega)] at hx
    (conv => whnf); repeat' (first  | ((with_reducible first | apply kN | apply kW | apply kX | apply kG | apply kQ); (· exact sd); conv => whnf) | (refine pcase.mk ?_ ?_ <;> intro hc <;> (try rw [List.length_nil] at hc) <;> first | (exfalso; omega) | (exact absurd rfl hc) | conv => whnf) | (refine bcase_intro ?_ ?_ <;> intro hc <;> conv => whnf))
    all_goals first | (rw [← hx]; rfl) | (trace_state; fail "orV2")

theorem bcaseD {p t e : Prop} [Decidable p] (h1 : p → t) (h2 : ¬ p → e) : bcase (decide p) t e :=
  bcase_intro (fun h => h1 (of_decide_eq_true h)) (fun h => h2 (of_decide_eq_false h))
theorem bcaseN {p t e : Prop} [Decidable p] (h1 : p → e) (h2 : ¬ p → t) : bcase (decide (¬ p)) t e :=
  bcase_intro (fun h => h2 (of_decide_eq_true h)) (fun h => h1 (Decidable.not_not.1 (of_decide_eq_false h)))
/-- less by a comparison -/
theorem PC.swo {α : Type} {c : α → α → Int} (h : PC c) : SWO fun x y => decide (c x y < 0) where
  irrefl x := decide_eq_false (by have := h.anti x x; omega)
  trans x y z h1 h2 := decide_eq_true (by
    have a := of_decide_eq_true h1
    have b := of_decide_eq_true h2
    have h3 := h.trans x y z (by omega) (by omega)
    have h4 := h.trans z x y
    have h5 := h.anti x z
    have h6 := h.anti y z
    omega)
  ntrans x y z h1 h2 := decide_eq_false (by
    have a := of_decide_eq_false h1
    have b := of_decide_eq_false h2
    have h3 := h.trans z y x
    have h4 := h.anti x y
    have h5 := h.anti y z
    have h6 := h.anti x z
    omega)

/-- putting one more into an increasing list -/
theorem ins_ok {α : Type} {lt : α → α → Bool} (hS : SWO lt) (htot : ∀ x y, lt x y = false → lt y x = false → x = y) {W : List α} {r : α} {i : Nat} (hW : W.Pairwise (fun x y => lt x y = true)) (h1 : ∀ x ∈ W.take i, lt x r = true) (h2 : ∀ h : i < W.length, lt W[i] r = false) :
    (W.take i ++ r :: (W.drop i).filter (lt r)).Pairwise (fun x y => lt x y = true) ∧ ∀ x, x ∈ W.take i ++ r :: (W.drop i).filter (lt r) ↔ x ∈ W ∨ x = r := by
  have h0 := List.take_append_drop i W
  rw [← h0] at hW
  rw [List.pairwise_append] at hW
  obtain ⟨a, b, c⟩ := hW
  constructor
  · rw [List.pairwise_append]
    refine ⟨a, ?_, fun x hx y hy => ?_⟩
    · rw [List.pairwise_cons]
      exact ⟨fun y hy => by simpa using (List.mem_filter.1 hy).2, b.filter _⟩
    · rcases List.mem_cons.1 hy with rfl | hy
      · exact h1 x hx
      · exact c x hx y (List.mem_filter.1 hy).1
  · have hge : ∀ x ∈ W.drop i, lt x r = false := by
      intro x hx
      have hi : i < W.length := by
        rcases Nat.lt_or_ge i W.length with h | h
        · exact h
        · rw [List.drop_eq_nil_of_le h] at hx; simp at hx
      rw [List.drop_eq_getElem_cons hi] at hx b
      rcases List.mem_cons.1 hx with rfl | hx
      · exact h2 hi
      · cases hh : lt x r with
        | false => rfl
        | true =>
          have h3 := (List.pairwise_cons.1 b).1 x hx
          have h4 := hS.trans _ _ _ h3 hh
          rw [h2 hi] at h4; cases h4
    intro x
    rw [List.mem_append, List.mem_cons, List.mem_filter]
    constructor
    · rintro (h | h | h)
      · exact .inl (List.mem_of_mem_take h)
      · exact .inr h
      · exact .inl (List.mem_of_mem_drop h.1)
    · rintro (h | h)
      · rw [← h0, List.mem_append] at h
        rcases h with h | h
        · exact .inl h
        · cases hh : lt r x with
          | true => exact .inr (.inr ⟨h, rfl⟩)
          | false => exact .inr (.inl (htot _ _ (hge x h) hh))
      · exact .inr (.inl h)
theorem filter_take_succ {α : Type} {p : α → Bool} {l : List α} {k : Nat} (h : k < l.length) : (l.take (k + 1)).filter p = (l.take k).filter p ++ if p l[k] = true then [l[k]] else [] := by
  rw [List.take_succ_eq_append_getElem h, List.filter_append]
  congr 1
  simp only [List.filter_cons, List.filter_nil]

end AI
end Go.Proofs.YtbkibamoigmboaaGreatDoor
set_option linter.unusedVariables false
namespace Go.Proofs.YtbkibamoigmboaaGreatDoor
namespace AI
open Go.Sort

def ltI (x y : Int) : Bool := decide (x < y)
theorem ltI_iff {x y : Int} : ltI x y = true ↔ x < y := by unfold ltI; rw [decide_eq_true_eq]
theorem ltI_no {x y : Int} : ltI x y = false ↔ ¬ x < y := by rw [← ltI_iff]; simp
theorem ltI_swo : SWO ltI where
  irrefl x := ltI_no.2 (by omega)
  trans x y z h1 h2 := ltI_iff.2 (by have := ltI_iff.1 h1; have := ltI_iff.1 h2; omega)
  ntrans x y z h1 h2 := ltI_no.2 (by have := ltI_no.1 h1; have := ltI_no.1 h2; omega)

theorem cellsI (x : Int) : (AV.int .i64 x).cells.length = 1 := rfl

theorem nanI {x : Int} : PureP (findFn tab) 97 [.int .i64 x] (· = .bool (decide False)) := by
  refine pureP_of rfl rfl ?_
  (conv => whnf); repeat' (first  | ((with_reducible first | apply kN | apply kW | apply kX | apply kG | apply kQ); (· exact sd); conv => whnf) | (refine pcase.mk ?_ ?_ <;> intro hc <;> (try rw [List.length_nil] at hc) <;> first | (exfalso; omega) | (exact absurd rfl hc) | conv => whnf) | (refine bcase_intro ?_ ?_ <;> intro hc <;> conv => whnf))
  all_goals first | exact absurd rfl hc | rfl

theorem lessI {x y : Int} : PureP (findFn tab) 193 [.int .i64 x, .int .i64 y] (· = .bool (ltI x y)) := by
  refine pureP_of rfl rfl ?_
  (conv => whnf); repeat' (first | (refine callB nanI (fun hc => absurd hc id) (fun _ => ?_); conv => whnf) | ((with_reducible first | apply kN | apply kW | apply kX | apply kG | apply kQ); (· exact sd); conv => whnf) | (refine pcase.mk ?_ ?_ <;> intro hc <;> (try rw [List.length_nil] at hc) <;> first | (exfalso; omega) | (exact absurd rfl hc) | conv => whnf) | (refine bcase_intro ?_ ?_ <;> intro hc <;> conv => whnf))
  all_goals first | exact bool_t (by first | assumption | omega) | exact bool_f (by first | assumption | omega)

attribute [irreducible] ltI

end AI
end Go.Proofs.YtbkibamoigmboaaGreatDoor
