/- The order of rules: the program's and the reference's. -/
import Derived.Test.YtdlkcancogpafaaGreatDoorEX1
import Derived.Test.YtdlkcancogpafaaGreatDoorCmI
import Derived.Test.YtdlkcancogpafaaGreatDoorMP
set_option linter.unusedVariables false
set_option maxRecDepth 4000
namespace Go.Proofs.YtdlkcancogpafaaGreatDoor
namespace AI
open Go.Sort

def fst0 (a b : Int) : Int := if a = 0 then b else a
def cS (x y : List UInt8) : Int := if Op.bytesLess x y = true then -1 else if Op.bytesLess y x = true then 1 else 0
def cmpR (x y : GR) : Int := fst0 (cmpI x.k y.k) (fst0 (cS x.name y.name) (fst0 (cS x.key y.key) (fst0 (cmpI x.n y.n) (fst0 (cS x.fr y.fr) (cS x.to y.to)))))

/-- compares, as a total preorder -/
structure PC {α : Type} (c : α → α → Int) : Prop where
  anti : ∀ x y, c y x = - c x y
  trans : ∀ x y z, c x y ≤ 0 → c y z ≤ 0 → c x z ≤ 0

theorem PC.lex {α : Type} {c d : α → α → Int} (hc : PC c) (hd : PC d) : PC fun x y => fst0 (c x y) (d x y) where
  anti x y := by
    have h1 := hc.anti x y
    have h2 := hd.anti x y
    unfold fst0; split <;> split <;> omega
  trans x y z h1 h2 := by
    have a1 := hc.trans x y z
    have a2 := hc.trans y z x
    have a3 := hc.trans z x y
    have b1 := hc.anti x y
    have b2 := hc.anti y z
    have b3 := hc.anti x z
    have d1 := hd.trans x y z
    unfold fst0 at *
    split at h1 <;> split at h2 <;> split <;> omega
theorem PC.on {α β : Type} {c : β → β → Int} (h : PC c) (p : α → β) : PC fun x y => c (p x) (p y) := ⟨fun x y => h.anti _ _, fun x y z => h.trans _ _ _⟩
theorem pc_int : PC cmpI where
  anti x y := by unfold cmpI; repeat' split
                 all_goals omega
  trans x y z := by unfold cmpI; repeat' split
                    all_goals omega
theorem bl_less : ∀ (x y : List UInt8), Op.bytesLess x y = decide (x < y)
  | [], [] => by simp [Op.bytesLess]
  | _ :: _, [] => by simp [Op.bytesLess]
  | [], _ :: _ => by simp [Op.bytesLess]
  | a :: x, b :: y => by
    rw [Op.bytesLess, bl_less x y]
    simp only [List.cons_lt_cons_iff]
    by_cases h1 : a < b <;> by_cases h2 : a = b <;> by_cases h3 : x < y <;> simp [h1, h2, h3]
theorem bl_eq (x y : List UInt8) : Op.bytesLess x y = ltStr x y := bl_less x y
theorem bl_tot {x y : List UInt8} (h1 : Op.bytesLess x y = false) (h2 : Op.bytesLess y x = false) : x = y := by
  rw [bl_eq] at h1 h2
  simp only [ltStr, decide_eq_false_iff_not] at h1 h2
  exact List.le_antisymm (List.not_lt.1 h2) (List.not_lt.1 h1)
theorem pc_str : PC cS where
  anti x y := by
    have h : Op.bytesLess x y = true → Op.bytesLess y x = true → False := fun a b => by
      rw [bl_eq] at a b
      have := swo_ltStr.trans x y x a b
      rw [swo_ltStr.irrefl] at this; cases this
    unfold cS
    by_cases a : Op.bytesLess x y = true <;> by_cases b : Op.bytesLess y x = true <;> simp [a, b]
    exact h a b
  trans x y z h1 h2 := by
    have n1 : Op.bytesLess y x = false := by
      unfold cS at h1
      split at h1
      · rename_i a
        cases hb : Op.bytesLess y x with
        | false => rfl
        | true =>
          rw [bl_eq] at a hb
          have := swo_ltStr.trans x y x a hb
          rw [swo_ltStr.irrefl] at this; cases this
      · split at h1
        · omega
        · rename_i b; simpa using b
    have n2 : Op.bytesLess z y = false := by
      unfold cS at h2
      split at h2
      · rename_i a
        cases hb : Op.bytesLess z y with
        | false => rfl
        | true =>
          rw [bl_eq] at a hb
          have := swo_ltStr.trans y z y a hb
          rw [swo_ltStr.irrefl] at this; cases this
      · split at h2
        · omega
        · rename_i b; simpa using b
    have n3 : Op.bytesLess z x = false := by rw [bl_eq] at *; exact swo_ltStr.ntrans z y x n2 n1
    unfold cS
    split
    · omega
    · rw [n3]; simp
theorem cS_zero {x y : List UInt8} : cS x y = 0 ↔ x = y := by
  constructor
  · intro h
    unfold cS at h
    split at h
    · omega
    · split at h
      · omega
      · rename_i a b; exact bl_tot (by simpa using a) (by simpa using b)
  · rintro rfl
    have := pc_str.anti x x
    omega
theorem pc_rule : PC cmpR := (pc_int.on GR.k).lex ((pc_str.on GR.name).lex ((pc_str.on GR.key).lex ((pc_int.on GR.n).lex ((pc_str.on GR.fr).lex (pc_str.on GR.to)))))
theorem fst0_zero {a b : Int} : fst0 a b = 0 ↔ a = 0 ∧ b = 0 := by unfold fst0; split <;> omega
theorem cmpR_zero {x y : GR} : cmpR x y = 0 ↔ x = y := by
  unfold cmpR
  simp only [fst0_zero, cmpI_zero, cS_zero]
  constructor
  · rintro ⟨h1, h2, h3, h4, h5, h6⟩
    cases x; cases y
    simp only [GR.mk.injEq]
    exact ⟨h1, h4, h2, h3, h5, h6⟩
  · rintro rfl
    exact ⟨rfl, rfl, rfl, rfl, rfl, rfl⟩

def ltR (x y : GR) : Bool := decide (cmpR x y < 0)
theorem ltR_iff {x y : GR} : ltR x y = true ↔ cmpR x y < 0 := by unfold ltR; rw [decide_eq_true_eq]
theorem ltR_no {x y : GR} : ltR x y = false ↔ 0 ≤ cmpR x y := by unfold ltR; rw [decide_eq_false_iff_not]; omega
theorem ltR_swo : SWO ltR where
  irrefl x := ltR_no.2 (by have := pc_rule.anti x x; omega)
  trans x y z h1 h2 := ltR_iff.2 (by
    have a := ltR_iff.1 h1
    have b := ltR_iff.1 h2
    have h3 := pc_rule.trans x y z (by omega) (by omega)
    have h4 := pc_rule.trans z x y
    have h5 := pc_rule.anti x z
    have h6 := pc_rule.anti y z
    omega)
  ntrans x y z h1 h2 := ltR_no.2 (by
    have a := ltR_no.1 h1
    have b := ltR_no.1 h2
    have h3 := pc_rule.trans z y x
    have h4 := pc_rule.anti x y
    have h5 := pc_rule.anti y z
    have h6 := pc_rule.anti x z
    omega)
theorem ltR_tot (x y : GR) (h1 : ltR x y = false) (h2 : ltR y x = false) : x = y := cmpR_zero.1 (by
  have a := ltR_no.1 h1
  have b := ltR_no.1 h2
  have := pc_rule.anti x y
  omega)

theorem cellsR (x : GR) : x.av.cells.length = 6 := rfl
instance : Inhabited GR := ⟨⟨0, 0, [], [], [], []⟩⟩
theorem nanSR {x : List UInt8} : PureP (findFn tab) 115 [.str x] (· = .bool false) := by
  refine pureP_of rfl rfl ?_
  (conv => whnf); repeat' (first  | ((with_reducible first | apply kN | apply kW | apply kX | apply kG | apply kQ); (· exact sd); conv => whnf) | (refine pcase.mk ?_ ?_ <;> intro hc <;> (try rw [List.length_nil] at hc) <;> first | (exfalso; omega) | (exact absurd rfl hc) | conv => whnf) | (refine bcase_intro ?_ ?_ <;> intro hc <;> conv => whnf))
  all_goals first | rfl | (exfalso; simp_all) | (trace_state; fail "nanSR")
theorem cS_lt {x y : List UInt8} (h : Op.bytesLess x y = true) : AV.int .i64 (-1) = .int .i64 (cS x y) := by unfold cS; rw [if_pos h]
theorem cS_eq {x y : List UInt8} (h : Op.bytesLess x y = false) (h2 : (Op.bytesLess x y || x == y) = true) : AV.int .i64 0 = .int .i64 (cS x y) := by
  rw [h, Bool.false_or, beq_iff_eq] at h2
  rw [cS_zero.2 h2]
theorem cS_gt {x y : List UInt8} (h2 : (Op.bytesLess x y || x == y) = false) : AV.int .i64 1 = .int .i64 (cS x y) := by
  rw [Bool.or_eq_false_iff, beq_eq_false_iff_ne] at h2
  have h3 : Op.bytesLess y x = true := by
    cases h : Op.bytesLess y x with
    | true => rfl
    | false => exact absurd (bl_tot h2.1 h) h2.2
  unfold cS; rw [h2.1, h3]; rfl
theorem compareS {x y : List UInt8} : PureP (findFn tab) 68 [.str x, .str y] (· = .int .i64 (cS x y)) := by
  refine pureP_of rfl rfl ?_
  (conv => whnf); repeat' (first | (refine callK_of nanSR ?_; rintro _ rfl; conv => whnf) | ((with_reducible first | apply kN | apply kW | apply kX | apply kG | apply kQ); (· exact sd); conv => whnf) | (refine pcase.mk ?_ ?_ <;> intro hc <;> (try rw [List.length_nil] at hc) <;> first | (exfalso; omega) | (exact absurd rfl hc) | conv => whnf) | (refine bcase_intro ?_ ?_ <;> intro hc <;> conv => whnf))
  all_goals first | exact cS_lt hc | exact cS_eq (by assumption) hc | exact cS_gt hc | (trace_state; fail "compareS")
theorem textsR {x y : List UInt8} : PureP (findFn tab) 116 [.str x, .str y] (· = .int .i64 (cS x y)) := by
  refine pureP_of rfl rfl ?_
  (conv => whnf); repeat' (first  | ((with_reducible first | apply kN | apply kW | apply kX | apply kG | apply kQ); (· exact sd); conv => whnf) | (refine pcase.mk ?_ ?_ <;> intro hc <;> (try rw [List.length_nil] at hc) <;> first | (exfalso; omega) | (exact absurd rfl hc) | conv => whnf) | (refine bcase_intro ?_ ?_ <;> intro hc <;> conv => whnf))
  all_goals first | exact cS_lt hc | exact cS_eq (by assumption) hc | exact cS_gt hc | (trace_state; fail "textsR")

/-- the first that is not 0 -/
def fnz : List Int → Int
  | [] => 0
  | a :: l => fst0 a (fnz l)
theorem fnz_drop {l : List Int} {i : Nat} (h : i < l.length) : fnz (l.drop i) = fst0 l[i] (fnz (l.drop (i + 1))) := by
  rw [List.drop_eq_getElem_cons h]; rfl
theorem orV {l : List Int} {nn : Bool} (hl : l.length < 2^62) : PureP (findFn tab) 66 [.sl nn (vs (.int .i64) l)] (· = .int .i64 (fnz l)) := by
  refine pureP_of rfl rfl ?_
  (conv => whnf); repeat' (first  | ((with_reducible first | apply kN | apply kW | apply kX | apply kG | apply kQ); (· exact sd); conv => whnf) | (refine pcase.mk ?_ ?_ <;> intro hc <;> (try rw [List.length_nil] at hc) <;> first | (exfalso; omega) | (exact absurd rfl hc) | conv => whnf) | (refine bcase_intro ?_ ?_ <;> intro hc <;> conv => whnf))
  refine loop_inv (fun m env s => ∃ i : Nat, m = l.length - i ∧ fnz (l.drop i) = fnz l ∧ env = [(3, .int .i64 0), (6, .sl nn (vs (.int .i64) l)), (7, .int .i64 l.length), (8, .int .i64 i)] ∧ s = ⟨[], 0⟩) ?_ _ _ _ ⟨0, rfl, by simp, by first | rfl | (rw [← lV (f := .int .i64) l]; rfl), rfl⟩
  rintro _ _ _ ⟨i, rfl, hx, rfl, rfl⟩
  refine ⟨rfl, ?_⟩
  by_cases hlt : i < l.length
  · rw [fnz_drop hlt] at hx
    unfold fst0 at hx
    (conv => whnf); repeat' (first  | ((with_reducible first | apply kN | apply kW | apply kX | apply kG | apply kQ); (· exact sd); conv => whnf) | (refine pcase.mk ?_ ?_ <;> intro hc <;> (try rw [List.length_nil] at hc) <;> first | (exfalso; omega) | (exact absurd rfl hc) | conv => whnf) | (refine bcase_intro ?_ ?_ <;> intro hc <;> conv => whnf))
    all_goals first
      | (rw [if_pos (by assumption)] at hx; exact again.mk ⟨_, by omega, i + 1, rfl, hx, rfl, rfl⟩)
      | (rw [if_neg (by assumption)] at hx; rw [← hx]; rfl)
      | (trace_state; fail "orV")
  · rw [List.drop_eq_nil_of_le (by omega)] at hx
    (conv => whnf); repeat' (first  | ((with_reducible first | apply kN | apply kW | apply kX | apply kG | apply kQ); (· exact sd); conv => whnf) | (refine pcase.mk ?_ ?_ <;> intro hc <;> (try rw [List.length_nil] at hc) <;> first | (exfalso; omega) | (exact absurd rfl hc) | conv => whnf) | (refine bcase_intro ?_ ?_ <;> intro hc <;> conv => whnf))
    all_goals first | (rw [← hx]; rfl) | (trace_state; fail "orV2")

theorem orderPR {x y : GR} : PureP (findFn tab) 24 [x.av, y.av] (· = .int .i64 (cmpR x y)) := by
  have ho : PureP (findFn tab) 66 [.sl true [.int .i64 (cmpI x.k y.k), .int .i64 (cS x.name y.name), .int .i64 (cS x.key y.key), .int .i64 (cmpI x.n y.n), .int .i64 (cS x.fr y.fr), .int .i64 (cS x.to y.to)]] (· = .int .i64 (cmpR x y)) := by
    have h := orV (l := [cmpI x.k y.k, cS x.name y.name, cS x.key y.key, cmpI x.n y.n, cS x.fr y.fr, cS x.to y.to]) (nn := true) (by simp)
    have e : fnz [cmpI x.k y.k, cS x.name y.name, cS x.key y.key, cmpI x.n y.n, cS x.fr y.fr, cS x.to y.to] = cmpR x y := by
      unfold cmpR
      simp only [fnz]
      congr 1; congr 1; congr 1; congr 1; congr 1
      unfold fst0; split <;> omega
    rw [e] at h
    exact h
  refine pureP_of rfl rfl ?_
  (conv => whnf); repeat' (first | (refine callK_of compare ?_; rintro _ rfl; conv => whnf) | (refine callK_of compareS ?_; rintro _ rfl; conv => whnf) | (refine callK_of ho ?_; rintro _ rfl; conv => whnf) | ((with_reducible first | apply kN | apply kW | apply kX | apply kG | apply kQ); (· exact sd); conv => whnf) | (refine pcase.mk ?_ ?_ <;> intro hc <;> (try rw [List.length_nil] at hc) <;> first | (exfalso; omega) | (exact absurd rfl hc) | conv => whnf) | (refine bcase_intro ?_ ?_ <;> intro hc <;> conv => whnf))
  all_goals first | rfl | (trace_state; fail "orderPR")

set_option maxHeartbeats 2000000 in
theorem orderRR {x y : GR} : PureP (findFn tab) 69 [x.av, y.av] (· = .int .i64 (cmpR x y)) := by
  refine pureP_of rfl rfl ?_
  (conv => whnf); repeat' (first | (refine callK_of textsR ?_; rintro _ rfl; conv => whnf) | ((with_reducible first | apply kN | apply kW | apply kX | apply kG | apply kQ); (· exact sd); conv => whnf) | (refine pcase.mk ?_ ?_ <;> intro hc <;> (try rw [List.length_nil] at hc) <;> first | (exfalso; omega) | (exact absurd rfl hc) | conv => whnf) | (refine bcase_intro ?_ ?_ <;> intro hc <;> conv => whnf))
  all_goals
    refine congrArg (AV.int .i64) (?_ : _ = cmpR x y)
    unfold cmpR fst0 cmpI
    first | grind | (trace_state; fail "orderRR")

theorem pcaseR {x y : GR} {A B : Prop} (h1 : ltR x y = true → A) (h2 : ltR x y = false → B) : pcase (cmpR x y < 0) A B :=
  ⟨fun h => h1 (decide_eq_true h), fun h => h2 (decide_eq_false h)⟩
theorem bcaseD {p t e : Prop} [Decidable p] (h1 : p → t) (h2 : ¬ p → e) : bcase (decide p) t e :=
  bcase_intro (fun h => h1 (of_decide_eq_true h)) (fun h => h2 (of_decide_eq_false h))
theorem bcaseN {p t e : Prop} [Decidable p] (h1 : p → e) (h2 : ¬ p → t) : bcase (decide (¬ p)) t e :=
  bcase_intro (fun h => h2 (of_decide_eq_true h)) (fun h => h1 (Decidable.not_not.1 (of_decide_eq_false h)))
instance : DecidableEq GR := fun x y => if h : x.k = y.k ∧ x.n = y.n ∧ x.name = y.name ∧ x.key = y.key ∧ x.fr = y.fr ∧ x.to = y.to then .isTrue (by cases x; cases y; simp_all) else .isFalse (by rintro rfl; exact h ⟨rfl, rfl, rfl, rfl, rfl, rfl⟩)
theorem eqR (x y : GR) : bin .eql (.flat [.int, .int, .str, .str, .str, .str]) (.agg (List.take 6 x.av.cells)) (.agg (List.take 6 y.av.cells)) = some (.bool (decide (x = y))) := by
  obtain ⟨k, n, a, b, c, d⟩ := x
  obtain ⟨k', n', a', b', c', d'⟩ := y
  have e : ∀ z z' : Int, (z == z') = decide (z = z') := fun z z' => by by_cases h : z = z' <;> simp [h]
  have e2 : ∀ z z' : List UInt8, (z == z') = decide (z = z') := fun z z' => by by_cases h : z = z' <;> simp [h]
  by_cases h1 : k = k' <;> by_cases h2 : n = n' <;> by_cases h3 : a = a' <;> by_cases h4 : b = b' <;> by_cases h5 : c = c' <;> by_cases h6 : d = d' <;> simp [bin, eqAV, eqFlat, eqLeaf, GR.av, AV.cells, e, e2, h1, h2, h3, h4, h5, h6]
theorem neR (x y : GR) : bin .neq (.flat [.int, .int, .str, .str, .str, .str]) (.agg (List.take 6 x.av.cells)) (.agg (List.take 6 y.av.cells)) = some (.bool (decide (¬ x = y))) := by
  obtain ⟨k, n, a, b, c, d⟩ := x
  obtain ⟨k', n', a', b', c', d'⟩ := y
  have e : ∀ z z' : Int, (z == z') = decide (z = z') := fun z z' => by by_cases h : z = z' <;> simp [h]
  have e2 : ∀ z z' : List UInt8, (z == z') = decide (z = z') := fun z z' => by by_cases h : z = z' <;> simp [h]
  by_cases h1 : k = k' <;> by_cases h2 : n = n' <;> by_cases h3 : a = a' <;> by_cases h4 : b = b' <;> by_cases h5 : c = c' <;> by_cases h6 : d = d' <;> simp [bin, eqAV, eqFlat, eqLeaf, GR.av, AV.cells, e, e2, h1, h2, h3, h4, h5, h6]

attribute [irreducible] ltR cmpR

end AI
end Go.Proofs.YtdlkcancogpafaaGreatDoor
