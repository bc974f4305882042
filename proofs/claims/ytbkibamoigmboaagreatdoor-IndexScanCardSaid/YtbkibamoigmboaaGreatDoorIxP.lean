/- Properties looked up where values have no lists. -/
import Derived.Test.YtbkibamoigmboaaGreatDoorIxT
set_option linter.unusedVariables false
set_option maxRecDepth 4000
namespace Go.Proofs.YtbkibamoigmboaaGreatDoor
namespace AI

theorem appendK_nw {g es : Nat} {ys : List AV} {bytes : Nat} {K : Nat → Bool → Bool → List AV → Prop} (hs : AllSize es ys) (hr : ys.length * bytes ≤ 2 ^ 46) (h : K ys.length true true ys) :
    appendK g g es es 0 true true true [] ys bytes K := by
  refine ⟨⟨rfl, rfl, by simp, hs, ?_⟩, ?_⟩
  · rw [Nat.zero_add]; exact hr
  · rw [Nat.zero_add]; exact h
theorem cloneXn : Calls1 (findFn tab) 109 [.sl false []] ⟨[], 0⟩ fun out _ => out = .ok (.sl false []) := by
  refine calls1_of rfl rfl ?_
  (conv => whnf); repeat' (first  | ((with_reducible first | apply kN | apply kW | apply kX | apply kG | apply kQ); (· exact sd); conv => whnf) | (refine pcase.mk ?_ ?_ <;> intro hc <;> (try rw [List.length_nil] at hc) <;> first | (exfalso; omega) | (exact absurd rfl hc) | conv => whnf) | (refine bcase_intro ?_ ?_ <;> intro hc <;> conv => whnf))
  rfl
theorem cloneXt : Calls1 (findFn tab) 109 [.sl true []] ⟨[], 0⟩ fun out s' => ∃ o g, out = .ok (.own o g 0 ([] : List AV).length) ∧ nth s'.σ o = some (.arr g 5 true true []) := by
  refine calls1_of rfl rfl ?_
  (conv => whnf); repeat' (first  | ((with_reducible first | apply kN | apply kW | apply kX | apply kG | apply kQ); (· exact sd); conv => whnf) | (refine pcase.mk ?_ ?_ <;> intro hc <;> (try rw [List.length_nil] at hc) <;> first | (exfalso; omega) | (exact absurd rfl hc) | conv => whnf) | (refine bcase_intro ?_ ?_ <;> intro hc <;> conv => whnf))
  refine appendK_nw (fun x hx => by simp at hx) (by simp) ?_
  (conv => whnf); repeat' (first  | ((with_reducible first | apply kN | apply kW | apply kX | apply kG | apply kQ); (· exact sd); conv => whnf) | (refine pcase.mk ?_ ?_ <;> intro hc <;> (try rw [List.length_nil] at hc) <;> first | (exfalso; omega) | (exact absurd rfl hc) | conv => whnf) | (refine bcase_intro ?_ ?_ <;> intro hc <;> conv => whnf))
  exact ⟨_, _, rfl, rfl⟩
/-- a clone of a value without elements -/
theorem cloneX {g : GV} (h : g.l = []) : PureP (findFn tab) 69 [g.av] (· = g.av) := by
  obtain ⟨k, n, dd, s, nn, l⟩ := g
  simp only at h
  subst h
  cases nn with
  | false =>
    refine pureP_of rfl rfl ?_
    (conv => whnf); repeat' (first  | ((with_reducible first | apply kN | apply kW | apply kX | apply kG | apply kQ); (· exact sd); conv => whnf) | (refine pcase.mk ?_ ?_ <;> intro hc <;> (try rw [List.length_nil] at hc) <;> first | (exfalso; omega) | (exact absurd rfl hc) | conv => whnf) | (refine bcase_intro ?_ ?_ <;> intro hc <;> conv => whnf))
    refine ownK_nil rfl cloneXn ?_
    (conv => whnf); repeat' (first  | ((with_reducible first | apply kN | apply kW | apply kX | apply kG | apply kQ); (· exact sd); conv => whnf) | (refine pcase.mk ?_ ?_ <;> intro hc <;> (try rw [List.length_nil] at hc) <;> first | (exfalso; omega) | (exact absurd rfl hc) | conv => whnf) | (refine bcase_intro ?_ ?_ <;> intro hc <;> conv => whnf))
    refine loop_step ?_ rfl
    (conv => whnf); repeat' (first  | ((with_reducible first | apply kN | apply kW | apply kX | apply kG | apply kQ); (· exact sd); conv => whnf) | (refine pcase.mk ?_ ?_ <;> intro hc <;> (try rw [List.length_nil] at hc) <;> first | (exfalso; omega) | (exact absurd rfl hc) | conv => whnf) | (refine bcase_intro ?_ ?_ <;> intro hc <;> conv => whnf))
    rfl
  | true =>
    refine pureP_of rfl rfl ?_
    (conv => whnf); repeat' (first  | ((with_reducible first | apply kN | apply kW | apply kX | apply kG | apply kQ); (· exact sd); conv => whnf) | (refine pcase.mk ?_ ?_ <;> intro hc <;> (try rw [List.length_nil] at hc) <;> first | (exfalso; omega) | (exact absurd rfl hc) | conv => whnf) | (refine bcase_intro ?_ ?_ <;> intro hc <;> conv => whnf))
    refine ownK rfl cloneXt ?_
    (conv => whnf); repeat' (first  | ((with_reducible first | apply kN | apply kW | apply kX | apply kG | apply kQ); (· exact sd); conv => whnf) | (refine pcase.mk ?_ ?_ <;> intro hc <;> (try rw [List.length_nil] at hc) <;> first | (exfalso; omega) | (exact absurd rfl hc) | conv => whnf) | (refine bcase_intro ?_ ?_ <;> intro hc <;> conv => whnf))
    refine loop_step ?_ rfl
    (conv => whnf); repeat' (first  | ((with_reducible first | apply kN | apply kW | apply kX | apply kG | apply kQ); (· exact sd); conv => whnf) | (refine pcase.mk ?_ ?_ <;> intro hc <;> (try rw [List.length_nil] at hc) <;> first | (exfalso; omega) | (exact absurd rfl hc) | conv => whnf) | (refine bcase_intro ?_ ?_ <;> intro hc <;> conv => whnf))
    rfl

def isK (k : List UInt8) (p : GP) : Bool := decide (p.key = k)
def propV (l : List GP) (k : List UInt8) : GV := match l.find? (isK k) with
  | some n => n.v
  | none => ⟨0, 0, 0, [], false, []⟩
theorem findx_at {α : Type} {p : α → Bool} {l : List α} {i : Nat} (hi : i < l.length) (h : ∀ x ∈ l.take i, p x = false) (hp : p l[i] = true) : l.find? p = some l[i] := by
  have e : l = l.take i ++ l[i] :: l.drop (i + 1) := by rw [← List.drop_eq_getElem_cons hi, List.take_append_drop]
  have h1 : (l.take i).find? p = none := List.find?_eq_none.2 fun x hx => by simp [h x hx]
  refine (congrArg (List.find? p) e).trans ?_
  rw [List.find?_append, h1, List.find?_cons_of_pos hp]
  rfl
theorem findx_no {α : Type} {p : α → Bool} {l : List α} (h : ∀ x ∈ l, p x = false) : l.find? p = none := List.find?_eq_none.2 fun x hx => by simp [h x hx]
theorem nullX : PureP (findFn tab) 37 [] (· = GV.av ⟨0, 0, 0, [], false, []⟩) := by
  refine pureP_of rfl rfl ?_
  (conv => whnf); repeat' (first  | ((with_reducible first | apply kN | apply kW | apply kX | apply kG | apply kQ); (· exact sd); conv => whnf) | (refine pcase.mk ?_ ?_ <;> intro hc <;> (try rw [List.length_nil] at hc) <;> first | (exfalso; omega) | (exact absurd rfl hc) | conv => whnf) | (refine bcase_intro ?_ ?_ <;> intro hc <;> conv => whnf))
  rfl
theorem propX {l : List GP} {nn : Bool} (hl : l.length < 2^63) (hg : ∀ p ∈ l, p.v.l = []) {k : List UInt8} : PureP (findFn tab) 33 [.sl nn (vs GP.av l), .str k] (· = (propV l k).av) := by
  refine pureP_of rfl rfl ?_
  (conv => whnf); repeat' (first  | ((with_reducible first | apply kN | apply kW | apply kX | apply kG | apply kQ); (· exact sd); conv => whnf) | (refine pcase.mk ?_ ?_ <;> intro hc <;> (try rw [List.length_nil] at hc) <;> first | (exfalso; omega) | (exact absurd rfl hc) | conv => whnf) | (refine bcase_intro ?_ ?_ <;> intro hc <;> conv => whnf))
  refine loop_inv (fun m env s => ∃ i c : Nat, m = l.length - i ∧ (∀ x ∈ l.take i, isK k x = false) ∧ env = [(1, .str k), (4, .ref 0 0 0 0), (7, .sl nn (vs GP.av l)), (8, .int .i64 l.length), (9, .int .i64 i)] ∧ s = ⟨[.arr 0 5 true true [.agg [.int .i64 0, .int .i64 0, .int .i64 0, .str [], .sl false []]]], c⟩) ?_ _ _ _ ⟨0, _, rfl, by simp, by first | rfl | (rw [← lV (f := GP.av) l]; rfl), rfl⟩
  rintro _ _ _ ⟨i, c, rfl, hx, rfl, rfl⟩
  refine ⟨rfl, ?_⟩
  by_cases hlt : i < l.length
  · have ho := cloneX (hg _ (List.getElem_mem hlt))
    by_cases hk : l[i].key = k
    · (conv => whnf); repeat' (first | (refine callK_of ho ?_; rintro _ rfl; conv => whnf) | ((with_reducible first | apply kN | apply kW | apply kX | apply kG | apply kQ); (· exact sd); conv => whnf) | (refine pcase.mk ?_ ?_ <;> intro hc <;> (try rw [List.length_nil] at hc) <;> first | (exfalso; omega) | (exact absurd rfl hc) | conv => whnf) | (refine bcase_intro ?_ ?_ <;> intro hc <;> conv => whnf))
      all_goals first | (rw [propV, findx_at hlt hx (decide_eq_true hk)]; rfl) | (exfalso; simp_all; done) | (trace_state; fail "propX1")
    · (conv => whnf); repeat' (first  | ((with_reducible first | apply kN | apply kW | apply kX | apply kG | apply kQ); (· exact sd); conv => whnf) | (refine pcase.mk ?_ ?_ <;> intro hc <;> (try rw [List.length_nil] at hc) <;> first | (exfalso; omega) | (exact absurd rfl hc) | conv => whnf) | (refine bcase_intro ?_ ?_ <;> intro hc <;> conv => whnf))
      all_goals first | exact again.mk ⟨_, by omega, i + 1, _, rfl, all_take_succ hlt hx (decide_eq_false hk), rfl, rfl⟩ | (exfalso; simp_all; done) | (trace_state; fail "propX2")
  · rw [List.take_of_length_le (by omega)] at hx
    (conv => whnf); repeat' (first | (refine callK_of nullX ?_; rintro _ rfl; conv => whnf) | ((with_reducible first | apply kN | apply kW | apply kX | apply kG | apply kQ); (· exact sd); conv => whnf) | (refine pcase.mk ?_ ?_ <;> intro hc <;> (try rw [List.length_nil] at hc) <;> first | (exfalso; omega) | (exact absurd rfl hc) | conv => whnf) | (refine bcase_intro ?_ ?_ <;> intro hc <;> conv => whnf))
    all_goals first | (rw [propV, findx_no hx]; rfl) | (trace_state; fail "propX3")

end AI
end Go.Proofs.YtbkibamoigmboaaGreatDoor
