/- A rule turned by a migration: the program's rule and the reference's turned. A rule turned by a migration, proved. -/
import Derived.Test.YtdlkcancogpafaaGreatDoorRU1
set_option linter.unusedVariables false
set_option maxRecDepth 4000
namespace Go.Proofs.YtdlkcancogpafaaGreatDoor
namespace AI

def nodeK (k : Int) : Prop := k = 1 ∨ k = 2 ∨ k = 3
instance (k : Int) : Decidable (nodeK k) := by unfold nodeK; infer_instance
def swapS (s : List UInt8) (m : GM) : List UInt8 := if s = m.fr then m.to else s
/-- a rule after a migration -/
def turnR (r : GR) (m : GM) : GR :=
  if m.k = 1 then
    if nodeK r.k then { r with name := swapS r.name m }
    else if r.k = 6 then { r with fr := swapS r.fr m, to := swapS r.to m } else r
  else if m.k = 2 then if nodeK r.k then r else { r with name := swapS r.name m }
  else if m.k = 3 then if nodeK r.k ∧ r.name = m.label then { r with key := swapS r.key m } else r
  else r
/-- a migration leaves the rule out -/
def goneR (r : GR) (m : GM) : Prop := m.k = 4 ∧ nodeK r.k ∧ r.name = m.label ∧ r.key = m.fr
instance (r : GR) (m : GM) : Decidable (goneR r m) := by unfold goneR; infer_instance

theorem ofNodesP {r : GR} : PureP (findFn tab) 62 [r.av] (· = .bool (decide (nodeK r.k))) := by
  refine pureP_of rfl rfl ?_
  (conv => whnf); repeat' (first  | ((with_reducible first | apply kN | apply kW | apply kX | apply kG | apply kQ); (· exact sd); conv => whnf) | (refine pcase.mk ?_ ?_ <;> intro hc <;> (try rw [List.length_nil] at hc) <;> first | (exfalso; omega) | (exact absurd rfl hc) | conv => whnf) | (refine bcase_intro ?_ ?_ <;> intro hc <;> conv => whnf))
  all_goals first | exact bool_t (by unfold nodeK; omega) | exact bool_f (by unfold nodeK; omega) | (trace_state; fail "ofNodesP")
theorem nodeQ {k : Int} : PureP (findFn tab) 29 [.int .i64 k] (· = .bool (decide (nodeK k))) := by
  refine pureP_of rfl rfl ?_
  (conv => whnf); repeat' (first  | ((with_reducible first | apply kN | apply kW | apply kX | apply kG | apply kQ); (· exact sd); conv => whnf) | (refine pcase.mk ?_ ?_ <;> intro hc <;> (try rw [List.length_nil] at hc) <;> first | (exfalso; omega) | (exact absurd rfl hc) | conv => whnf) | (refine bcase_intro ?_ ?_ <;> intro hc <;> conv => whnf))
  all_goals first | exact bool_t (by unfold nodeK; omega) | exact bool_f (by unfold nodeK; omega) | (trace_state; fail "nodeQ")
theorem swapQ {s : List UInt8} {m : GM} : PureP (findFn tab) 71 [.str s, m.av] (· = .str (swapS s m)) := by
  by_cases h : s = m.fr
  · rw [show swapS s m = m.to from if_pos h]
    refine pureP_of rfl rfl ?_
    (conv => whnf); repeat' (first  | ((with_reducible first | apply kN | apply kW | apply kX | apply kG | apply kQ); (· exact sd); conv => whnf) | (refine pcase.mk ?_ ?_ <;> intro hc <;> (try rw [List.length_nil] at hc) <;> first | (exfalso; omega) | (exact absurd rfl hc) | conv => whnf) | (refine bcase_intro ?_ ?_ <;> intro hc <;> conv => whnf))
    all_goals first | rfl | exact absurd h (by assumption) | (trace_state; fail "swapQ1")
  · rw [show swapS s m = s from if_neg h]
    refine pureP_of rfl rfl ?_
    (conv => whnf); repeat' (first  | ((with_reducible first | apply kN | apply kW | apply kX | apply kG | apply kQ); (· exact sd); conv => whnf) | (refine pcase.mk ?_ ?_ <;> intro hc <;> (try rw [List.length_nil] at hc) <;> first | (exfalso; omega) | (exact absurd rfl hc) | conv => whnf) | (refine bcase_intro ?_ ?_ <;> intro hc <;> conv => whnf))
    all_goals first | rfl | exact absurd (by assumption) h | (trace_state; fail "swapQ2")
theorem ren2 {r : GR} {m : GM} {ob1 ob2 : Obj} {g c : Nat} {K : AOut → Sto → Prop} (hK : ∀ ob3 c', K (.ok (.tup [])) ⟨[.arr g 6 true true [GR.av { r with name := swapS r.name m }], ob1, ob2, ob3], c'⟩) : Calls1 (findFn tab) 63 [.ref 0 g 0 2, m.av] ⟨[.arr g 6 true true [r.av], ob1, ob2], c⟩ K := by
  refine calls1_of rfl rfl ?_
  by_cases h : r.name = m.fr
  · have e : ({ r with name := swapS r.name m } : GR) = { r with name := m.to } := by unfold swapS; rw [if_pos h]
    rw [e] at hK
    (conv => whnf); repeat' (first  | ((with_reducible first | apply kN | apply kW | apply kX | apply kG | apply kQ); (· exact sd); conv => whnf) | (refine pcase.mk ?_ ?_ <;> intro hc <;> (try rw [List.length_nil] at hc) <;> first | (exfalso; omega) | (exact absurd rfl hc) | conv => whnf) | (refine bcase_intro ?_ ?_ <;> intro hc <;> conv => whnf))
    all_goals first | exact hK _ _ | exact absurd h (by assumption) | (trace_state; fail "ren2")
  · have e : ({ r with name := swapS r.name m } : GR) = r := by unfold swapS; rw [if_neg h]
    rw [e] at hK
    (conv => whnf); repeat' (first  | ((with_reducible first | apply kN | apply kW | apply kX | apply kG | apply kQ); (· exact sd); conv => whnf) | (refine pcase.mk ?_ ?_ <;> intro hc <;> (try rw [List.length_nil] at hc) <;> first | (exfalso; omega) | (exact absurd rfl hc) | conv => whnf) | (refine bcase_intro ?_ ?_ <;> intro hc <;> conv => whnf))
    all_goals first | exact hK _ _ | exact absurd (by assumption) h | (trace_state; fail "ren2")
theorem ren3 {r : GR} {m : GM} {ob1 ob2 : Obj} {g c : Nat} {K : AOut → Sto → Prop} (hK : ∀ ob3 c', K (.ok (.tup [])) ⟨[.arr g 6 true true [GR.av { r with key := swapS r.key m }], ob1, ob2, ob3], c'⟩) : Calls1 (findFn tab) 63 [.ref 0 g 0 3, m.av] ⟨[.arr g 6 true true [r.av], ob1, ob2], c⟩ K := by
  refine calls1_of rfl rfl ?_
  by_cases h : r.key = m.fr
  · have e : ({ r with key := swapS r.key m } : GR) = { r with key := m.to } := by unfold swapS; rw [if_pos h]
    rw [e] at hK
    (conv => whnf); repeat' (first  | ((with_reducible first | apply kN | apply kW | apply kX | apply kG | apply kQ); (· exact sd); conv => whnf) | (refine pcase.mk ?_ ?_ <;> intro hc <;> (try rw [List.length_nil] at hc) <;> first | (exfalso; omega) | (exact absurd rfl hc) | conv => whnf) | (refine bcase_intro ?_ ?_ <;> intro hc <;> conv => whnf))
    all_goals first | exact hK _ _ | exact absurd h (by assumption) | (trace_state; fail "ren3")
  · have e : ({ r with key := swapS r.key m } : GR) = r := by unfold swapS; rw [if_neg h]
    rw [e] at hK
    (conv => whnf); repeat' (first  | ((with_reducible first | apply kN | apply kW | apply kX | apply kG | apply kQ); (· exact sd); conv => whnf) | (refine pcase.mk ?_ ?_ <;> intro hc <;> (try rw [List.length_nil] at hc) <;> first | (exfalso; omega) | (exact absurd rfl hc) | conv => whnf) | (refine bcase_intro ?_ ?_ <;> intro hc <;> conv => whnf))
    all_goals first | exact hK _ _ | exact absurd (by assumption) h | (trace_state; fail "ren3")
theorem ren4 {r : GR} {m : GM} {ob1 ob2 : Obj} {g c : Nat} {K : AOut → Sto → Prop} (hK : ∀ ob3 c', K (.ok (.tup [])) ⟨[.arr g 6 true true [GR.av { r with fr := swapS r.fr m }], ob1, ob2, ob3], c'⟩) : Calls1 (findFn tab) 63 [.ref 0 g 0 4, m.av] ⟨[.arr g 6 true true [r.av], ob1, ob2], c⟩ K := by
  refine calls1_of rfl rfl ?_
  by_cases h : r.fr = m.fr
  · have e : ({ r with fr := swapS r.fr m } : GR) = { r with fr := m.to } := by unfold swapS; rw [if_pos h]
    rw [e] at hK
    (conv => whnf); repeat' (first  | ((with_reducible first | apply kN | apply kW | apply kX | apply kG | apply kQ); (· exact sd); conv => whnf) | (refine pcase.mk ?_ ?_ <;> intro hc <;> (try rw [List.length_nil] at hc) <;> first | (exfalso; omega) | (exact absurd rfl hc) | conv => whnf) | (refine bcase_intro ?_ ?_ <;> intro hc <;> conv => whnf))
    all_goals first | exact hK _ _ | exact absurd h (by assumption) | (trace_state; fail "ren4")
  · have e : ({ r with fr := swapS r.fr m } : GR) = r := by unfold swapS; rw [if_neg h]
    rw [e] at hK
    (conv => whnf); repeat' (first  | ((with_reducible first | apply kN | apply kW | apply kX | apply kG | apply kQ); (· exact sd); conv => whnf) | (refine pcase.mk ?_ ?_ <;> intro hc <;> (try rw [List.length_nil] at hc) <;> first | (exfalso; omega) | (exact absurd rfl hc) | conv => whnf) | (refine bcase_intro ?_ ?_ <;> intro hc <;> conv => whnf))
    all_goals first | exact hK _ _ | exact absurd (by assumption) h | (trace_state; fail "ren4")
theorem ren5 {r : GR} {m : GM} {ob1 ob2 : Obj} {g c : Nat} {K : AOut → Sto → Prop} (hK : ∀ ob3 c', K (.ok (.tup [])) ⟨[.arr g 6 true true [GR.av { r with to := swapS r.to m }], ob1, ob2, ob3], c'⟩) : Calls1 (findFn tab) 63 [.ref 0 g 0 5, m.av] ⟨[.arr g 6 true true [r.av], ob1, ob2], c⟩ K := by
  refine calls1_of rfl rfl ?_
  by_cases h : r.to = m.fr
  · have e : ({ r with to := swapS r.to m } : GR) = { r with to := m.to } := by unfold swapS; rw [if_pos h]
    rw [e] at hK
    (conv => whnf); repeat' (first  | ((with_reducible first | apply kN | apply kW | apply kX | apply kG | apply kQ); (· exact sd); conv => whnf) | (refine pcase.mk ?_ ?_ <;> intro hc <;> (try rw [List.length_nil] at hc) <;> first | (exfalso; omega) | (exact absurd rfl hc) | conv => whnf) | (refine bcase_intro ?_ ?_ <;> intro hc <;> conv => whnf))
    all_goals first | exact hK _ _ | exact absurd h (by assumption) | (trace_state; fail "ren5")
  · have e : ({ r with to := swapS r.to m } : GR) = r := by unfold swapS; rw [if_neg h]
    rw [e] at hK
    (conv => whnf); repeat' (first  | ((with_reducible first | apply kN | apply kW | apply kX | apply kG | apply kQ); (· exact sd); conv => whnf) | (refine pcase.mk ?_ ?_ <;> intro hc <;> (try rw [List.length_nil] at hc) <;> first | (exfalso; omega) | (exact absurd rfl hc) | conv => whnf) | (refine bcase_intro ?_ ?_ <;> intro hc <;> conv => whnf))
    all_goals first | exact hK _ _ | exact absurd (by assumption) h | (trace_state; fail "ren5")

end AI
end Go.Proofs.YtdlkcancogpafaaGreatDoor
set_option linter.unusedVariables false
namespace Go.Proofs.YtdlkcancogpafaaGreatDoor
namespace AI

def tupR (r : GR) (b : Bool) : AV := .tup [r.av, .bool b]
theorem turnP_of {r : GR} {m : GM} {r' : GR} {b : Bool} (h : turnR r m = r') (h2 : decide (¬ goneR r m) = b) : tupR r' b = tupR (turnR r m) (decide (¬ goneR r m)) := by rw [h, h2]
theorem not_gone {r : GR} {m : GM} (h : m.k ≠ 4) : decide (¬ goneR r m) = true := decide_eq_true fun g => h g.1

set_option maxHeartbeats 1000000 in
theorem turnP {r : GR} {m : GM} : PureP (findFn tab) 22 [r.av, m.av] (· = tupR (turnR r m) (decide (¬ goneR r m))) := by
  have ho := ofNodesP (r := r)
  by_cases k1 : m.k = 1
  · rw [not_gone (by omega)]
    by_cases hn : nodeK r.k
    · have e : turnR r m = { r with name := swapS r.name m } := by unfold turnR; rw [if_pos k1, if_pos hn]
      rw [e]
      rw [decide_eq_true hn] at ho
      refine pureP_of rfl rfl ?_
      (conv => whnf); repeat' (first | (refine callK_of ho ?_; rintro _ rfl; conv => whnf) | (refine ren2 ?_; intro ob3 c'; conv => whnf) | ((with_reducible first | apply kN | apply kW | apply kX | apply kG | apply kQ); (· exact sd); conv => whnf) | (refine pcase.mk ?_ ?_ <;> intro hc <;> (try rw [List.length_nil] at hc) <;> first | (exfalso; omega) | (exact absurd rfl hc) | conv => whnf) | (refine bcase_intro ?_ ?_ <;> intro hc <;> conv => whnf))
      all_goals first | rfl | exact absurd (show r.k = 6 by assumption) (by unfold nodeK at hn; omega) | (trace_state; fail "turnP1")
    · rw [decide_eq_false hn] at ho
      by_cases h6 : r.k = 6
      · have e : turnR r m = { r with fr := swapS r.fr m, to := swapS r.to m } := by unfold turnR; rw [if_pos k1, if_neg hn, if_pos h6]
        rw [e]
        refine pureP_of rfl rfl ?_
        (conv => whnf); repeat' (first | (refine callK_of ho ?_; rintro _ rfl; conv => whnf) | (refine ren4 (r := r) ?_; intro ob3 c'; conv => whnf) | (refine ren5 (r := { r with fr := swapS r.fr m }) ?_; intro ob3 c'; conv => whnf) | ((with_reducible first | apply kN | apply kW | apply kX | apply kG | apply kQ); (· exact sd); conv => whnf) | (refine pcase.mk ?_ ?_ <;> intro hc <;> (try rw [List.length_nil] at hc) <;> first | (exfalso; omega) | (exact absurd rfl hc) | conv => whnf) | (refine bcase_intro ?_ ?_ <;> intro hc <;> conv => whnf))
        all_goals first | rfl | (exfalso; omega) | (trace_state; fail "turnP2")
      · have e : turnR r m = r := by unfold turnR; rw [if_pos k1, if_neg hn, if_neg h6]
        rw [e]
        refine pureP_of rfl rfl ?_
        (conv => whnf); repeat' (first | (refine callK_of ho ?_; rintro _ rfl; conv => whnf) | ((with_reducible first | apply kN | apply kW | apply kX | apply kG | apply kQ); (· exact sd); conv => whnf) | (refine pcase.mk ?_ ?_ <;> intro hc <;> (try rw [List.length_nil] at hc) <;> first | (exfalso; omega) | (exact absurd rfl hc) | conv => whnf) | (refine bcase_intro ?_ ?_ <;> intro hc <;> conv => whnf))
        all_goals first | rfl | (exfalso; omega) | (trace_state; fail "turnP3")
  by_cases k2 : m.k = 2
  · rw [not_gone (by omega)]
    by_cases hn : nodeK r.k
    · have e : turnR r m = r := by unfold turnR; rw [if_neg k1, if_pos k2, if_pos hn]
      rw [e]
      rw [decide_eq_true hn] at ho
      refine pureP_of rfl rfl ?_
      (conv => whnf); repeat' (first | (refine callK_of ho ?_; rintro _ rfl; conv => whnf) | ((with_reducible first | apply kN | apply kW | apply kX | apply kG | apply kQ); (· exact sd); conv => whnf) | (refine pcase.mk ?_ ?_ <;> intro hc <;> (try rw [List.length_nil] at hc) <;> first | (exfalso; omega) | (exact absurd rfl hc) | conv => whnf) | (refine bcase_intro ?_ ?_ <;> intro hc <;> conv => whnf))
      all_goals first | rfl | (exfalso; omega) | (trace_state; fail "turnP4")
    · have e : turnR r m = { r with name := swapS r.name m } := by unfold turnR; rw [if_neg k1, if_pos k2, if_neg hn]
      rw [e]
      rw [decide_eq_false hn] at ho
      refine pureP_of rfl rfl ?_
      (conv => whnf); repeat' (first | (refine callK_of ho ?_; rintro _ rfl; conv => whnf) | (refine ren2 ?_; intro ob3 c'; conv => whnf) | ((with_reducible first | apply kN | apply kW | apply kX | apply kG | apply kQ); (· exact sd); conv => whnf) | (refine pcase.mk ?_ ?_ <;> intro hc <;> (try rw [List.length_nil] at hc) <;> first | (exfalso; omega) | (exact absurd rfl hc) | conv => whnf) | (refine bcase_intro ?_ ?_ <;> intro hc <;> conv => whnf))
      all_goals first | rfl | (exfalso; omega) | (trace_state; fail "turnP5")
  by_cases k3 : m.k = 3
  · rw [not_gone (by omega)]
    by_cases hn : nodeK r.k
    · rw [decide_eq_true hn] at ho
      by_cases hl : r.name = m.label
      · have e : turnR r m = { r with key := swapS r.key m } := by unfold turnR; rw [if_neg k1, if_neg k2, if_pos k3, if_pos ⟨hn, hl⟩]
        rw [e]
        refine pureP_of rfl rfl ?_
        (conv => whnf); repeat' (first | (refine callK_of ho ?_; rintro _ rfl; conv => whnf) | (refine ren3 ?_; intro ob3 c'; conv => whnf) | ((with_reducible first | apply kN | apply kW | apply kX | apply kG | apply kQ); (· exact sd); conv => whnf) | (refine pcase.mk ?_ ?_ <;> intro hc <;> (try rw [List.length_nil] at hc) <;> first | (exfalso; omega) | (exact absurd rfl hc) | conv => whnf) | (refine bcase_intro ?_ ?_ <;> intro hc <;> conv => whnf))
        all_goals first | rfl | (exfalso; omega) | exact absurd hl (by assumption) | (trace_state; fail "turnP6")
      · have e : turnR r m = r := by unfold turnR; rw [if_neg k1, if_neg k2, if_pos k3, if_neg fun h => hl h.2]
        rw [e]
        refine pureP_of rfl rfl ?_
        (conv => whnf); repeat' (first | (refine callK_of ho ?_; rintro _ rfl; conv => whnf) | ((with_reducible first | apply kN | apply kW | apply kX | apply kG | apply kQ); (· exact sd); conv => whnf) | (refine pcase.mk ?_ ?_ <;> intro hc <;> (try rw [List.length_nil] at hc) <;> first | (exfalso; omega) | (exact absurd rfl hc) | conv => whnf) | (refine bcase_intro ?_ ?_ <;> intro hc <;> conv => whnf))
        all_goals first | rfl | (exfalso; omega) | exact absurd (by assumption) hl | (trace_state; fail "turnP7")
    · have e : turnR r m = r := by unfold turnR; rw [if_neg k1, if_neg k2, if_pos k3, if_neg fun h => hn h.1]
      rw [e]
      rw [decide_eq_false hn] at ho
      refine pureP_of rfl rfl ?_
      (conv => whnf); repeat' (first | (refine callK_of ho ?_; rintro _ rfl; conv => whnf) | ((with_reducible first | apply kN | apply kW | apply kX | apply kG | apply kQ); (· exact sd); conv => whnf) | (refine pcase.mk ?_ ?_ <;> intro hc <;> (try rw [List.length_nil] at hc) <;> first | (exfalso; omega) | (exact absurd rfl hc) | conv => whnf) | (refine bcase_intro ?_ ?_ <;> intro hc <;> conv => whnf))
      all_goals first | rfl | (exfalso; omega) | (trace_state; fail "turnP8")
  have e : turnR r m = r := by unfold turnR; rw [if_neg k1, if_neg k2, if_neg k3]
  rw [e]
  by_cases k4 : m.k = 4
  · by_cases hn : nodeK r.k
    · rw [decide_eq_true hn] at ho
      by_cases hl : r.name = m.label
      · by_cases hf : r.key = m.fr
        · rw [show decide (¬ goneR r m) = false from decide_eq_false fun h => h ⟨k4, hn, hl, hf⟩]
          refine pureP_of rfl rfl ?_
          (conv => whnf); repeat' (first | (refine callK_of ho ?_; rintro _ rfl; conv => whnf) | ((with_reducible first | apply kN | apply kW | apply kX | apply kG | apply kQ); (· exact sd); conv => whnf) | (refine pcase.mk ?_ ?_ <;> intro hc <;> (try rw [List.length_nil] at hc) <;> first | (exfalso; omega) | (exact absurd rfl hc) | conv => whnf) | (refine bcase_intro ?_ ?_ <;> intro hc <;> conv => whnf))
          all_goals first | rfl | (exfalso; omega) | (exfalso; simp_all; done) | (trace_state; fail "turnP9")
        · rw [show decide (¬ goneR r m) = true from decide_eq_true fun h => hf h.2.2.2]
          refine pureP_of rfl rfl ?_
          (conv => whnf); repeat' (first | (refine callK_of ho ?_; rintro _ rfl; conv => whnf) | ((with_reducible first | apply kN | apply kW | apply kX | apply kG | apply kQ); (· exact sd); conv => whnf) | (refine pcase.mk ?_ ?_ <;> intro hc <;> (try rw [List.length_nil] at hc) <;> first | (exfalso; omega) | (exact absurd rfl hc) | conv => whnf) | (refine bcase_intro ?_ ?_ <;> intro hc <;> conv => whnf))
          all_goals first | rfl | (exfalso; omega) | (exfalso; simp_all; done) | (trace_state; fail "turnP10")
      · rw [show decide (¬ goneR r m) = true from decide_eq_true fun h => hl h.2.2.1]
        refine pureP_of rfl rfl ?_
        (conv => whnf); repeat' (first | (refine callK_of ho ?_; rintro _ rfl; conv => whnf) | ((with_reducible first | apply kN | apply kW | apply kX | apply kG | apply kQ); (· exact sd); conv => whnf) | (refine pcase.mk ?_ ?_ <;> intro hc <;> (try rw [List.length_nil] at hc) <;> first | (exfalso; omega) | (exact absurd rfl hc) | conv => whnf) | (refine bcase_intro ?_ ?_ <;> intro hc <;> conv => whnf))
        all_goals first | rfl | (exfalso; omega) | (exfalso; simp_all; done) | (trace_state; fail "turnP11")
    · rw [decide_eq_false hn] at ho
      rw [show decide (¬ goneR r m) = true from decide_eq_true fun h => hn h.2.1]
      refine pureP_of rfl rfl ?_
      (conv => whnf); repeat' (first | (refine callK_of ho ?_; rintro _ rfl; conv => whnf) | ((with_reducible first | apply kN | apply kW | apply kX | apply kG | apply kQ); (· exact sd); conv => whnf) | (refine pcase.mk ?_ ?_ <;> intro hc <;> (try rw [List.length_nil] at hc) <;> first | (exfalso; omega) | (exact absurd rfl hc) | conv => whnf) | (refine bcase_intro ?_ ?_ <;> intro hc <;> conv => whnf))
      all_goals first | rfl | (exfalso; omega) | (exfalso; simp_all; done) | (trace_state; fail "turnP12")
  · rw [not_gone k4]
    refine pureP_of rfl rfl ?_
    (conv => whnf); repeat' (first | (refine callK_of ho ?_; rintro _ rfl; conv => whnf) | ((with_reducible first | apply kN | apply kW | apply kX | apply kG | apply kQ); (· exact sd); conv => whnf) | (refine pcase.mk ?_ ?_ <;> intro hc <;> (try rw [List.length_nil] at hc) <;> first | (exfalso; omega) | (exact absurd rfl hc) | conv => whnf) | (refine bcase_intro ?_ ?_ <;> intro hc <;> conv => whnf))
    all_goals first | rfl | (exfalso; omega) | (trace_state; fail "turnP13")

theorem turnQ {r : GR} {m : GM} : PureP (findFn tab) 31 [r.av, m.av] (· = (turnR r m).av) := by
  have ho := nodeQ (k := r.k)
  have s1 := swapQ (s := r.name) (m := m)
  have s2 := swapQ (s := r.key) (m := m)
  have s3 := swapQ (s := r.fr) (m := m)
  have s4 := swapQ (s := r.to) (m := m)
  by_cases k1 : m.k = 1
  · by_cases hn : nodeK r.k
    · have e : turnR r m = { r with name := swapS r.name m } := by unfold turnR; rw [if_pos k1, if_pos hn]
      rw [e]
      rw [decide_eq_true hn] at ho
      refine pureP_of rfl rfl ?_
      (conv => whnf); repeat' (first | (refine callK_of ho ?_; rintro _ rfl; conv => whnf) | (refine callK_of s1 ?_; rintro _ rfl; conv => whnf) | ((with_reducible first | apply kN | apply kW | apply kX | apply kG | apply kQ); (· exact sd); conv => whnf) | (refine pcase.mk ?_ ?_ <;> intro hc <;> (try rw [List.length_nil] at hc) <;> first | (exfalso; omega) | (exact absurd rfl hc) | conv => whnf) | (refine bcase_intro ?_ ?_ <;> intro hc <;> conv => whnf))
      all_goals first | rfl | (exfalso; unfold nodeK at hn; omega) | (trace_state; fail "turnQ1")
    · rw [decide_eq_false hn] at ho
      by_cases h6 : r.k = 6
      · have e : turnR r m = { r with fr := swapS r.fr m, to := swapS r.to m } := by unfold turnR; rw [if_pos k1, if_neg hn, if_pos h6]
        rw [e]
        refine pureP_of rfl rfl ?_
        (conv => whnf); repeat' (first | (refine callK_of ho ?_; rintro _ rfl; conv => whnf) | (refine callK_of s3 ?_; rintro _ rfl; conv => whnf) | (refine callK_of s4 ?_; rintro _ rfl; conv => whnf) | ((with_reducible first | apply kN | apply kW | apply kX | apply kG | apply kQ); (· exact sd); conv => whnf) | (refine pcase.mk ?_ ?_ <;> intro hc <;> (try rw [List.length_nil] at hc) <;> first | (exfalso; omega) | (exact absurd rfl hc) | conv => whnf) | (refine bcase_intro ?_ ?_ <;> intro hc <;> conv => whnf))
        all_goals first | rfl | (exfalso; omega) | (trace_state; fail "turnQ2")
      · have e : turnR r m = r := by unfold turnR; rw [if_pos k1, if_neg hn, if_neg h6]
        rw [e]
        refine pureP_of rfl rfl ?_
        (conv => whnf); repeat' (first | (refine callK_of ho ?_; rintro _ rfl; conv => whnf) | ((with_reducible first | apply kN | apply kW | apply kX | apply kG | apply kQ); (· exact sd); conv => whnf) | (refine pcase.mk ?_ ?_ <;> intro hc <;> (try rw [List.length_nil] at hc) <;> first | (exfalso; omega) | (exact absurd rfl hc) | conv => whnf) | (refine bcase_intro ?_ ?_ <;> intro hc <;> conv => whnf))
        all_goals first | rfl | (exfalso; omega) | (trace_state; fail "turnQ3")
  by_cases k2 : m.k = 2
  · by_cases hn : nodeK r.k
    · have e : turnR r m = r := by unfold turnR; rw [if_neg k1, if_pos k2, if_pos hn]
      rw [e]
      rw [decide_eq_true hn] at ho
      refine pureP_of rfl rfl ?_
      (conv => whnf); repeat' (first | (refine callK_of ho ?_; rintro _ rfl; conv => whnf) | ((with_reducible first | apply kN | apply kW | apply kX | apply kG | apply kQ); (· exact sd); conv => whnf) | (refine pcase.mk ?_ ?_ <;> intro hc <;> (try rw [List.length_nil] at hc) <;> first | (exfalso; omega) | (exact absurd rfl hc) | conv => whnf) | (refine bcase_intro ?_ ?_ <;> intro hc <;> conv => whnf))
      all_goals first | rfl | (exfalso; omega) | (trace_state; fail "turnQ4")
    · have e : turnR r m = { r with name := swapS r.name m } := by unfold turnR; rw [if_neg k1, if_pos k2, if_neg hn]
      rw [e]
      rw [decide_eq_false hn] at ho
      refine pureP_of rfl rfl ?_
      (conv => whnf); repeat' (first | (refine callK_of ho ?_; rintro _ rfl; conv => whnf) | (refine callK_of s1 ?_; rintro _ rfl; conv => whnf) | ((with_reducible first | apply kN | apply kW | apply kX | apply kG | apply kQ); (· exact sd); conv => whnf) | (refine pcase.mk ?_ ?_ <;> intro hc <;> (try rw [List.length_nil] at hc) <;> first | (exfalso; omega) | (exact absurd rfl hc) | conv => whnf) | (refine bcase_intro ?_ ?_ <;> intro hc <;> conv => whnf))
      all_goals first | rfl | (exfalso; omega) | (trace_state; fail "turnQ5")
  by_cases k3 : m.k = 3
  · by_cases hn : nodeK r.k
    · rw [decide_eq_true hn] at ho
      by_cases hl : r.name = m.label
      · have e : turnR r m = { r with key := swapS r.key m } := by unfold turnR; rw [if_neg k1, if_neg k2, if_pos k3, if_pos ⟨hn, hl⟩]
        rw [e]
        refine pureP_of rfl rfl ?_
        (conv => whnf); repeat' (first | (refine callK_of ho ?_; rintro _ rfl; conv => whnf) | (refine callK_of s2 ?_; rintro _ rfl; conv => whnf) | ((with_reducible first | apply kN | apply kW | apply kX | apply kG | apply kQ); (· exact sd); conv => whnf) | (refine pcase.mk ?_ ?_ <;> intro hc <;> (try rw [List.length_nil] at hc) <;> first | (exfalso; omega) | (exact absurd rfl hc) | conv => whnf) | (refine bcase_intro ?_ ?_ <;> intro hc <;> conv => whnf))
        all_goals first | rfl | (exfalso; omega) | exact absurd hl (by assumption) | (trace_state; fail "turnQ6")
      · have e : turnR r m = r := by unfold turnR; rw [if_neg k1, if_neg k2, if_pos k3, if_neg fun h => hl h.2]
        rw [e]
        refine pureP_of rfl rfl ?_
        (conv => whnf); repeat' (first | (refine callK_of ho ?_; rintro _ rfl; conv => whnf) | ((with_reducible first | apply kN | apply kW | apply kX | apply kG | apply kQ); (· exact sd); conv => whnf) | (refine pcase.mk ?_ ?_ <;> intro hc <;> (try rw [List.length_nil] at hc) <;> first | (exfalso; omega) | (exact absurd rfl hc) | conv => whnf) | (refine bcase_intro ?_ ?_ <;> intro hc <;> conv => whnf))
        all_goals first | rfl | (exfalso; omega) | exact absurd (by assumption) hl | (trace_state; fail "turnQ7")
    · have e : turnR r m = r := by unfold turnR; rw [if_neg k1, if_neg k2, if_pos k3, if_neg fun h => hn h.1]
      rw [e]
      rw [decide_eq_false hn] at ho
      refine pureP_of rfl rfl ?_
      (conv => whnf); repeat' (first | (refine callK_of ho ?_; rintro _ rfl; conv => whnf) | ((with_reducible first | apply kN | apply kW | apply kX | apply kG | apply kQ); (· exact sd); conv => whnf) | (refine pcase.mk ?_ ?_ <;> intro hc <;> (try rw [List.length_nil] at hc) <;> first | (exfalso; omega) | (exact absurd rfl hc) | conv => whnf) | (refine bcase_intro ?_ ?_ <;> intro hc <;> conv => whnf))
      all_goals first | rfl | (exfalso; omega) | (trace_state; fail "turnQ8")
  have e : turnR r m = r := by unfold turnR; rw [if_neg k1, if_neg k2, if_neg k3]
  rw [e]
  refine pureP_of rfl rfl ?_
  (conv => whnf); repeat' (first | (refine callK_of ho ?_; rintro _ rfl; conv => whnf) | ((with_reducible first | apply kN | apply kW | apply kX | apply kG | apply kQ); (· exact sd); conv => whnf) | (refine pcase.mk ?_ ?_ <;> intro hc <;> (try rw [List.length_nil] at hc) <;> first | (exfalso; omega) | (exact absurd rfl hc) | conv => whnf) | (refine bcase_intro ?_ ?_ <;> intro hc <;> conv => whnf))
  all_goals first | rfl | (exfalso; omega) | (trace_state; fail "turnQ9")

end AI
end Go.Proofs.YtdlkcancogpafaaGreatDoor
