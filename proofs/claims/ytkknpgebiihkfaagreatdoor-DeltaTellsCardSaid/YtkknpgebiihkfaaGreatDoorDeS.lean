/- Graphs alike: the program's way and the reference's. -/
import Derived.Test.YtkknpgebiihkfaaGreatDoorDE3
import Derived.Test.YtkknpgebiihkfaaGreatDoorVoC
set_option linter.unusedVariables false
set_option maxRecDepth 4000
namespace Go.Proofs.YtkknpgebiihkfaaGreatDoor
namespace AI

def AllR {α : Type} (R : α → α → Prop) (l m : List α) : Prop := l.length = m.length ∧ ∀ k (h : k < l.length) (h' : k < m.length), R l[k] m[k]
noncomputable instance {α : Type} (R : α → α → Prop) (l m : List α) : Decidable (AllR R l m) := Classical.propDecidable _
section
variable {α : Type} {R : α → α → Prop} {l m : List α} {i : Nat}
theorem allR_step (h : ∀ k (h : k < l.length) (h' : k < m.length), k < i → R l[k] m[k]) (h1 : i < l.length) (h2 : i < m.length) (hi : R l[i] m[i]) : ∀ k (h : k < l.length) (h' : k < m.length), k < i + 1 → R l[k] m[k] := fun k a b c => by
  by_cases e : k = i
  · subst e; exact hi
  · exact h k a b (by omega)
theorem allR_mk (hl : l.length = m.length) (h : ∀ k (h : k < l.length) (h' : k < m.length), k < i → R l[k] m[k]) (hi : l.length ≤ i) : AllR R l m := ⟨hl, fun k a b => h k a b (by omega)⟩
theorem allR_no (h1 : i < l.length) (h2 : i < m.length) (h : ¬ R l[i] m[i]) : ¬ AllR R l m := fun x => h (x.2 i h1 h2)
theorem allR_len (h : ¬ l.length = m.length) : ¬ AllR R l m := fun x => h x.1
theorem allR_eq {l m : List α} : AllR Eq l m ↔ l = m := ⟨fun h => List.ext_getElem h.1 h.2, fun h => by subst h; exact ⟨rfl, fun _ _ _ => rfl⟩⟩
end
def SP (x y : GP) : Prop := x.key = y.key ∧ cmpV 12 x.v y.v = 0
def SN (x y : GN) : Prop := x.id = y.id ∧ x.labels = y.labels ∧ AllR SP x.props y.props
def SE (x y : GE) : Prop := x.id = y.id ∧ x.fr = y.fr ∧ x.to = y.to ∧ x.ty = y.ty ∧ AllR SP x.props y.props
def SG (a b : GG) : Prop := AllR SN a.nodes b.nodes ∧ AllR SE a.edges b.edges
noncomputable instance (x y : GP) : Decidable (SP x y) := Classical.propDecidable _
noncomputable instance (x y : GN) : Decidable (SN x y) := Classical.propDecidable _
noncomputable instance (x y : GE) : Decidable (SE x y) := Classical.propDecidable _
noncomputable instance (x y : GG) : Decidable (SG x y) := Classical.propDecidable _
def FineV (v : GV) : Prop := v.ok ∧ Lite 12 v.av
def FineP (l : List GP) : Prop := l.length ≤ 4000 ∧ ∀ p ∈ l, FineV p.v
def FineN (n : GN) : Prop := n.labels.length ≤ 4000 ∧ FineP n.props
def FineG (g : GG) : Prop := g.nodes.length ≤ 4000 ∧ g.edges.length ≤ 4000 ∧ (∀ n ∈ g.nodes, FineN n) ∧ ∀ e ∈ g.edges, FineP e.props
theorem fine_of {g : GG} (hg : g.ok) (hs : SmG g 24 30) : FineG g := by
  have h1 := hs.1
  have h2 := hs.2.1
  refine ⟨by omega, by omega, fun n hn => ⟨by have := (hs.2.2.1 n hn).1; omega, by have := (hs.2.2.1 n hn).2.2.1; omega, fun p hp => ⟨((hg.2.2.1 n hn).2.2.2.2.2.2 p hp).2, ((hs.2.2.1 n hn).2.2.2 p hp).2⟩⟩, fun e he => ⟨by have := (hs.2.2.2 e he).2.1; omega, fun p hp => ⟨((hg.2.2.2.2.2.1 e he).2.2.2.2.2.2 p hp).2, ((hs.2.2.2 e he).2.2 p hp).2⟩⟩⟩
theorem ordP {a b : GV} (ha : FineV a) (hb : FineV b) : PureP (findFn tab) 68 [a.av, b.av] (· = .int .i64 (cmpV 12 a b)) := orderVP 12 ha.1 hb.1 (lite_dep ha.2) (lite_dep hb.2)
theorem ordR {a b : GV} (ha : FineV a) (hb : FineV b) : PureP (findFn tab) 53 [a.av, b.av] (· = .int .i64 (cmpV 12 a b)) := orderVR 12 ha.1 hb.1 (lite_dep ha.2) (lite_dep hb.2)

theorem strsP {l m : List (List UInt8)} {nl nm : Bool} (hl : l.length ≤ 4000) (hm : m.length ≤ 4000) : PureP (findFn tab) 48 [.sl nl (vs .str l), .sl nm (vs .str m)] (· = .bool (decide (l = m))) := by
  by_cases hlen : l.length = m.length
  case neg =>
    refine pureP_of rfl rfl ?_
    (conv => whnf); repeat' (first  | ((with_reducible first | apply kN | apply kW | apply kX | apply kG | apply kQ); (· exact sd); conv => whnf) | (refine pcase.mk ?_ ?_ <;> intro hc <;> (try rw [List.length_nil] at hc) <;> first | (exfalso; omega) | (exact absurd rfl hc) | conv => whnf) | (refine bcase_intro ?_ ?_ <;> intro hc <;> conv => whnf))
    all_goals first | exact bool_f (fun h => hlen (congrArg List.length h)) | (exfalso; omega) | (trace_state; fail "strs0")
  refine pureP_of rfl rfl ?_
  (conv => whnf); repeat' (first  | ((with_reducible first | apply kN | apply kW | apply kX | apply kG | apply kQ); (· exact sd); conv => whnf) | (refine pcase.mk ?_ ?_ <;> intro hc <;> (try rw [List.length_nil] at hc) <;> first | (exfalso; omega) | (exact absurd rfl hc) | conv => whnf) | (refine bcase_intro ?_ ?_ <;> intro hc <;> conv => whnf))
  all_goals first | (exfalso; omega) | skip
  refine loop_inv (fun z env s => ∃ (i : Nat), z = l.length - i ∧ (∀ k (h : k < l.length) (h' : k < m.length), k < i → l[k] = m[k]) ∧ env = [(0, .sl nl (vs .str l)), (1, .sl nm (vs .str m)), (12, .int .i64 l.length), (13, .int .i64 i)] ∧ s = ⟨[], 0⟩) ?_ _ _ _ ⟨0, rfl, fun _ _ _ h => absurd h (by omega), by first | rfl | (rw [← lV (f := AV.str) l]; rfl), rfl⟩
  rintro _ _ _ ⟨i, rfl, hx, rfl, rfl⟩
  refine ⟨rfl, ?_⟩
  by_cases hlt : i < l.length
  · by_cases he : l[i] = m[i]
    · (conv => whnf); repeat' (first  | ((with_reducible first | apply kN | apply kW | apply kX | apply kG | apply kQ); (· exact sd); conv => whnf) | (refine pcase.mk ?_ ?_ <;> intro hc <;> (try rw [List.length_nil] at hc) <;> first | (exfalso; omega) | (exact absurd rfl hc) | conv => whnf) | (refine bcase_intro ?_ ?_ <;> intro hc <;> conv => whnf))
      all_goals first | exact again.mk ⟨_, by omega, i + 1, rfl, allR_step (R := Eq) hx hlt (by omega) he, rfl, rfl⟩ | (exfalso; omega) | exact absurd he (by assumption) | (exfalso; simp_all; done) | (trace_state; fail "strs1")
    · (conv => whnf); repeat' (first  | ((with_reducible first | apply kN | apply kW | apply kX | apply kG | apply kQ); (· exact sd); conv => whnf) | (refine pcase.mk ?_ ?_ <;> intro hc <;> (try rw [List.length_nil] at hc) <;> first | (exfalso; omega) | (exact absurd rfl hc) | conv => whnf) | (refine bcase_intro ?_ ?_ <;> intro hc <;> conv => whnf))
      all_goals first | exact bool_f (fun h => allR_no (R := Eq) hlt (by omega) he (allR_eq.2 h)) | (exfalso; omega) | exact absurd (by assumption) he | (exfalso; simp_all; done) | (trace_state; fail "strs2")
  · (conv => whnf); repeat' (first  | ((with_reducible first | apply kN | apply kW | apply kX | apply kG | apply kQ); (· exact sd); conv => whnf) | (refine pcase.mk ?_ ?_ <;> intro hc <;> (try rw [List.length_nil] at hc) <;> first | (exfalso; omega) | (exact absurd rfl hc) | conv => whnf) | (refine bcase_intro ?_ ?_ <;> intro hc <;> conv => whnf))
    all_goals first | exact bool_t (allR_eq.1 (allR_mk (R := Eq) hlen hx (by omega))) | (exfalso; omega) | (trace_state; fail "strs3")

theorem strsR {l m : List (List UInt8)} {nl nm : Bool} (hl : l.length ≤ 4000) (hm : m.length ≤ 4000) : PureP (findFn tab) 78 [.sl nl (vs .str l), .sl nm (vs .str m)] (· = .bool (decide (l = m))) := by
  by_cases hlen : l.length = m.length
  case neg =>
    refine pureP_of rfl rfl ?_
    (conv => whnf); repeat' (first  | ((with_reducible first | apply kN | apply kW | apply kX | apply kG | apply kQ); (· exact sd); conv => whnf) | (refine pcase.mk ?_ ?_ <;> intro hc <;> (try rw [List.length_nil] at hc) <;> first | (exfalso; omega) | (exact absurd rfl hc) | conv => whnf) | (refine bcase_intro ?_ ?_ <;> intro hc <;> conv => whnf))
    all_goals first | exact bool_f (fun h => hlen (congrArg List.length h)) | (exfalso; omega) | (trace_state; fail "strs0")
  refine pureP_of rfl rfl ?_
  (conv => whnf); repeat' (first  | ((with_reducible first | apply kN | apply kW | apply kX | apply kG | apply kQ); (· exact sd); conv => whnf) | (refine pcase.mk ?_ ?_ <;> intro hc <;> (try rw [List.length_nil] at hc) <;> first | (exfalso; omega) | (exact absurd rfl hc) | conv => whnf) | (refine bcase_intro ?_ ?_ <;> intro hc <;> conv => whnf))
  all_goals first | (exfalso; omega) | skip
  refine loop_inv (fun z env s => ∃ (i : Nat), z = l.length - i ∧ (∀ k (h : k < l.length) (h' : k < m.length), k < i → l[k] = m[k]) ∧ env = [(0, .sl nl (vs .str l)), (1, .sl nm (vs .str m)), (5, .int .i64 i)] ∧ s = ⟨[], 0⟩) ?_ _ _ _ ⟨0, rfl, fun _ _ _ h => absurd h (by omega), by first | rfl | (rw [← lV (f := AV.str) l]; rfl), rfl⟩
  rintro _ _ _ ⟨i, rfl, hx, rfl, rfl⟩
  refine ⟨rfl, ?_⟩
  by_cases hlt : i < l.length
  · by_cases he : l[i] = m[i]
    · (conv => whnf); repeat' (first  | ((with_reducible first | apply kN | apply kW | apply kX | apply kG | apply kQ); (· exact sd); conv => whnf) | (refine pcase.mk ?_ ?_ <;> intro hc <;> (try rw [List.length_nil] at hc) <;> first | (exfalso; omega) | (exact absurd rfl hc) | conv => whnf) | (refine bcase_intro ?_ ?_ <;> intro hc <;> conv => whnf))
      all_goals first | exact again.mk ⟨_, by omega, i + 1, rfl, allR_step (R := Eq) hx hlt (by omega) he, rfl, rfl⟩ | (exfalso; omega) | exact absurd he (by assumption) | (exfalso; simp_all; done) | (trace_state; fail "strs1")
    · (conv => whnf); repeat' (first  | ((with_reducible first | apply kN | apply kW | apply kX | apply kG | apply kQ); (· exact sd); conv => whnf) | (refine pcase.mk ?_ ?_ <;> intro hc <;> (try rw [List.length_nil] at hc) <;> first | (exfalso; omega) | (exact absurd rfl hc) | conv => whnf) | (refine bcase_intro ?_ ?_ <;> intro hc <;> conv => whnf))
      all_goals first | exact bool_f (fun h => allR_no (R := Eq) hlt (by omega) he (allR_eq.2 h)) | (exfalso; omega) | exact absurd (by assumption) he | (exfalso; simp_all; done) | (trace_state; fail "strs2")
  · (conv => whnf); repeat' (first  | ((with_reducible first | apply kN | apply kW | apply kX | apply kG | apply kQ); (· exact sd); conv => whnf) | (refine pcase.mk ?_ ?_ <;> intro hc <;> (try rw [List.length_nil] at hc) <;> first | (exfalso; omega) | (exact absurd rfl hc) | conv => whnf) | (refine bcase_intro ?_ ?_ <;> intro hc <;> conv => whnf))
    all_goals first | exact bool_t (allR_eq.1 (allR_mk (R := Eq) hlen hx (by omega))) | (exfalso; omega) | (trace_state; fail "strs3")

/-- properties: the reference -/
theorem propsR {l m : List GP} {nl nm : Bool} (hl : FineP l) (hm : FineP m) : PureP (findFn tab) 79 [.sl nl (vs GP.av l), .sl nm (vs GP.av m)] (· = .bool (decide (AllR SP l m))) := by
  have hl1 := hl.1
  have hm1 := hm.1
  by_cases hlen : l.length = m.length
  case neg =>
    refine pureP_of rfl rfl ?_
    (conv => whnf); repeat' (first  | ((with_reducible first | apply kN | apply kW | apply kX | apply kG | apply kQ); (· exact sd); conv => whnf) | (refine pcase.mk ?_ ?_ <;> intro hc <;> (try rw [List.length_nil] at hc) <;> first | (exfalso; omega) | (exact absurd rfl hc) | conv => whnf) | (refine bcase_intro ?_ ?_ <;> intro hc <;> conv => whnf))
    all_goals first | exact bool_f (allR_len hlen) | (exfalso; omega) | (trace_state; fail "propsR0")
  refine pureP_of rfl rfl ?_
  (conv => whnf); repeat' (first  | ((with_reducible first | apply kN | apply kW | apply kX | apply kG | apply kQ); (· exact sd); conv => whnf) | (refine pcase.mk ?_ ?_ <;> intro hc <;> (try rw [List.length_nil] at hc) <;> first | (exfalso; omega) | (exact absurd rfl hc) | conv => whnf) | (refine bcase_intro ?_ ?_ <;> intro hc <;> conv => whnf))
  all_goals first | (exfalso; omega) | skip
  refine loop_inv (fun z env s => ∃ (i : Nat), z = l.length - i ∧ (∀ k (h : k < l.length) (h' : k < m.length), k < i → SP l[k] m[k]) ∧ env = [(0, .sl nl (vs GP.av l)), (1, .sl nm (vs GP.av m)), (5, .int .i64 i)] ∧ s = ⟨[], 0⟩) ?_ _ _ _ ⟨0, rfl, fun _ _ _ h => absurd h (by omega), rfl, rfl⟩
  rintro _ _ _ ⟨i, rfl, hx, rfl, rfl⟩
  refine ⟨rfl, ?_⟩
  by_cases hlt : i < l.length
  · have ho := ordR (hl.2 _ (List.getElem_mem hlt)) (hm.2 _ (List.getElem_mem (show i < m.length by omega)))
    by_cases hk : l[i].key = m[i].key
    · by_cases he : cmpV 12 l[i].v m[i].v = 0
      · (conv => whnf); repeat' (first | (refine callK_of ho ?_; rintro _ rfl; conv => whnf) | ((with_reducible first | apply kN | apply kW | apply kX | apply kG | apply kQ); (· exact sd); conv => whnf) | (refine pcase.mk ?_ ?_ <;> intro hc <;> (try rw [List.length_nil] at hc) <;> first | (exfalso; omega) | (exact absurd rfl hc) | conv => whnf) | (refine bcase_intro ?_ ?_ <;> intro hc <;> conv => whnf))
        all_goals first | exact again.mk ⟨_, by omega, i + 1, rfl, allR_step hx hlt (by omega) ⟨hk, he⟩, rfl, rfl⟩ | (exfalso; omega) | exact absurd hk (by assumption) | (exfalso; simp_all; done) | (trace_state; fail "propsR1")
      · (conv => whnf); repeat' (first | (refine callK_of ho ?_; rintro _ rfl; conv => whnf) | ((with_reducible first | apply kN | apply kW | apply kX | apply kG | apply kQ); (· exact sd); conv => whnf) | (refine pcase.mk ?_ ?_ <;> intro hc <;> (try rw [List.length_nil] at hc) <;> first | (exfalso; omega) | (exact absurd rfl hc) | conv => whnf) | (refine bcase_intro ?_ ?_ <;> intro hc <;> conv => whnf))
        all_goals first | exact bool_f (allR_no hlt (by omega) fun h => he h.2) | (exfalso; omega) | exact absurd hk (by assumption) | (exfalso; simp_all; done) | (trace_state; fail "propsR2")
    · (conv => whnf); repeat' (first | (refine callK_of ho ?_; rintro _ rfl; conv => whnf) | ((with_reducible first | apply kN | apply kW | apply kX | apply kG | apply kQ); (· exact sd); conv => whnf) | (refine pcase.mk ?_ ?_ <;> intro hc <;> (try rw [List.length_nil] at hc) <;> first | (exfalso; omega) | (exact absurd rfl hc) | conv => whnf) | (refine bcase_intro ?_ ?_ <;> intro hc <;> conv => whnf))
      all_goals first | exact bool_f (allR_no hlt (by omega) fun h => hk h.1) | (exfalso; omega) | exact absurd (by assumption) hk | (exfalso; simp_all; done) | (trace_state; fail "propsR3")
  · (conv => whnf); repeat' (first  | ((with_reducible first | apply kN | apply kW | apply kX | apply kG | apply kQ); (· exact sd); conv => whnf) | (refine pcase.mk ?_ ?_ <;> intro hc <;> (try rw [List.length_nil] at hc) <;> first | (exfalso; omega) | (exact absurd rfl hc) | conv => whnf) | (refine bcase_intro ?_ ?_ <;> intro hc <;> conv => whnf))
    all_goals first | exact bool_t (allR_mk hlen hx (by omega)) | (exfalso; omega) | (trace_state; fail "propsR4")

theorem eqFGP {R : GP → GP → Prop} [∀ x y, Decidable (R x y)] {f : Nat} {l m : List GP} {nl nm : Bool} (hl : l.length ≤ 4000) (hm : m.length ≤ 4000) (hf : ∀ x ∈ l, ∀ y ∈ m, PureP (findFn tab) f [x.av, y.av] (· = .bool (decide (R x y)))) :
    PureP (findFn tab) 76 [.sl nl (vs GP.av l), .sl nm (vs GP.av m), .fn f []] (· = .bool (decide (AllR R l m))) := by
  by_cases hlen : l.length = m.length
  case neg =>
    refine pureP_of rfl rfl ?_
    (conv => whnf); repeat' (first  | ((with_reducible first | apply kN | apply kW | apply kX | apply kG | apply kQ); (· exact sd); conv => whnf) | (refine pcase.mk ?_ ?_ <;> intro hc <;> (try rw [List.length_nil] at hc) <;> first | (exfalso; omega) | (exact absurd rfl hc) | conv => whnf) | (refine bcase_intro ?_ ?_ <;> intro hc <;> conv => whnf))
    all_goals first | exact bool_f (allR_len hlen) | (exfalso; omega) | (trace_state; fail "eqF0")
  refine pureP_of rfl rfl ?_
  (conv => whnf); repeat' (first  | ((with_reducible first | apply kN | apply kW | apply kX | apply kG | apply kQ); (· exact sd); conv => whnf) | (refine pcase.mk ?_ ?_ <;> intro hc <;> (try rw [List.length_nil] at hc) <;> first | (exfalso; omega) | (exact absurd rfl hc) | conv => whnf) | (refine bcase_intro ?_ ?_ <;> intro hc <;> conv => whnf))
  all_goals first | (exfalso; omega) | skip
  refine loop_inv (fun z env s => ∃ (i c : Nat), z = l.length - i ∧ (∀ k (h : k < l.length) (h' : k < m.length), k < i → R l[k] m[k]) ∧ env = [(1, .sl nm (vs GP.av m)), (2, .fn f []), (15, .sl nl (vs GP.av l)), (16, .int .i64 l.length), (17, .int .i64 i)] ∧ s = ⟨[], c⟩) ?_ _ _ _ ⟨0, _, rfl, fun _ _ _ h => absurd h (by omega), by first | rfl | (rw [← lV (f := GP.av) l]; rfl), rfl⟩
  rintro _ _ _ ⟨i, c, rfl, hx, rfl, rfl⟩
  refine ⟨rfl, ?_⟩
  by_cases hlt : i < l.length
  · have hcf := hf _ (List.getElem_mem hlt) _ (List.getElem_mem (show i < m.length by omega))
    by_cases he : R l[i] m[i]
    · rw [decide_eq_true he] at hcf
      (conv => whnf); repeat' (first | (refine callK_of hcf ?_; rintro _ rfl; conv => whnf) | ((with_reducible first | apply kN | apply kW | apply kX | apply kG | apply kQ); (· exact sd); conv => whnf) | (refine pcase.mk ?_ ?_ <;> intro hc <;> (try rw [List.length_nil] at hc) <;> first | (exfalso; omega) | (exact absurd rfl hc) | conv => whnf) | (refine bcase_intro ?_ ?_ <;> intro hc <;> conv => whnf))
      all_goals first | exact again.mk ⟨_, by omega, i + 1, _, rfl, allR_step hx hlt (by omega) he, rfl, rfl⟩ | (exfalso; omega) | (trace_state; fail "eqF1")
    · rw [decide_eq_false he] at hcf
      (conv => whnf); repeat' (first | (refine callK_of hcf ?_; rintro _ rfl; conv => whnf) | ((with_reducible first | apply kN | apply kW | apply kX | apply kG | apply kQ); (· exact sd); conv => whnf) | (refine pcase.mk ?_ ?_ <;> intro hc <;> (try rw [List.length_nil] at hc) <;> first | (exfalso; omega) | (exact absurd rfl hc) | conv => whnf) | (refine bcase_intro ?_ ?_ <;> intro hc <;> conv => whnf))
      all_goals first | exact bool_f (allR_no hlt (by omega) he) | (exfalso; omega) | (trace_state; fail "eqF2")
  · (conv => whnf); repeat' (first  | ((with_reducible first | apply kN | apply kW | apply kX | apply kG | apply kQ); (· exact sd); conv => whnf) | (refine pcase.mk ?_ ?_ <;> intro hc <;> (try rw [List.length_nil] at hc) <;> first | (exfalso; omega) | (exact absurd rfl hc) | conv => whnf) | (refine bcase_intro ?_ ?_ <;> intro hc <;> conv => whnf))
    all_goals first | exact bool_t (allR_mk hlen hx (by omega)) | (exfalso; omega) | (trace_state; fail "eqF3")

theorem eqFGN {R : GN → GN → Prop} [∀ x y, Decidable (R x y)] {f : Nat} {l m : List GN} {nl nm : Bool} (hl : l.length ≤ 4000) (hm : m.length ≤ 4000) (hf : ∀ x ∈ l, ∀ y ∈ m, PureP (findFn tab) f [x.av, y.av] (· = .bool (decide (R x y)))) :
    PureP (findFn tab) 46 [.sl nl (vs GN.av l), .sl nm (vs GN.av m), .fn f []] (· = .bool (decide (AllR R l m))) := by
  by_cases hlen : l.length = m.length
  case neg =>
    refine pureP_of rfl rfl ?_
    (conv => whnf); repeat' (first  | ((with_reducible first | apply kN | apply kW | apply kX | apply kG | apply kQ); (· exact sd); conv => whnf) | (refine pcase.mk ?_ ?_ <;> intro hc <;> (try rw [List.length_nil] at hc) <;> first | (exfalso; omega) | (exact absurd rfl hc) | conv => whnf) | (refine bcase_intro ?_ ?_ <;> intro hc <;> conv => whnf))
    all_goals first | exact bool_f (allR_len hlen) | (exfalso; omega) | (trace_state; fail "eqF0")
  refine pureP_of rfl rfl ?_
  (conv => whnf); repeat' (first  | ((with_reducible first | apply kN | apply kW | apply kX | apply kG | apply kQ); (· exact sd); conv => whnf) | (refine pcase.mk ?_ ?_ <;> intro hc <;> (try rw [List.length_nil] at hc) <;> first | (exfalso; omega) | (exact absurd rfl hc) | conv => whnf) | (refine bcase_intro ?_ ?_ <;> intro hc <;> conv => whnf))
  all_goals first | (exfalso; omega) | skip
  refine loop_inv (fun z env s => ∃ (i c : Nat), z = l.length - i ∧ (∀ k (h : k < l.length) (h' : k < m.length), k < i → R l[k] m[k]) ∧ env = [(1, .sl nm (vs GN.av m)), (2, .fn f []), (15, .sl nl (vs GN.av l)), (16, .int .i64 l.length), (17, .int .i64 i)] ∧ s = ⟨[], c⟩) ?_ _ _ _ ⟨0, _, rfl, fun _ _ _ h => absurd h (by omega), by first | rfl | (rw [← lV (f := GN.av) l]; rfl), rfl⟩
  rintro _ _ _ ⟨i, c, rfl, hx, rfl, rfl⟩
  refine ⟨rfl, ?_⟩
  by_cases hlt : i < l.length
  · have hcf := hf _ (List.getElem_mem hlt) _ (List.getElem_mem (show i < m.length by omega))
    by_cases he : R l[i] m[i]
    · rw [decide_eq_true he] at hcf
      (conv => whnf); repeat' (first | (refine callK_of hcf ?_; rintro _ rfl; conv => whnf) | ((with_reducible first | apply kN | apply kW | apply kX | apply kG | apply kQ); (· exact sd); conv => whnf) | (refine pcase.mk ?_ ?_ <;> intro hc <;> (try rw [List.length_nil] at hc) <;> first | (exfalso; omega) | (exact absurd rfl hc) | conv => whnf) | (refine bcase_intro ?_ ?_ <;> intro hc <;> conv => whnf))
      all_goals first | exact again.mk ⟨_, by omega, i + 1, _, rfl, allR_step hx hlt (by omega) he, rfl, rfl⟩ | (exfalso; omega) | (trace_state; fail "eqF1")
    · rw [decide_eq_false he] at hcf
      (conv => whnf); repeat' (first | (refine callK_of hcf ?_; rintro _ rfl; conv => whnf) | ((with_reducible first | apply kN | apply kW | apply kX | apply kG | apply kQ); (· exact sd); conv => whnf) | (refine pcase.mk ?_ ?_ <;> intro hc <;> (try rw [List.length_nil] at hc) <;> first | (exfalso; omega) | (exact absurd rfl hc) | conv => whnf) | (refine bcase_intro ?_ ?_ <;> intro hc <;> conv => whnf))
      all_goals first | exact bool_f (allR_no hlt (by omega) he) | (exfalso; omega) | (trace_state; fail "eqF2")
  · (conv => whnf); repeat' (first  | ((with_reducible first | apply kN | apply kW | apply kX | apply kG | apply kQ); (· exact sd); conv => whnf) | (refine pcase.mk ?_ ?_ <;> intro hc <;> (try rw [List.length_nil] at hc) <;> first | (exfalso; omega) | (exact absurd rfl hc) | conv => whnf) | (refine bcase_intro ?_ ?_ <;> intro hc <;> conv => whnf))
    all_goals first | exact bool_t (allR_mk hlen hx (by omega)) | (exfalso; omega) | (trace_state; fail "eqF3")

theorem eqFGE {R : GE → GE → Prop} [∀ x y, Decidable (R x y)] {f : Nat} {l m : List GE} {nl nm : Bool} (hl : l.length ≤ 4000) (hm : m.length ≤ 4000) (hf : ∀ x ∈ l, ∀ y ∈ m, PureP (findFn tab) f [x.av, y.av] (· = .bool (decide (R x y)))) :
    PureP (findFn tab) 50 [.sl nl (vs GE.av l), .sl nm (vs GE.av m), .fn f []] (· = .bool (decide (AllR R l m))) := by
  by_cases hlen : l.length = m.length
  case neg =>
    refine pureP_of rfl rfl ?_
    (conv => whnf); repeat' (first  | ((with_reducible first | apply kN | apply kW | apply kX | apply kG | apply kQ); (· exact sd); conv => whnf) | (refine pcase.mk ?_ ?_ <;> intro hc <;> (try rw [List.length_nil] at hc) <;> first | (exfalso; omega) | (exact absurd rfl hc) | conv => whnf) | (refine bcase_intro ?_ ?_ <;> intro hc <;> conv => whnf))
    all_goals first | exact bool_f (allR_len hlen) | (exfalso; omega) | (trace_state; fail "eqF0")
  refine pureP_of rfl rfl ?_
  (conv => whnf); repeat' (first  | ((with_reducible first | apply kN | apply kW | apply kX | apply kG | apply kQ); (· exact sd); conv => whnf) | (refine pcase.mk ?_ ?_ <;> intro hc <;> (try rw [List.length_nil] at hc) <;> first | (exfalso; omega) | (exact absurd rfl hc) | conv => whnf) | (refine bcase_intro ?_ ?_ <;> intro hc <;> conv => whnf))
  all_goals first | (exfalso; omega) | skip
  refine loop_inv (fun z env s => ∃ (i c : Nat), z = l.length - i ∧ (∀ k (h : k < l.length) (h' : k < m.length), k < i → R l[k] m[k]) ∧ env = [(1, .sl nm (vs GE.av m)), (2, .fn f []), (15, .sl nl (vs GE.av l)), (16, .int .i64 l.length), (17, .int .i64 i)] ∧ s = ⟨[], c⟩) ?_ _ _ _ ⟨0, _, rfl, fun _ _ _ h => absurd h (by omega), by first | rfl | (rw [← lV (f := GE.av) l]; rfl), rfl⟩
  rintro _ _ _ ⟨i, c, rfl, hx, rfl, rfl⟩
  refine ⟨rfl, ?_⟩
  by_cases hlt : i < l.length
  · have hcf := hf _ (List.getElem_mem hlt) _ (List.getElem_mem (show i < m.length by omega))
    by_cases he : R l[i] m[i]
    · rw [decide_eq_true he] at hcf
      (conv => whnf); repeat' (first | (refine callK_of hcf ?_; rintro _ rfl; conv => whnf) | ((with_reducible first | apply kN | apply kW | apply kX | apply kG | apply kQ); (· exact sd); conv => whnf) | (refine pcase.mk ?_ ?_ <;> intro hc <;> (try rw [List.length_nil] at hc) <;> first | (exfalso; omega) | (exact absurd rfl hc) | conv => whnf) | (refine bcase_intro ?_ ?_ <;> intro hc <;> conv => whnf))
      all_goals first | exact again.mk ⟨_, by omega, i + 1, _, rfl, allR_step hx hlt (by omega) he, rfl, rfl⟩ | (exfalso; omega) | (trace_state; fail "eqF1")
    · rw [decide_eq_false he] at hcf
      (conv => whnf); repeat' (first | (refine callK_of hcf ?_; rintro _ rfl; conv => whnf) | ((with_reducible first | apply kN | apply kW | apply kX | apply kG | apply kQ); (· exact sd); conv => whnf) | (refine pcase.mk ?_ ?_ <;> intro hc <;> (try rw [List.length_nil] at hc) <;> first | (exfalso; omega) | (exact absurd rfl hc) | conv => whnf) | (refine bcase_intro ?_ ?_ <;> intro hc <;> conv => whnf))
      all_goals first | exact bool_f (allR_no hlt (by omega) he) | (exfalso; omega) | (trace_state; fail "eqF2")
  · (conv => whnf); repeat' (first  | ((with_reducible first | apply kN | apply kW | apply kX | apply kG | apply kQ); (· exact sd); conv => whnf) | (refine pcase.mk ?_ ?_ <;> intro hc <;> (try rw [List.length_nil] at hc) <;> first | (exfalso; omega) | (exact absurd rfl hc) | conv => whnf) | (refine bcase_intro ?_ ?_ <;> intro hc <;> conv => whnf))
    all_goals first | exact bool_t (allR_mk hlen hx (by omega)) | (exfalso; omega) | (trace_state; fail "eqF3")

theorem sp1 {x y : GP} (hx : FineV x.v) (hy : FineV y.v) : PureP (findFn tab) 77 [x.av, y.av] (· = .bool (decide (SP x y))) := by
  have ho := ordP hx hy
  by_cases hk : x.key = y.key
  · by_cases he : cmpV 12 x.v y.v = 0
    · refine pureP_of rfl rfl ?_
      (conv => whnf); repeat' (first | (refine callK_of ho ?_; rintro _ rfl; conv => whnf) | ((with_reducible first | apply kN | apply kW | apply kX | apply kG | apply kQ); (· exact sd); conv => whnf) | (refine pcase.mk ?_ ?_ <;> intro hc <;> (try rw [List.length_nil] at hc) <;> first | (exfalso; omega) | (exact absurd rfl hc) | conv => whnf) | (refine bcase_intro ?_ ?_ <;> intro hc <;> conv => whnf))
      all_goals first | exact bool_t ⟨hk, he⟩ | (exfalso; omega) | (exfalso; simp_all; done) | (trace_state; fail "sp1")
    · refine pureP_of rfl rfl ?_
      (conv => whnf); repeat' (first | (refine callK_of ho ?_; rintro _ rfl; conv => whnf) | ((with_reducible first | apply kN | apply kW | apply kX | apply kG | apply kQ); (· exact sd); conv => whnf) | (refine pcase.mk ?_ ?_ <;> intro hc <;> (try rw [List.length_nil] at hc) <;> first | (exfalso; omega) | (exact absurd rfl hc) | conv => whnf) | (refine bcase_intro ?_ ?_ <;> intro hc <;> conv => whnf))
      all_goals first | exact bool_f (fun h => he h.2) | (exfalso; omega) | (exfalso; simp_all; done) | (trace_state; fail "sp2")
  · refine pureP_of rfl rfl ?_
    (conv => whnf); repeat' (first | (refine callK_of ho ?_; rintro _ rfl; conv => whnf) | ((with_reducible first | apply kN | apply kW | apply kX | apply kG | apply kQ); (· exact sd); conv => whnf) | (refine pcase.mk ?_ ?_ <;> intro hc <;> (try rw [List.length_nil] at hc) <;> first | (exfalso; omega) | (exact absurd rfl hc) | conv => whnf) | (refine bcase_intro ?_ ?_ <;> intro hc <;> conv => whnf))
    all_goals first | exact bool_f (fun h => hk h.1) | (exfalso; omega) | (exfalso; simp_all; done) | (trace_state; fail "sp3")
theorem propsP {l m : List GP} {nl nm : Bool} (hl : FineP l) (hm : FineP m) : PureP (findFn tab) 49 [.sl nl (vs GP.av l), .sl nm (vs GP.av m)] (· = .bool (decide (AllR SP l m))) := by
  refine pureP_of rfl rfl ?_
  (conv => whnf); repeat' (first | (refine callK_of (eqFGP hl.1 hm.1 fun x hx y hy => sp1 (hl.2 x hx) (hm.2 y hy)) ?_; rintro _ rfl; conv => whnf) | ((with_reducible first | apply kN | apply kW | apply kX | apply kG | apply kQ); (· exact sd); conv => whnf) | (refine pcase.mk ?_ ?_ <;> intro hc <;> (try rw [List.length_nil] at hc) <;> first | (exfalso; omega) | (exact absurd rfl hc) | conv => whnf) | (refine bcase_intro ?_ ?_ <;> intro hc <;> conv => whnf))
  all_goals (rw [hc]; rfl)
theorem sn1 {x y : GN} (hx : FineN x) (hy : FineN y) : PureP (findFn tab) 47 [x.av, y.av] (· = .bool (decide (SN x y))) := by
  have h1 := strsP (nl := x.ln) (nm := y.ln) hx.1 hy.1
  have h2 := propsP (nl := x.pn) (nm := y.pn) hx.2 hy.2
  by_cases e1 : x.labels = y.labels
  · rw [decide_eq_true e1] at h1
    by_cases e2 : AllR SP x.props y.props
    · rw [decide_eq_true e2] at h2
      refine pureP_of rfl rfl ?_
      (conv => whnf); repeat' (first | (refine callK_of h1 ?_; rintro _ rfl; conv => whnf) | (refine callK_of h2 ?_; rintro _ rfl; conv => whnf) | ((with_reducible first | apply kN | apply kW | apply kX | apply kG | apply kQ); (· exact sd); conv => whnf) | (refine pcase.mk ?_ ?_ <;> intro hc <;> (try rw [List.length_nil] at hc) <;> first | (exfalso; omega) | (exact absurd rfl hc) | conv => whnf) | (refine bcase_intro ?_ ?_ <;> intro hc <;> conv => whnf))
      all_goals first | exact bool_t ⟨by assumption, e1, e2⟩ | exact bool_f (fun h => absurd h.1 (by assumption)) | (trace_state; fail "sn1")
    · rw [decide_eq_false e2] at h2
      refine pureP_of rfl rfl ?_
      (conv => whnf); repeat' (first | (refine callK_of h1 ?_; rintro _ rfl; conv => whnf) | (refine callK_of h2 ?_; rintro _ rfl; conv => whnf) | ((with_reducible first | apply kN | apply kW | apply kX | apply kG | apply kQ); (· exact sd); conv => whnf) | (refine pcase.mk ?_ ?_ <;> intro hc <;> (try rw [List.length_nil] at hc) <;> first | (exfalso; omega) | (exact absurd rfl hc) | conv => whnf) | (refine bcase_intro ?_ ?_ <;> intro hc <;> conv => whnf))
      all_goals first | exact bool_f (fun h => e2 h.2.2) | (trace_state; fail "sn2")
  · rw [decide_eq_false e1] at h1
    refine pureP_of rfl rfl ?_
    (conv => whnf); repeat' (first | (refine callK_of h1 ?_; rintro _ rfl; conv => whnf) | (refine callK_of h2 ?_; rintro _ rfl; conv => whnf) | ((with_reducible first | apply kN | apply kW | apply kX | apply kG | apply kQ); (· exact sd); conv => whnf) | (refine pcase.mk ?_ ?_ <;> intro hc <;> (try rw [List.length_nil] at hc) <;> first | (exfalso; omega) | (exact absurd rfl hc) | conv => whnf) | (refine bcase_intro ?_ ?_ <;> intro hc <;> conv => whnf))
    all_goals first | exact bool_f (fun h => e1 h.2.1) | (trace_state; fail "sn3")
theorem se1 {x y : GE} (hx : FineP x.props) (hy : FineP y.props) : PureP (findFn tab) 51 [x.av, y.av] (· = .bool (decide (SE x y))) := by
  have h2 := propsP (nl := x.pn) (nm := y.pn) hx hy
  by_cases e2 : AllR SP x.props y.props
  · rw [decide_eq_true e2] at h2
    refine pureP_of rfl rfl ?_
    (conv => whnf); repeat' (first | (refine callK_of h2 ?_; rintro _ rfl; conv => whnf) | ((with_reducible first | apply kN | apply kW | apply kX | apply kG | apply kQ); (· exact sd); conv => whnf) | (refine pcase.mk ?_ ?_ <;> intro hc <;> (try rw [List.length_nil] at hc) <;> first | (exfalso; omega) | (exact absurd rfl hc) | conv => whnf) | (refine bcase_intro ?_ ?_ <;> intro hc <;> conv => whnf))
    all_goals first | exact bool_t ⟨by assumption, by assumption, by assumption, by assumption, e2⟩ | exact bool_f (fun h => absurd h.1 (by assumption)) | exact bool_f (fun h => absurd h.2.1 (by assumption)) | exact bool_f (fun h => absurd h.2.2.1 (by assumption)) | exact bool_f (fun h => absurd h.2.2.2.1 (by assumption)) | (trace_state; fail "se1")
  · rw [decide_eq_false e2] at h2
    refine pureP_of rfl rfl ?_
    (conv => whnf); repeat' (first | (refine callK_of h2 ?_; rintro _ rfl; conv => whnf) | ((with_reducible first | apply kN | apply kW | apply kX | apply kG | apply kQ); (· exact sd); conv => whnf) | (refine pcase.mk ?_ ?_ <;> intro hc <;> (try rw [List.length_nil] at hc) <;> first | (exfalso; omega) | (exact absurd rfl hc) | conv => whnf) | (refine bcase_intro ?_ ?_ <;> intro hc <;> conv => whnf))
    all_goals first | exact bool_f (fun h => e2 h.2.2.2.2) | (trace_state; fail "se2")

/-- the program's answer -/
theorem alikeP {a b : GG} (ha : FineG a) (hb : FineG b) : PureP (findFn tab) 8 [a.av, b.av] (· = .bool (decide (SG a b))) := by
  have hN := eqFGN (nl := a.nn) (nm := b.nn) ha.1 hb.1 fun x hx y hy => sn1 (ha.2.2.1 x hx) (hb.2.2.1 y hy)
  have hE := eqFGE (nl := a.en) (nm := b.en) ha.2.1 hb.2.1 fun x hx y hy => se1 (ha.2.2.2 x hx) (hb.2.2.2 y hy)
  have hS : PureP (findFn tab) 22 [GG.av { a with nextN := b.nextN, nextE := b.nextE }, b.av] (· = .bool (decide (SG a b))) := by
    by_cases e1 : AllR SN a.nodes b.nodes
    · rw [decide_eq_true e1] at hN
      by_cases e2 : AllR SE a.edges b.edges
      · rw [decide_eq_true e2] at hE
        refine pureP_of rfl rfl ?_
        (conv => whnf); repeat' (first | (refine callK_of hN ?_; rintro _ rfl; conv => whnf) | (refine callK_of hE ?_; rintro _ rfl; conv => whnf) | ((with_reducible first | apply kN | apply kW | apply kX | apply kG | apply kQ); (· exact sd); conv => whnf) | (refine pcase.mk ?_ ?_ <;> intro hc <;> (try rw [List.length_nil] at hc) <;> first | (exfalso; omega) | (exact absurd rfl hc) | conv => whnf) | (refine bcase_intro ?_ ?_ <;> intro hc <;> conv => whnf))
        all_goals first | exact bool_t ⟨e1, e2⟩ | (exfalso; omega) | exact absurd rfl (by assumption) | (trace_state; fail "same1")
      · rw [decide_eq_false e2] at hE
        refine pureP_of rfl rfl ?_
        (conv => whnf); repeat' (first | (refine callK_of hN ?_; rintro _ rfl; conv => whnf) | (refine callK_of hE ?_; rintro _ rfl; conv => whnf) | ((with_reducible first | apply kN | apply kW | apply kX | apply kG | apply kQ); (· exact sd); conv => whnf) | (refine pcase.mk ?_ ?_ <;> intro hc <;> (try rw [List.length_nil] at hc) <;> first | (exfalso; omega) | (exact absurd rfl hc) | conv => whnf) | (refine bcase_intro ?_ ?_ <;> intro hc <;> conv => whnf))
        all_goals first | exact bool_f (fun h => e2 h.2) | (exfalso; omega) | exact absurd rfl (by assumption) | (trace_state; fail "same2")
    · rw [decide_eq_false e1] at hN
      refine pureP_of rfl rfl ?_
      (conv => whnf); repeat' (first | (refine callK_of hN ?_; rintro _ rfl; conv => whnf) | (refine callK_of hE ?_; rintro _ rfl; conv => whnf) | ((with_reducible first | apply kN | apply kW | apply kX | apply kG | apply kQ); (· exact sd); conv => whnf) | (refine pcase.mk ?_ ?_ <;> intro hc <;> (try rw [List.length_nil] at hc) <;> first | (exfalso; omega) | (exact absurd rfl hc) | conv => whnf) | (refine bcase_intro ?_ ?_ <;> intro hc <;> conv => whnf))
      all_goals first | exact bool_f (fun h => e1 h.1) | (exfalso; omega) | exact absurd rfl (by assumption) | (trace_state; fail "same3")
  refine pureP_of rfl rfl ?_
  (conv => whnf); repeat' (first | (refine callK_of hS ?_; rintro _ rfl; conv => whnf) | ((with_reducible first | apply kN | apply kW | apply kX | apply kG | apply kQ); (· exact sd); conv => whnf) | (refine pcase.mk ?_ ?_ <;> intro hc <;> (try rw [List.length_nil] at hc) <;> first | (exfalso; omega) | (exact absurd rfl hc) | conv => whnf) | (refine bcase_intro ?_ ?_ <;> intro hc <;> conv => whnf))
  all_goals first | (rw [hc]; rfl) | (trace_state; fail "alikeP")

/-- the reference's answer -/
theorem sPartsR {a b : GG} (ha : FineG a) (hb : FineG b) : PureP (findFn tab) 52 [a.av, b.av] (· = .bool (decide (SG a b))) := by
  have a1 := ha.1
  have a2 := ha.2.1
  have b1 := hb.1
  have b2 := hb.2.1
  by_cases hlen : a.nodes.length = b.nodes.length ∧ a.edges.length = b.edges.length
  case neg =>
    refine pureP_of rfl rfl ?_
    (conv => whnf); repeat' (first  | ((with_reducible first | apply kN | apply kW | apply kX | apply kG | apply kQ); (· exact sd); conv => whnf) | (refine pcase.mk ?_ ?_ <;> intro hc <;> (try rw [List.length_nil] at hc) <;> first | (exfalso; omega) | (exact absurd rfl hc) | conv => whnf) | (refine bcase_intro ?_ ?_ <;> intro hc <;> conv => whnf))
    all_goals first | exact bool_f (fun h => hlen ⟨h.1.1, h.2.1⟩) | (exfalso; omega) | (trace_state; fail "parts0")
  obtain ⟨hl1, hl2⟩ := hlen
  refine pureP_of rfl rfl ?_
  (conv => whnf); repeat' (first  | ((with_reducible first | apply kN | apply kW | apply kX | apply kG | apply kQ); (· exact sd); conv => whnf) | (refine pcase.mk ?_ ?_ <;> intro hc <;> (try rw [List.length_nil] at hc) <;> first | (exfalso; omega) | (exact absurd rfl hc) | conv => whnf) | (refine bcase_intro ?_ ?_ <;> intro hc <;> conv => whnf))
  all_goals first | (exfalso; omega) | skip
  refine loop_inv (fun z env s => ∃ (i c : Nat), z = a.nodes.length - i ∧ (∀ k (h : k < a.nodes.length) (h' : k < b.nodes.length), k < i → SN a.nodes[k] b.nodes[k]) ∧ env = [(2, .ref 0 0 0 0), (3, .ref 1 1 0 0), (5, .int .i64 i)] ∧ s = ⟨[.arr 0 4 true true [a.av], .arr 1 4 true true [b.av]], c⟩) ?_ _ _ _ ⟨0, _, rfl, fun _ _ _ h => absurd h (by omega), rfl, rfl⟩
  rintro _ _ _ ⟨i, c, rfl, hx, rfl, rfl⟩
  refine ⟨rfl, ?_⟩
  by_cases hlt : i < a.nodes.length
  · have f1 := ha.2.2.1 _ (List.getElem_mem hlt)
    have f2 := hb.2.2.1 _ (List.getElem_mem (show i < b.nodes.length by omega))
    have c1 := strsR (nl := (a.nodes[i]).ln) (nm := (b.nodes[i]'(by omega)).ln) f1.1 f2.1
    have c2 := propsR (nl := (a.nodes[i]).pn) (nm := (b.nodes[i]'(by omega)).pn) f1.2 f2.2
    by_cases e1 : (a.nodes[i]).labels = (b.nodes[i]'(by omega)).labels
    · rw [decide_eq_true e1] at c1
      by_cases e2 : AllR SP (a.nodes[i]).props (b.nodes[i]'(by omega)).props
      · rw [decide_eq_true e2] at c2
        (conv => whnf); repeat' (first | (refine callK_of c1 ?_; rintro _ rfl; conv => whnf) | (refine callK_of c2 ?_; rintro _ rfl; conv => whnf) | ((with_reducible first | apply kN | apply kW | apply kX | apply kG | apply kQ); (· exact sd); conv => whnf) | (refine pcase.mk ?_ ?_ <;> intro hc <;> (try rw [List.length_nil] at hc) <;> first | (exfalso; omega) | (exact absurd rfl hc) | conv => whnf) | (refine bcase_intro ?_ ?_ <;> intro hc <;> conv => whnf))
        all_goals first | exact again.mk ⟨_, by omega, i + 1, _, rfl, allR_step hx hlt (by omega) ⟨by first | assumption | omega, e1, e2⟩, rfl, rfl⟩ | exact bool_f (fun h => allR_no hlt (by omega) (fun x => absurd x.1 (by assumption)) h.1) | (exfalso; omega) | (trace_state; fail "parts1")
      · rw [decide_eq_false e2] at c2
        (conv => whnf); repeat' (first | (refine callK_of c1 ?_; rintro _ rfl; conv => whnf) | (refine callK_of c2 ?_; rintro _ rfl; conv => whnf) | ((with_reducible first | apply kN | apply kW | apply kX | apply kG | apply kQ); (· exact sd); conv => whnf) | (refine pcase.mk ?_ ?_ <;> intro hc <;> (try rw [List.length_nil] at hc) <;> first | (exfalso; omega) | (exact absurd rfl hc) | conv => whnf) | (refine bcase_intro ?_ ?_ <;> intro hc <;> conv => whnf))
        all_goals first | exact bool_f (fun h => allR_no hlt (by omega) (fun x => e2 x.2.2) h.1) | (exfalso; omega) | (trace_state; fail "parts2")
    · rw [decide_eq_false e1] at c1
      (conv => whnf); repeat' (first | (refine callK_of c1 ?_; rintro _ rfl; conv => whnf) | (refine callK_of c2 ?_; rintro _ rfl; conv => whnf) | ((with_reducible first | apply kN | apply kW | apply kX | apply kG | apply kQ); (· exact sd); conv => whnf) | (refine pcase.mk ?_ ?_ <;> intro hc <;> (try rw [List.length_nil] at hc) <;> first | (exfalso; omega) | (exact absurd rfl hc) | conv => whnf) | (refine bcase_intro ?_ ?_ <;> intro hc <;> conv => whnf))
      all_goals first | exact bool_f (fun h => allR_no hlt (by omega) (fun x => e1 x.2.1) h.1) | (exfalso; omega) | (trace_state; fail "parts3")
  have hN := allR_mk hl1 hx (by omega)
  clear hx
  (conv => whnf); repeat' (first  | ((with_reducible first | apply kN | apply kW | apply kX | apply kG | apply kQ); (· exact sd); conv => whnf) | (refine pcase.mk ?_ ?_ <;> intro hc <;> (try rw [List.length_nil] at hc) <;> first | (exfalso; omega) | (exact absurd rfl hc) | conv => whnf) | (refine bcase_intro ?_ ?_ <;> intro hc <;> conv => whnf))
  all_goals first | (exfalso; omega) | skip
  refine loop_inv (fun z env s => ∃ (i c : Nat), z = a.edges.length - i ∧ (∀ k (h : k < a.edges.length) (h' : k < b.edges.length), k < i → SE a.edges[k] b.edges[k]) ∧ env = [(2, .ref 0 0 0 0), (3, .ref 1 1 0 0), (8, .int .i64 i)] ∧ s = ⟨[.arr 0 4 true true [a.av], .arr 1 4 true true [b.av]], c⟩) ?_ _ _ _ ⟨0, _, rfl, fun _ _ _ h => absurd h (by omega), rfl, rfl⟩
  rintro _ _ _ ⟨i, c, rfl, hx, rfl, rfl⟩
  refine ⟨rfl, ?_⟩
  by_cases hlt : i < a.edges.length
  · have f1 := ha.2.2.2 _ (List.getElem_mem hlt)
    have f2 := hb.2.2.2 _ (List.getElem_mem (show i < b.edges.length by omega))
    have c2 := propsR (nl := (a.edges[i]).pn) (nm := (b.edges[i]'(by omega)).pn) f1 f2
    by_cases e2 : AllR SP (a.edges[i]).props (b.edges[i]'(by omega)).props
    · rw [decide_eq_true e2] at c2
      (conv => whnf); repeat' (first | (refine callK_of c2 ?_; rintro _ rfl; conv => whnf) | ((with_reducible first | apply kN | apply kW | apply kX | apply kG | apply kQ); (· exact sd); conv => whnf) | (refine pcase.mk ?_ ?_ <;> intro hc <;> (try rw [List.length_nil] at hc) <;> first | (exfalso; omega) | (exact absurd rfl hc) | conv => whnf) | (refine bcase_intro ?_ ?_ <;> intro hc <;> conv => whnf))
      all_goals first | exact again.mk ⟨_, by omega, i + 1, _, rfl, allR_step hx hlt (by omega) ⟨by first | assumption | omega, by first | assumption | omega, by first | assumption | omega, by first | assumption | exact Decidable.not_not.1 (by assumption), e2⟩, rfl, rfl⟩ | exact bool_f (fun h => allR_no hlt (by omega) (fun x => absurd x.1 (by assumption)) h.2) | exact bool_f (fun h => allR_no hlt (by omega) (fun x => absurd x.2.1 (by assumption)) h.2) | exact bool_f (fun h => allR_no hlt (by omega) (fun x => absurd x.2.2.1 (by assumption)) h.2) | exact bool_f (fun h => allR_no hlt (by omega) (fun x => absurd x.2.2.2.1 (by assumption)) h.2) | (exfalso; omega) | (trace_state; fail "parts4")
    · rw [decide_eq_false e2] at c2
      (conv => whnf); repeat' (first | (refine callK_of c2 ?_; rintro _ rfl; conv => whnf) | ((with_reducible first | apply kN | apply kW | apply kX | apply kG | apply kQ); (· exact sd); conv => whnf) | (refine pcase.mk ?_ ?_ <;> intro hc <;> (try rw [List.length_nil] at hc) <;> first | (exfalso; omega) | (exact absurd rfl hc) | conv => whnf) | (refine bcase_intro ?_ ?_ <;> intro hc <;> conv => whnf))
      all_goals first | exact bool_f (fun h => allR_no hlt (by omega) (fun x => e2 x.2.2.2.2) h.2) | (exfalso; omega) | (trace_state; fail "parts5")
  · (conv => whnf); repeat' (first  | ((with_reducible first | apply kN | apply kW | apply kX | apply kG | apply kQ); (· exact sd); conv => whnf) | (refine pcase.mk ?_ ?_ <;> intro hc <;> (try rw [List.length_nil] at hc) <;> first | (exfalso; omega) | (exact absurd rfl hc) | conv => whnf) | (refine bcase_intro ?_ ?_ <;> intro hc <;> conv => whnf))
    all_goals first | exact bool_t ⟨hN, allR_mk hl2 hx (by omega)⟩ | (exfalso; omega) | (trace_state; fail "parts6")
theorem alikeR {a b : GG} (ha : FineG a) (hb : FineG b) : PureP (findFn tab) 9 [a.av, b.av] (· = .bool (decide (SG a b))) := by
  have hP : PureP (findFn tab) 52 [GG.av { a with nextN := b.nextN, nextE := b.nextE }, b.av] (· = .bool (decide (SG a b))) := sPartsR (a := { a with nextN := b.nextN, nextE := b.nextE }) ha hb
  have hS : PureP (findFn tab) 23 [GG.av { a with nextN := b.nextN, nextE := b.nextE }, b.av] (· = .bool (decide (SG a b))) := by
    refine pureP_of rfl rfl ?_
    (conv => whnf); repeat' (first | (refine callK_of hP ?_; rintro _ rfl; conv => whnf) | ((with_reducible first | apply kN | apply kW | apply kX | apply kG | apply kQ); (· exact sd); conv => whnf) | (refine pcase.mk ?_ ?_ <;> intro hc <;> (try rw [List.length_nil] at hc) <;> first | (exfalso; omega) | (exact absurd rfl hc) | conv => whnf) | (refine bcase_intro ?_ ?_ <;> intro hc <;> conv => whnf))
    all_goals first | (rw [hc]; rfl) | exact absurd rfl (by assumption) | (exfalso; omega) | (trace_state; fail "sameR")
  refine pureP_of rfl rfl ?_
  (conv => whnf); repeat' (first | (refine callK_of hS ?_; rintro _ rfl; conv => whnf) | ((with_reducible first | apply kN | apply kW | apply kX | apply kG | apply kQ); (· exact sd); conv => whnf) | (refine pcase.mk ?_ ?_ <;> intro hc <;> (try rw [List.length_nil] at hc) <;> first | (exfalso; omega) | (exact absurd rfl hc) | conv => whnf) | (refine bcase_intro ?_ ?_ <;> intro hc <;> conv => whnf))
  all_goals first | (rw [hc]; rfl) | (trace_state; fail "alikeR")

end AI
end Go.Proofs.YtkknpgebiihkfaaGreatDoor
