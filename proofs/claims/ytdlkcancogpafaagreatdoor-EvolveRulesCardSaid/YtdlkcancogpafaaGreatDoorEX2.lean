/- What is wrong with a migration: the program's Check. What is wrong with a migration: the reference's Check. -/
import Derived.Test.YtdlkcancogpafaaGreatDoorEX1
import Derived.Test.YtdlkcancogpafaaGreatDoorEvC
import Derived.Test.YtdlkcancogpafaaGreatDoorMG
import Derived.Test.YtdlkcancogpafaaGreatDoorNuR
set_option linter.unusedVariables false
set_option maxRecDepth 4000
namespace Go.Proofs.YtdlkcancogpafaaGreatDoor
namespace AI

def renK (k : Int) : Prop := k = 1 ∨ k = 2 ∨ k = 3
def labK (k : Int) : Prop := k = 3 ∨ k = 4 ∨ k = 5
def frK (k : Int) : Prop := k = 1 ∨ k = 2 ∨ k = 3 ∨ k = 4
def toK (k : Int) : Prop := k = 1 ∨ k = 2 ∨ k = 3 ∨ k = 5
def rulK (k : Int) : Prop := k = 6 ∨ k = 7
def noRule (r : GR) : Prop := r.k = 0 ∧ r.n = 0 ∧ r.name = [] ∧ r.key = [] ∧ r.fr = [] ∧ r.to = []
instance (k : Int) : Decidable (renK k) := by unfold renK; infer_instance
instance (k : Int) : Decidable (labK k) := by unfold labK; infer_instance
instance (k : Int) : Decidable (frK k) := by unfold frK; infer_instance
instance (k : Int) : Decidable (toK k) := by unfold toK; infer_instance
instance (k : Int) : Decidable (rulK k) := by unfold rulK; infer_instance
instance (r : GR) : Decidable (noRule r) := by unfold noRule; infer_instance
/-- a migration with fields that its kind does not use -/
def badM (m : GM) : Prop := ¬ (1 ≤ m.k ∧ m.k ≤ 7) ∨ (renK m.k ∧ m.fr = m.to) ∨ (¬ labK m.k ∧ m.label ≠ []) ∨ (¬ frK m.k ∧ m.fr ≠ []) ∨ (¬ toK m.k ∧ m.to ≠ []) ∨ (¬ rulK m.k ∧ ¬ noRule m.r) ∨ (m.k ≠ 5 ∧ ¬ isNull m.v)
def badMN (m : GM) : Prop := (labK m.k ∧ ¬ isName m.label) ∨ (frK m.k ∧ ¬ isName m.fr) ∨ (toK m.k ∧ ¬ isName m.to)
instance (m : GM) : Decidable (badM m) := by unfold badM; infer_instance
instance (m : GM) : Decidable (badMN m) := by unfold badMN; infer_instance
def migE (m : GM) : Int := if badM m then 1 else if badMN m then 6 else if m.k = 5 ∧ ¬ leafV m.v then 8 else if rulK m.k then ruleE m.r else 0

theorem migE_1 {m : GM} (h : badM m) : AV.int .i64 1 = AV.int .i64 (migE m) := by rw [migE, if_pos h]
theorem migE_6 {m : GM} (h : ¬ badM m) (h1 : badMN m) : AV.int .i64 6 = AV.int .i64 (migE m) := by rw [migE, if_neg h, if_pos h1]
theorem migE_8 {m : GM} (h : ¬ badM m) (h1 : ¬ badMN m) (h2 : m.k = 5 ∧ ¬ leafV m.v) : AV.int .i64 8 = AV.int .i64 (migE m) := by rw [migE, if_neg h, if_neg h1, if_pos h2]
theorem migE_r {m : GM} (h : ¬ badM m) (h1 : ¬ badMN m) (h2 : rulK m.k) : AV.int .i64 (ruleE m.r) = AV.int .i64 (migE m) := by rw [migE, if_neg h, if_neg h1, if_neg (by unfold rulK at h2; omega), if_pos h2]
theorem migE_0 {m : GM} (h : ¬ badM m) (h1 : ¬ badMN m) (h2 : ¬ (m.k = 5 ∧ ¬ leafV m.v)) (h3 : ¬ rulK m.k) : AV.int .i64 0 = AV.int .i64 (migE m) := by rw [migE, if_neg h, if_neg h1, if_neg h2, if_neg h3]
theorem migE_ok {m : GM} (h : migE m = 0) : ¬ badM m ∧ ¬ badMN m ∧ ¬ (m.k = 5 ∧ ¬ leafV m.v) := by
  unfold migE at h
  split at h; · omega
  split at h; · omega
  split at h; · omega
  exact ⟨by assumption, by assumption, by assumption⟩

theorem neq_rule (r : GR) : bin .neq (.flat [.int, .int, .str, .str, .str, .str]) (.agg [.int .i64 r.k, .int .i64 r.n, .str r.name, .str r.key, .str r.fr, .str r.to]) (.agg [.int .i64 0, .int .i64 0, .str [], .str [], .str [], .str []]) = some (.bool (decide (¬ noRule r))) := by
  unfold noRule
  obtain ⟨k, n, nm, key, fr, to⟩ := r
  have e : ∀ z : Int, (z == 0) = decide (z = 0) := fun z => by by_cases h : z = 0 <;> simp [h]
  by_cases h1 : k = 0 <;> by_cases h2 : n = 0 <;> cases nm <;> cases key <;> cases fr <;> cases to <;> simp [bin, eqAV, eqFlat, eqLeaf, e, h1, h2]
theorem eql_rule (r : GR) : bin .eql (.flat [.int, .int, .str, .str, .str, .str]) (.agg [.int .i64 r.k, .int .i64 r.n, .str r.name, .str r.key, .str r.fr, .str r.to]) (.agg [.int .i64 0, .int .i64 0, .str [], .str [], .str [], .str []]) = some (.bool (decide (noRule r))) := by
  unfold noRule
  obtain ⟨k, n, nm, key, fr, to⟩ := r
  have e : ∀ z : Int, (z == 0) = decide (z = 0) := fun z => by by_cases h : z = 0 <;> simp [h]
  by_cases h1 : k = 0 <;> by_cases h2 : n = 0 <;> cases nm <;> cases key <;> cases fr <;> cases to <;> simp [bin, eqAV, eqFlat, eqLeaf, e, h1, h2]

/-- the fields that a kind of migration uses -/
theorem fldM_1 : PureP (findFn tab) 42 [.int .i64 1] (· = .tup [.agg [.bool false, .bool true, .bool true, .bool false, .bool false], .bool true]) := ⟨_, ⟨20, by kernel_rfl⟩, rfl⟩
theorem fldM_2 : PureP (findFn tab) 42 [.int .i64 2] (· = .tup [.agg [.bool false, .bool true, .bool true, .bool false, .bool false], .bool true]) := ⟨_, ⟨20, by kernel_rfl⟩, rfl⟩
theorem fldM_3 : PureP (findFn tab) 42 [.int .i64 3] (· = .tup [.agg [.bool true, .bool true, .bool true, .bool false, .bool false], .bool true]) := ⟨_, ⟨20, by kernel_rfl⟩, rfl⟩
theorem fldM_4 : PureP (findFn tab) 42 [.int .i64 4] (· = .tup [.agg [.bool true, .bool true, .bool false, .bool false, .bool false], .bool true]) := ⟨_, ⟨20, by kernel_rfl⟩, rfl⟩
theorem fldM_5 : PureP (findFn tab) 42 [.int .i64 5] (· = .tup [.agg [.bool true, .bool false, .bool true, .bool true, .bool false], .bool true]) := ⟨_, ⟨20, by kernel_rfl⟩, rfl⟩
theorem fldM_6 : PureP (findFn tab) 42 [.int .i64 6] (· = .tup [.agg [.bool false, .bool false, .bool false, .bool false, .bool true], .bool true]) := ⟨_, ⟨20, by kernel_rfl⟩, rfl⟩
theorem fldM_7 : PureP (findFn tab) 42 [.int .i64 7] (· = .tup [.agg [.bool false, .bool false, .bool false, .bool false, .bool true], .bool true]) := ⟨_, ⟨20, by kernel_rfl⟩, rfl⟩
theorem fldM_n {k : Int} (h : ¬ (1 ≤ k ∧ k ≤ 7)) : PureP (findFn tab) 42 [.int .i64 k] (· = .tup [.agg [.bool false, .bool false, .bool false, .bool false, .bool false], .bool false]) := by
  refine pureP_of rfl rfl ?_
  (conv => whnf); repeat' (first  | ((with_reducible first | apply kN | apply kW | apply kX | apply kG | apply kQ); (· exact sd); conv => whnf) | (refine pcase.mk ?_ ?_ <;> intro hc <;> (try rw [List.length_nil] at hc) <;> first | (exfalso; omega) | (exact absurd rfl hc) | conv => whnf) | (refine bcase_intro ?_ ?_ <;> intro hc <;> conv => whnf))
  all_goals first | rfl | (exfalso; omega) | (trace_state; fail "fldM_n")
theorem migP_n {m : GM} (hm : m.ok) (hk : ¬ (1 ≤ m.k ∧ m.k ≤ 7)) : PureP (findFn tab) 15 [m.av] (· = .int .i64 (migE m)) := by
  refine pureP_of rfl rfl ?_
  (conv => whnf); repeat' (first | (refine callK_of (fldM_n hk) ?_; rintro _ rfl; conv => whnf) | ((with_reducible first | apply kN | apply kW | apply kX | apply kG | apply kQ); (· exact sd); conv => whnf) | (refine pcase.mk ?_ ?_ <;> intro hc <;> (try rw [List.length_nil] at hc) <;> first | (exfalso; omega) | (exact absurd rfl hc) | conv => whnf) | (refine bcase_intro ?_ ?_ <;> intro hc <;> conv => whnf))
  all_goals exact migE_1 (.inl hk)
set_option maxHeartbeats 4000000 in
theorem migP_1 {m : GM} (hm : m.ok) (hk : m.k = 1) : PureP (findFn tab) 15 [m.av] (· = .int .i64 (migE m)) := by
  obtain ⟨k, lb, fr, to, v, r⟩ := m
  obtain ⟨g1, g2, g3, g4, g5, g6⟩ := hm
  unfold Ln at g2 g3 g4
  dsimp only at g1 g2 g3 g4 g5 g6 hk
  subst hk
  refine pureP_of rfl rfl ?_
  (conv => whnf); repeat' (first | (refine callK_of fldM_1 ?_; rintro _ rfl; conv => whnf) | (refine callK_of nullP ?_; rintro _ rfl; conv => whnf) | (refine callK_of (orderPN g5) ?_; rintro _ ⟨z, rfl, hz⟩; conv => whnf) | (refine callB (plain1 g5) (fun hp => ?_) (fun hp => ?_) <;> conv => whnf) | (refine callK_of (ruleP g6) ?_; rintro _ rfl; conv => whnf) | (refine callB (name1 (s := lb) g2) (fun ha => ?_) (fun ha => ?_) <;> conv => whnf) | (refine callB (name1 (s := fr) g3) (fun he => ?_) (fun he => ?_) <;> conv => whnf) | (refine callB (name1 (s := to) g4) (fun hf => ?_) (fun hf => ?_) <;> conv => whnf) | (apply getK_intro (neq_rule r); conv => whnf) | ((with_reducible first | apply kN | apply kW | apply kX | apply kG | apply kQ); (· exact sd); conv => whnf) | (refine pcase.mk ?_ ?_ <;> intro hc <;> (try rw [List.length_nil] at hc) <;> first | (exfalso; omega) | (exact absurd rfl hc) | conv => whnf) | (refine bcase_intro ?_ ?_ <;> intro hc <;> conv => whnf))
  all_goals clear g1 g2 g3 g4 g5 g6
  all_goals first
    | exact migE_1 (by unfold badM renK labK frK toK rulK; dsimp only; grind)
    | exact migE_6 (by unfold badM renK labK frK toK rulK; dsimp only; grind) (by unfold badMN labK frK toK; dsimp only; grind)
    | exact migE_8 (by unfold badM renK labK frK toK rulK; dsimp only; grind) (by unfold badMN labK frK toK; dsimp only; grind) (by dsimp only; grind)
    | exact migE_0 (by unfold badM renK labK frK toK rulK; dsimp only; grind) (by unfold badMN labK frK toK; dsimp only; grind) (by dsimp only; grind) (by unfold rulK; dsimp only; omega)
    | exact migE_r (m := ⟨1, lb, fr, to, v, r⟩) (by unfold badM renK labK frK toK rulK; dsimp only; grind) (by unfold badMN labK frK toK; dsimp only; grind) (by unfold rulK; dsimp only; omega)
    | (exfalso; grind)
    | (trace_state; fail "migP")
set_option maxHeartbeats 4000000 in
theorem migP_2 {m : GM} (hm : m.ok) (hk : m.k = 2) : PureP (findFn tab) 15 [m.av] (· = .int .i64 (migE m)) := by
  obtain ⟨k, lb, fr, to, v, r⟩ := m
  obtain ⟨g1, g2, g3, g4, g5, g6⟩ := hm
  unfold Ln at g2 g3 g4
  dsimp only at g1 g2 g3 g4 g5 g6 hk
  subst hk
  refine pureP_of rfl rfl ?_
  (conv => whnf); repeat' (first | (refine callK_of fldM_2 ?_; rintro _ rfl; conv => whnf) | (refine callK_of nullP ?_; rintro _ rfl; conv => whnf) | (refine callK_of (orderPN g5) ?_; rintro _ ⟨z, rfl, hz⟩; conv => whnf) | (refine callB (plain1 g5) (fun hp => ?_) (fun hp => ?_) <;> conv => whnf) | (refine callK_of (ruleP g6) ?_; rintro _ rfl; conv => whnf) | (refine callB (name1 (s := lb) g2) (fun ha => ?_) (fun ha => ?_) <;> conv => whnf) | (refine callB (name1 (s := fr) g3) (fun he => ?_) (fun he => ?_) <;> conv => whnf) | (refine callB (name1 (s := to) g4) (fun hf => ?_) (fun hf => ?_) <;> conv => whnf) | (apply getK_intro (neq_rule r); conv => whnf) | ((with_reducible first | apply kN | apply kW | apply kX | apply kG | apply kQ); (· exact sd); conv => whnf) | (refine pcase.mk ?_ ?_ <;> intro hc <;> (try rw [List.length_nil] at hc) <;> first | (exfalso; omega) | (exact absurd rfl hc) | conv => whnf) | (refine bcase_intro ?_ ?_ <;> intro hc <;> conv => whnf))
  all_goals clear g1 g2 g3 g4 g5 g6
  all_goals first
    | exact migE_1 (by unfold badM renK labK frK toK rulK; dsimp only; grind)
    | exact migE_6 (by unfold badM renK labK frK toK rulK; dsimp only; grind) (by unfold badMN labK frK toK; dsimp only; grind)
    | exact migE_8 (by unfold badM renK labK frK toK rulK; dsimp only; grind) (by unfold badMN labK frK toK; dsimp only; grind) (by dsimp only; grind)
    | exact migE_0 (by unfold badM renK labK frK toK rulK; dsimp only; grind) (by unfold badMN labK frK toK; dsimp only; grind) (by dsimp only; grind) (by unfold rulK; dsimp only; omega)
    | exact migE_r (m := ⟨2, lb, fr, to, v, r⟩) (by unfold badM renK labK frK toK rulK; dsimp only; grind) (by unfold badMN labK frK toK; dsimp only; grind) (by unfold rulK; dsimp only; omega)
    | (exfalso; grind)
    | (trace_state; fail "migP")
set_option maxHeartbeats 4000000 in
theorem migP_3 {m : GM} (hm : m.ok) (hk : m.k = 3) : PureP (findFn tab) 15 [m.av] (· = .int .i64 (migE m)) := by
  obtain ⟨k, lb, fr, to, v, r⟩ := m
  obtain ⟨g1, g2, g3, g4, g5, g6⟩ := hm
  unfold Ln at g2 g3 g4
  dsimp only at g1 g2 g3 g4 g5 g6 hk
  subst hk
  refine pureP_of rfl rfl ?_
  (conv => whnf); repeat' (first | (refine callK_of fldM_3 ?_; rintro _ rfl; conv => whnf) | (refine callK_of nullP ?_; rintro _ rfl; conv => whnf) | (refine callK_of (orderPN g5) ?_; rintro _ ⟨z, rfl, hz⟩; conv => whnf) | (refine callB (plain1 g5) (fun hp => ?_) (fun hp => ?_) <;> conv => whnf) | (refine callK_of (ruleP g6) ?_; rintro _ rfl; conv => whnf) | (refine callB (name1 (s := lb) g2) (fun ha => ?_) (fun ha => ?_) <;> conv => whnf) | (refine callB (name1 (s := fr) g3) (fun he => ?_) (fun he => ?_) <;> conv => whnf) | (refine callB (name1 (s := to) g4) (fun hf => ?_) (fun hf => ?_) <;> conv => whnf) | (apply getK_intro (neq_rule r); conv => whnf) | ((with_reducible first | apply kN | apply kW | apply kX | apply kG | apply kQ); (· exact sd); conv => whnf) | (refine pcase.mk ?_ ?_ <;> intro hc <;> (try rw [List.length_nil] at hc) <;> first | (exfalso; omega) | (exact absurd rfl hc) | conv => whnf) | (refine bcase_intro ?_ ?_ <;> intro hc <;> conv => whnf))
  all_goals clear g1 g2 g3 g4 g5 g6
  all_goals first
    | exact migE_1 (by unfold badM renK labK frK toK rulK; dsimp only; grind)
    | exact migE_6 (by unfold badM renK labK frK toK rulK; dsimp only; grind) (by unfold badMN labK frK toK; dsimp only; grind)
    | exact migE_8 (by unfold badM renK labK frK toK rulK; dsimp only; grind) (by unfold badMN labK frK toK; dsimp only; grind) (by dsimp only; grind)
    | exact migE_0 (by unfold badM renK labK frK toK rulK; dsimp only; grind) (by unfold badMN labK frK toK; dsimp only; grind) (by dsimp only; grind) (by unfold rulK; dsimp only; omega)
    | exact migE_r (m := ⟨3, lb, fr, to, v, r⟩) (by unfold badM renK labK frK toK rulK; dsimp only; grind) (by unfold badMN labK frK toK; dsimp only; grind) (by unfold rulK; dsimp only; omega)
    | (exfalso; grind)
    | (trace_state; fail "migP")
set_option maxHeartbeats 4000000 in
theorem migP_4 {m : GM} (hm : m.ok) (hk : m.k = 4) : PureP (findFn tab) 15 [m.av] (· = .int .i64 (migE m)) := by
  obtain ⟨k, lb, fr, to, v, r⟩ := m
  obtain ⟨g1, g2, g3, g4, g5, g6⟩ := hm
  unfold Ln at g2 g3 g4
  dsimp only at g1 g2 g3 g4 g5 g6 hk
  subst hk
  refine pureP_of rfl rfl ?_
  (conv => whnf); repeat' (first | (refine callK_of fldM_4 ?_; rintro _ rfl; conv => whnf) | (refine callK_of nullP ?_; rintro _ rfl; conv => whnf) | (refine callK_of (orderPN g5) ?_; rintro _ ⟨z, rfl, hz⟩; conv => whnf) | (refine callB (plain1 g5) (fun hp => ?_) (fun hp => ?_) <;> conv => whnf) | (refine callK_of (ruleP g6) ?_; rintro _ rfl; conv => whnf) | (refine callB (name1 (s := lb) g2) (fun ha => ?_) (fun ha => ?_) <;> conv => whnf) | (refine callB (name1 (s := fr) g3) (fun he => ?_) (fun he => ?_) <;> conv => whnf) | (refine callB (name1 (s := to) g4) (fun hf => ?_) (fun hf => ?_) <;> conv => whnf) | (apply getK_intro (neq_rule r); conv => whnf) | ((with_reducible first | apply kN | apply kW | apply kX | apply kG | apply kQ); (· exact sd); conv => whnf) | (refine pcase.mk ?_ ?_ <;> intro hc <;> (try rw [List.length_nil] at hc) <;> first | (exfalso; omega) | (exact absurd rfl hc) | conv => whnf) | (refine bcase_intro ?_ ?_ <;> intro hc <;> conv => whnf))
  all_goals clear g1 g2 g3 g4 g5 g6
  all_goals first
    | exact migE_1 (by unfold badM renK labK frK toK rulK; dsimp only; grind)
    | exact migE_6 (by unfold badM renK labK frK toK rulK; dsimp only; grind) (by unfold badMN labK frK toK; dsimp only; grind)
    | exact migE_8 (by unfold badM renK labK frK toK rulK; dsimp only; grind) (by unfold badMN labK frK toK; dsimp only; grind) (by dsimp only; grind)
    | exact migE_0 (by unfold badM renK labK frK toK rulK; dsimp only; grind) (by unfold badMN labK frK toK; dsimp only; grind) (by dsimp only; grind) (by unfold rulK; dsimp only; omega)
    | exact migE_r (m := ⟨4, lb, fr, to, v, r⟩) (by unfold badM renK labK frK toK rulK; dsimp only; grind) (by unfold badMN labK frK toK; dsimp only; grind) (by unfold rulK; dsimp only; omega)
    | (exfalso; grind)
    | (trace_state; fail "migP")
set_option maxHeartbeats 4000000 in
theorem migP_5 {m : GM} (hm : m.ok) (hk : m.k = 5) : PureP (findFn tab) 15 [m.av] (· = .int .i64 (migE m)) := by
  obtain ⟨k, lb, fr, to, v, r⟩ := m
  obtain ⟨g1, g2, g3, g4, g5, g6⟩ := hm
  unfold Ln at g2 g3 g4
  dsimp only at g1 g2 g3 g4 g5 g6 hk
  subst hk
  refine pureP_of rfl rfl ?_
  (conv => whnf); repeat' (first | (refine callK_of fldM_5 ?_; rintro _ rfl; conv => whnf) | (refine callK_of nullP ?_; rintro _ rfl; conv => whnf) | (refine callK_of (orderPN g5) ?_; rintro _ ⟨z, rfl, hz⟩; conv => whnf) | (refine callB (plain1 g5) (fun hp => ?_) (fun hp => ?_) <;> conv => whnf) | (refine callK_of (ruleP g6) ?_; rintro _ rfl; conv => whnf) | (refine callB (name1 (s := lb) g2) (fun ha => ?_) (fun ha => ?_) <;> conv => whnf) | (refine callB (name1 (s := fr) g3) (fun he => ?_) (fun he => ?_) <;> conv => whnf) | (refine callB (name1 (s := to) g4) (fun hf => ?_) (fun hf => ?_) <;> conv => whnf) | (apply getK_intro (neq_rule r); conv => whnf) | ((with_reducible first | apply kN | apply kW | apply kX | apply kG | apply kQ); (· exact sd); conv => whnf) | (refine pcase.mk ?_ ?_ <;> intro hc <;> (try rw [List.length_nil] at hc) <;> first | (exfalso; omega) | (exact absurd rfl hc) | conv => whnf) | (refine bcase_intro ?_ ?_ <;> intro hc <;> conv => whnf))
  all_goals clear g1 g2 g3 g4 g5 g6
  all_goals first
    | exact migE_1 (by unfold badM renK labK frK toK rulK; dsimp only; grind)
    | exact migE_6 (by unfold badM renK labK frK toK rulK; dsimp only; grind) (by unfold badMN labK frK toK; dsimp only; grind)
    | exact migE_8 (by unfold badM renK labK frK toK rulK; dsimp only; grind) (by unfold badMN labK frK toK; dsimp only; grind) (by dsimp only; grind)
    | exact migE_0 (by unfold badM renK labK frK toK rulK; dsimp only; grind) (by unfold badMN labK frK toK; dsimp only; grind) (by dsimp only; grind) (by unfold rulK; dsimp only; omega)
    | exact migE_r (m := ⟨5, lb, fr, to, v, r⟩) (by unfold badM renK labK frK toK rulK; dsimp only; grind) (by unfold badMN labK frK toK; dsimp only; grind) (by unfold rulK; dsimp only; omega)
    | (exfalso; grind)
    | (trace_state; fail "migP")
set_option maxHeartbeats 4000000 in
theorem migP_6 {m : GM} (hm : m.ok) (hk : m.k = 6) : PureP (findFn tab) 15 [m.av] (· = .int .i64 (migE m)) := by
  obtain ⟨k, lb, fr, to, v, r⟩ := m
  obtain ⟨g1, g2, g3, g4, g5, g6⟩ := hm
  unfold Ln at g2 g3 g4
  dsimp only at g1 g2 g3 g4 g5 g6 hk
  subst hk
  refine pureP_of rfl rfl ?_
  (conv => whnf); repeat' (first | (refine callK_of fldM_6 ?_; rintro _ rfl; conv => whnf) | (refine callK_of nullP ?_; rintro _ rfl; conv => whnf) | (refine callK_of (orderPN g5) ?_; rintro _ ⟨z, rfl, hz⟩; conv => whnf) | (refine callB (plain1 g5) (fun hp => ?_) (fun hp => ?_) <;> conv => whnf) | (refine callK_of (ruleP g6) ?_; rintro _ rfl; conv => whnf) | (refine callB (name1 (s := lb) g2) (fun ha => ?_) (fun ha => ?_) <;> conv => whnf) | (refine callB (name1 (s := fr) g3) (fun he => ?_) (fun he => ?_) <;> conv => whnf) | (refine callB (name1 (s := to) g4) (fun hf => ?_) (fun hf => ?_) <;> conv => whnf) | (apply getK_intro (neq_rule r); conv => whnf) | ((with_reducible first | apply kN | apply kW | apply kX | apply kG | apply kQ); (· exact sd); conv => whnf) | (refine pcase.mk ?_ ?_ <;> intro hc <;> (try rw [List.length_nil] at hc) <;> first | (exfalso; omega) | (exact absurd rfl hc) | conv => whnf) | (refine bcase_intro ?_ ?_ <;> intro hc <;> conv => whnf))
  all_goals clear g1 g2 g3 g4 g5 g6
  all_goals first
    | exact migE_1 (by unfold badM renK labK frK toK rulK; dsimp only; grind)
    | exact migE_6 (by unfold badM renK labK frK toK rulK; dsimp only; grind) (by unfold badMN labK frK toK; dsimp only; grind)
    | exact migE_8 (by unfold badM renK labK frK toK rulK; dsimp only; grind) (by unfold badMN labK frK toK; dsimp only; grind) (by dsimp only; grind)
    | exact migE_0 (by unfold badM renK labK frK toK rulK; dsimp only; grind) (by unfold badMN labK frK toK; dsimp only; grind) (by dsimp only; grind) (by unfold rulK; dsimp only; omega)
    | exact migE_r (m := ⟨6, lb, fr, to, v, r⟩) (by unfold badM renK labK frK toK rulK; dsimp only; grind) (by unfold badMN labK frK toK; dsimp only; grind) (by unfold rulK; dsimp only; omega)
    | (exfalso; grind)
    | (trace_state; fail "migP")
set_option maxHeartbeats 4000000 in
theorem migP_7 {m : GM} (hm : m.ok) (hk : m.k = 7) : PureP (findFn tab) 15 [m.av] (· = .int .i64 (migE m)) := by
  obtain ⟨k, lb, fr, to, v, r⟩ := m
  obtain ⟨g1, g2, g3, g4, g5, g6⟩ := hm
  unfold Ln at g2 g3 g4
  dsimp only at g1 g2 g3 g4 g5 g6 hk
  subst hk
  refine pureP_of rfl rfl ?_
  (conv => whnf); repeat' (first | (refine callK_of fldM_7 ?_; rintro _ rfl; conv => whnf) | (refine callK_of nullP ?_; rintro _ rfl; conv => whnf) | (refine callK_of (orderPN g5) ?_; rintro _ ⟨z, rfl, hz⟩; conv => whnf) | (refine callB (plain1 g5) (fun hp => ?_) (fun hp => ?_) <;> conv => whnf) | (refine callK_of (ruleP g6) ?_; rintro _ rfl; conv => whnf) | (refine callB (name1 (s := lb) g2) (fun ha => ?_) (fun ha => ?_) <;> conv => whnf) | (refine callB (name1 (s := fr) g3) (fun he => ?_) (fun he => ?_) <;> conv => whnf) | (refine callB (name1 (s := to) g4) (fun hf => ?_) (fun hf => ?_) <;> conv => whnf) | (apply getK_intro (neq_rule r); conv => whnf) | ((with_reducible first | apply kN | apply kW | apply kX | apply kG | apply kQ); (· exact sd); conv => whnf) | (refine pcase.mk ?_ ?_ <;> intro hc <;> (try rw [List.length_nil] at hc) <;> first | (exfalso; omega) | (exact absurd rfl hc) | conv => whnf) | (refine bcase_intro ?_ ?_ <;> intro hc <;> conv => whnf))
  all_goals clear g1 g2 g3 g4 g5 g6
  all_goals first
    | exact migE_1 (by unfold badM renK labK frK toK rulK; dsimp only; grind)
    | exact migE_6 (by unfold badM renK labK frK toK rulK; dsimp only; grind) (by unfold badMN labK frK toK; dsimp only; grind)
    | exact migE_8 (by unfold badM renK labK frK toK rulK; dsimp only; grind) (by unfold badMN labK frK toK; dsimp only; grind) (by dsimp only; grind)
    | exact migE_0 (by unfold badM renK labK frK toK rulK; dsimp only; grind) (by unfold badMN labK frK toK; dsimp only; grind) (by dsimp only; grind) (by unfold rulK; dsimp only; omega)
    | exact migE_r (m := ⟨7, lb, fr, to, v, r⟩) (by unfold badM renK labK frK toK rulK; dsimp only; grind) (by unfold badMN labK frK toK; dsimp only; grind) (by unfold rulK; dsimp only; omega)
    | (exfalso; grind)
    | (trace_state; fail "migP")
theorem migP {m : GM} (hr : m.ok) : PureP (findFn tab) 15 [m.av] (· = .int .i64 (migE m)) := by
  by_cases hk : 1 ≤ m.k ∧ m.k ≤ 7
  case neg => exact migP_n hr hk
  have h : m.k = 1 ∨ m.k = 2 ∨ m.k = 3 ∨ m.k = 4 ∨ m.k = 5 ∨ m.k = 6 ∨ m.k = 7 := by omega
  rcases h with h | h | h | h | h | h | h
  · exact migP_1 hr h
  · exact migP_2 hr h
  · exact migP_3 hr h
  · exact migP_4 hr h
  · exact migP_5 hr h
  · exact migP_6 hr h
  · exact migP_7 hr h

end AI
end Go.Proofs.YtdlkcancogpafaaGreatDoor
set_option linter.unusedVariables false
namespace Go.Proofs.YtdlkcancogpafaaGreatDoor
namespace AI

theorem nullR0 : PureP (findFn tab) 96 [] (· = gv0.av) := by
  refine pureP_of rfl rfl ?_
  (conv => whnf); repeat' (first  | ((with_reducible first | apply kN | apply kW | apply kX | apply kG | apply kQ); (· exact sd); conv => whnf) | (refine pcase.mk ?_ ?_ <;> intro hc <;> (try rw [List.length_nil] at hc) <;> first | (exfalso; omega) | (exact absurd rfl hc) | conv => whnf) | (refine bcase_intro ?_ ?_ <;> intro hc <;> conv => whnf))
  rfl
theorem renC_1 : PureP (findFn tab) 41 [.int .i64 1] (· = .bool true) := ⟨_, ⟨20, by kernel_rfl⟩, rfl⟩
theorem labC_1 : PureP (findFn tab) 49 [.int .i64 1] (· = .bool false) := ⟨_, ⟨20, by kernel_rfl⟩, rfl⟩
theorem frC_1 : PureP (findFn tab) 51 [.int .i64 1] (· = .bool true) := ⟨_, ⟨20, by kernel_rfl⟩, rfl⟩
theorem toC_1 : PureP (findFn tab) 52 [.int .i64 1] (· = .bool true) := ⟨_, ⟨20, by kernel_rfl⟩, rfl⟩
theorem rulC_1 : PureP (findFn tab) 54 [.int .i64 1] (· = .bool false) := ⟨_, ⟨20, by kernel_rfl⟩, rfl⟩
theorem renC_2 : PureP (findFn tab) 41 [.int .i64 2] (· = .bool true) := ⟨_, ⟨20, by kernel_rfl⟩, rfl⟩
theorem labC_2 : PureP (findFn tab) 49 [.int .i64 2] (· = .bool false) := ⟨_, ⟨20, by kernel_rfl⟩, rfl⟩
theorem frC_2 : PureP (findFn tab) 51 [.int .i64 2] (· = .bool true) := ⟨_, ⟨20, by kernel_rfl⟩, rfl⟩
theorem toC_2 : PureP (findFn tab) 52 [.int .i64 2] (· = .bool true) := ⟨_, ⟨20, by kernel_rfl⟩, rfl⟩
theorem rulC_2 : PureP (findFn tab) 54 [.int .i64 2] (· = .bool false) := ⟨_, ⟨20, by kernel_rfl⟩, rfl⟩
theorem renC_3 : PureP (findFn tab) 41 [.int .i64 3] (· = .bool true) := ⟨_, ⟨20, by kernel_rfl⟩, rfl⟩
theorem labC_3 : PureP (findFn tab) 49 [.int .i64 3] (· = .bool true) := ⟨_, ⟨20, by kernel_rfl⟩, rfl⟩
theorem frC_3 : PureP (findFn tab) 51 [.int .i64 3] (· = .bool true) := ⟨_, ⟨20, by kernel_rfl⟩, rfl⟩
theorem toC_3 : PureP (findFn tab) 52 [.int .i64 3] (· = .bool true) := ⟨_, ⟨20, by kernel_rfl⟩, rfl⟩
theorem rulC_3 : PureP (findFn tab) 54 [.int .i64 3] (· = .bool false) := ⟨_, ⟨20, by kernel_rfl⟩, rfl⟩
theorem renC_4 : PureP (findFn tab) 41 [.int .i64 4] (· = .bool false) := ⟨_, ⟨20, by kernel_rfl⟩, rfl⟩
theorem labC_4 : PureP (findFn tab) 49 [.int .i64 4] (· = .bool true) := ⟨_, ⟨20, by kernel_rfl⟩, rfl⟩
theorem frC_4 : PureP (findFn tab) 51 [.int .i64 4] (· = .bool true) := ⟨_, ⟨20, by kernel_rfl⟩, rfl⟩
theorem toC_4 : PureP (findFn tab) 52 [.int .i64 4] (· = .bool false) := ⟨_, ⟨20, by kernel_rfl⟩, rfl⟩
theorem rulC_4 : PureP (findFn tab) 54 [.int .i64 4] (· = .bool false) := ⟨_, ⟨20, by kernel_rfl⟩, rfl⟩
theorem renC_5 : PureP (findFn tab) 41 [.int .i64 5] (· = .bool false) := ⟨_, ⟨20, by kernel_rfl⟩, rfl⟩
theorem labC_5 : PureP (findFn tab) 49 [.int .i64 5] (· = .bool true) := ⟨_, ⟨20, by kernel_rfl⟩, rfl⟩
theorem frC_5 : PureP (findFn tab) 51 [.int .i64 5] (· = .bool false) := ⟨_, ⟨20, by kernel_rfl⟩, rfl⟩
theorem toC_5 : PureP (findFn tab) 52 [.int .i64 5] (· = .bool true) := ⟨_, ⟨20, by kernel_rfl⟩, rfl⟩
theorem rulC_5 : PureP (findFn tab) 54 [.int .i64 5] (· = .bool false) := ⟨_, ⟨20, by kernel_rfl⟩, rfl⟩
theorem renC_6 : PureP (findFn tab) 41 [.int .i64 6] (· = .bool false) := ⟨_, ⟨20, by kernel_rfl⟩, rfl⟩
theorem labC_6 : PureP (findFn tab) 49 [.int .i64 6] (· = .bool false) := ⟨_, ⟨20, by kernel_rfl⟩, rfl⟩
theorem frC_6 : PureP (findFn tab) 51 [.int .i64 6] (· = .bool false) := ⟨_, ⟨20, by kernel_rfl⟩, rfl⟩
theorem toC_6 : PureP (findFn tab) 52 [.int .i64 6] (· = .bool false) := ⟨_, ⟨20, by kernel_rfl⟩, rfl⟩
theorem rulC_6 : PureP (findFn tab) 54 [.int .i64 6] (· = .bool true) := ⟨_, ⟨20, by kernel_rfl⟩, rfl⟩
theorem renC_7 : PureP (findFn tab) 41 [.int .i64 7] (· = .bool false) := ⟨_, ⟨20, by kernel_rfl⟩, rfl⟩
theorem labC_7 : PureP (findFn tab) 49 [.int .i64 7] (· = .bool false) := ⟨_, ⟨20, by kernel_rfl⟩, rfl⟩
theorem frC_7 : PureP (findFn tab) 51 [.int .i64 7] (· = .bool false) := ⟨_, ⟨20, by kernel_rfl⟩, rfl⟩
theorem toC_7 : PureP (findFn tab) 52 [.int .i64 7] (· = .bool false) := ⟨_, ⟨20, by kernel_rfl⟩, rfl⟩
theorem rulC_7 : PureP (findFn tab) 54 [.int .i64 7] (· = .bool true) := ⟨_, ⟨20, by kernel_rfl⟩, rfl⟩
theorem formed_n {m : GM} (hk : ¬ (1 ≤ m.k ∧ m.k ≤ 7)) : PureP (findFn tab) 48 [m.av] (· = .bool false) := by
  refine pureP_of rfl rfl ?_
  (conv => whnf); repeat' (first  | ((with_reducible first | apply kN | apply kW | apply kX | apply kG | apply kQ); (· exact sd); conv => whnf) | (refine pcase.mk ?_ ?_ <;> intro hc <;> (try rw [List.length_nil] at hc) <;> first | (exfalso; omega) | (exact absurd rfl hc) | conv => whnf) | (refine bcase_intro ?_ ?_ <;> intro hc <;> conv => whnf))
  all_goals first | rfl | (exfalso; omega) | (trace_state; fail "formed_n")
theorem migR_n {m : GM} (hm : m.ok) (hk : ¬ (1 ≤ m.k ∧ m.k ≤ 7)) : PureP (findFn tab) 16 [m.av] (· = .int .i64 (migE m)) := by
  refine pureP_of rfl rfl ?_
  (conv => whnf); repeat' (first | (refine callK_of (formed_n hk) ?_; rintro _ rfl; conv => whnf) | ((with_reducible first | apply kN | apply kW | apply kX | apply kG | apply kQ); (· exact sd); conv => whnf) | (refine pcase.mk ?_ ?_ <;> intro hc <;> (try rw [List.length_nil] at hc) <;> first | (exfalso; omega) | (exact absurd rfl hc) | conv => whnf) | (refine bcase_intro ?_ ?_ <;> intro hc <;> conv => whnf))
  all_goals exact migE_1 (.inl hk)
set_option maxHeartbeats 4000000 in
theorem formed_1 {m : GM} (hm : m.ok) (hk : m.k = 1) : PureP (findFn tab) 48 [m.av] (· = .bool (decide (¬ badM m))) := by
  obtain ⟨k, lb, fr, to, v, r⟩ := m
  obtain ⟨g1, g2, g3, g4, g5, g6⟩ := hm
  dsimp only at g1 g2 g3 g4 g5 g6 hk
  subst hk
  refine pureP_of rfl rfl ?_
  (conv => whnf); repeat' (first | (refine callK_of renC_1 ?_; rintro _ rfl; conv => whnf) | (refine callK_of labC_1 ?_; rintro _ rfl; conv => whnf) | (refine callK_of frC_1 ?_; rintro _ rfl; conv => whnf) | (refine callK_of toC_1 ?_; rintro _ rfl; conv => whnf) | (refine callK_of rulC_1 ?_; rintro _ rfl; conv => whnf) | (refine callK_of nullR0 ?_; rintro _ rfl; conv => whnf) | (refine callK_of (orderRN g5) ?_; rintro _ ⟨z, rfl, hz⟩; conv => whnf) | (apply getK_intro (eql_rule r); conv => whnf) | ((with_reducible first | apply kN | apply kW | apply kX | apply kG | apply kQ); (· exact sd); conv => whnf) | (refine pcase.mk ?_ ?_ <;> intro hc <;> (try rw [List.length_nil] at hc) <;> first | (exfalso; omega) | (exact absurd rfl hc) | conv => whnf) | (refine bcase_intro ?_ ?_ <;> intro hc <;> conv => whnf))
  all_goals clear g1 g2 g3 g4 g5 g6
  all_goals first
    | exact bool_t (by unfold badM renK labK frK toK rulK; dsimp only; grind)
    | exact bool_f (by unfold badM renK labK frK toK rulK; dsimp only; grind)
    | exact dec_iff (by unfold badM renK labK frK toK rulK; dsimp only; grind)
    | (exfalso; grind)
    | (trace_state; fail "formed")
set_option maxHeartbeats 4000000 in
theorem migR_1 {m : GM} (hm : m.ok) (hk : m.k = 1) : PureP (findFn tab) 16 [m.av] (· = .int .i64 (migE m)) := by
  have hfo := formed_1 hm hk
  obtain ⟨k, lb, fr, to, v, r⟩ := m
  obtain ⟨g1, g2, g3, g4, g5, g6⟩ := hm
  unfold Ln at g2 g3 g4
  dsimp only at g1 g2 g3 g4 g5 g6 hk
  subst hk
  refine pureP_of rfl rfl ?_
  (conv => whnf); repeat' (first | (refine callB hfo (fun hz => ?_) (fun hz => ?_) <;> conv => whnf) | (refine callK_of labC_1 ?_; rintro _ rfl; conv => whnf) | (refine callK_of frC_1 ?_; rintro _ rfl; conv => whnf) | (refine callK_of toC_1 ?_; rintro _ rfl; conv => whnf) | (refine callK_of rulC_1 ?_; rintro _ rfl; conv => whnf) | (refine callB (plain2 g5) (fun hp => ?_) (fun hp => ?_) <;> conv => whnf) | (refine callK_of (ruleR g6) ?_; rintro _ rfl; conv => whnf) | (refine callB (name2 (s := lb) g2) (fun ha => ?_) (fun ha => ?_) <;> conv => whnf) | (refine callB (name2 (s := fr) g3) (fun he => ?_) (fun he => ?_) <;> conv => whnf) | (refine callB (name2 (s := to) g4) (fun hf => ?_) (fun hf => ?_) <;> conv => whnf) | ((with_reducible first | apply kN | apply kW | apply kX | apply kG | apply kQ); (· exact sd); conv => whnf) | (refine pcase.mk ?_ ?_ <;> intro hc <;> (try rw [List.length_nil] at hc) <;> first | (exfalso; omega) | (exact absurd rfl hc) | conv => whnf) | (refine bcase_intro ?_ ?_ <;> intro hc <;> conv => whnf))
  all_goals clear g1 g2 g3 g4 g5 g6
  all_goals first
    | exact migE_1 (Classical.not_not.1 hz)
    | exact migE_6 hz (by unfold badMN labK frK toK; dsimp only; grind)
    | exact migE_8 hz (by unfold badMN labK frK toK; dsimp only; grind) (by dsimp only; grind)
    | exact migE_0 hz (by unfold badMN labK frK toK; dsimp only; grind) (by dsimp only; grind) (by unfold rulK; dsimp only; omega)
    | exact migE_r (m := ⟨1, lb, fr, to, v, r⟩) hz (by unfold badMN labK frK toK; dsimp only; grind) (by unfold rulK; dsimp only; omega)
    | (exfalso; grind)
    | (trace_state; fail "migR")
set_option maxHeartbeats 4000000 in
theorem formed_2 {m : GM} (hm : m.ok) (hk : m.k = 2) : PureP (findFn tab) 48 [m.av] (· = .bool (decide (¬ badM m))) := by
  obtain ⟨k, lb, fr, to, v, r⟩ := m
  obtain ⟨g1, g2, g3, g4, g5, g6⟩ := hm
  dsimp only at g1 g2 g3 g4 g5 g6 hk
  subst hk
  refine pureP_of rfl rfl ?_
  (conv => whnf); repeat' (first | (refine callK_of renC_2 ?_; rintro _ rfl; conv => whnf) | (refine callK_of labC_2 ?_; rintro _ rfl; conv => whnf) | (refine callK_of frC_2 ?_; rintro _ rfl; conv => whnf) | (refine callK_of toC_2 ?_; rintro _ rfl; conv => whnf) | (refine callK_of rulC_2 ?_; rintro _ rfl; conv => whnf) | (refine callK_of nullR0 ?_; rintro _ rfl; conv => whnf) | (refine callK_of (orderRN g5) ?_; rintro _ ⟨z, rfl, hz⟩; conv => whnf) | (apply getK_intro (eql_rule r); conv => whnf) | ((with_reducible first | apply kN | apply kW | apply kX | apply kG | apply kQ); (· exact sd); conv => whnf) | (refine pcase.mk ?_ ?_ <;> intro hc <;> (try rw [List.length_nil] at hc) <;> first | (exfalso; omega) | (exact absurd rfl hc) | conv => whnf) | (refine bcase_intro ?_ ?_ <;> intro hc <;> conv => whnf))
  all_goals clear g1 g2 g3 g4 g5 g6
  all_goals first
    | exact bool_t (by unfold badM renK labK frK toK rulK; dsimp only; grind)
    | exact bool_f (by unfold badM renK labK frK toK rulK; dsimp only; grind)
    | exact dec_iff (by unfold badM renK labK frK toK rulK; dsimp only; grind)
    | (exfalso; grind)
    | (trace_state; fail "formed")
set_option maxHeartbeats 4000000 in
theorem migR_2 {m : GM} (hm : m.ok) (hk : m.k = 2) : PureP (findFn tab) 16 [m.av] (· = .int .i64 (migE m)) := by
  have hfo := formed_2 hm hk
  obtain ⟨k, lb, fr, to, v, r⟩ := m
  obtain ⟨g1, g2, g3, g4, g5, g6⟩ := hm
  unfold Ln at g2 g3 g4
  dsimp only at g1 g2 g3 g4 g5 g6 hk
  subst hk
  refine pureP_of rfl rfl ?_
  (conv => whnf); repeat' (first | (refine callB hfo (fun hz => ?_) (fun hz => ?_) <;> conv => whnf) | (refine callK_of labC_2 ?_; rintro _ rfl; conv => whnf) | (refine callK_of frC_2 ?_; rintro _ rfl; conv => whnf) | (refine callK_of toC_2 ?_; rintro _ rfl; conv => whnf) | (refine callK_of rulC_2 ?_; rintro _ rfl; conv => whnf) | (refine callB (plain2 g5) (fun hp => ?_) (fun hp => ?_) <;> conv => whnf) | (refine callK_of (ruleR g6) ?_; rintro _ rfl; conv => whnf) | (refine callB (name2 (s := lb) g2) (fun ha => ?_) (fun ha => ?_) <;> conv => whnf) | (refine callB (name2 (s := fr) g3) (fun he => ?_) (fun he => ?_) <;> conv => whnf) | (refine callB (name2 (s := to) g4) (fun hf => ?_) (fun hf => ?_) <;> conv => whnf) | ((with_reducible first | apply kN | apply kW | apply kX | apply kG | apply kQ); (· exact sd); conv => whnf) | (refine pcase.mk ?_ ?_ <;> intro hc <;> (try rw [List.length_nil] at hc) <;> first | (exfalso; omega) | (exact absurd rfl hc) | conv => whnf) | (refine bcase_intro ?_ ?_ <;> intro hc <;> conv => whnf))
  all_goals clear g1 g2 g3 g4 g5 g6
  all_goals first
    | exact migE_1 (Classical.not_not.1 hz)
    | exact migE_6 hz (by unfold badMN labK frK toK; dsimp only; grind)
    | exact migE_8 hz (by unfold badMN labK frK toK; dsimp only; grind) (by dsimp only; grind)
    | exact migE_0 hz (by unfold badMN labK frK toK; dsimp only; grind) (by dsimp only; grind) (by unfold rulK; dsimp only; omega)
    | exact migE_r (m := ⟨2, lb, fr, to, v, r⟩) hz (by unfold badMN labK frK toK; dsimp only; grind) (by unfold rulK; dsimp only; omega)
    | (exfalso; grind)
    | (trace_state; fail "migR")
set_option maxHeartbeats 4000000 in
theorem formed_3 {m : GM} (hm : m.ok) (hk : m.k = 3) : PureP (findFn tab) 48 [m.av] (· = .bool (decide (¬ badM m))) := by
  obtain ⟨k, lb, fr, to, v, r⟩ := m
  obtain ⟨g1, g2, g3, g4, g5, g6⟩ := hm
  dsimp only at g1 g2 g3 g4 g5 g6 hk
  subst hk
  refine pureP_of rfl rfl ?_
  (conv => whnf); repeat' (first | (refine callK_of renC_3 ?_; rintro _ rfl; conv => whnf) | (refine callK_of labC_3 ?_; rintro _ rfl; conv => whnf) | (refine callK_of frC_3 ?_; rintro _ rfl; conv => whnf) | (refine callK_of toC_3 ?_; rintro _ rfl; conv => whnf) | (refine callK_of rulC_3 ?_; rintro _ rfl; conv => whnf) | (refine callK_of nullR0 ?_; rintro _ rfl; conv => whnf) | (refine callK_of (orderRN g5) ?_; rintro _ ⟨z, rfl, hz⟩; conv => whnf) | (apply getK_intro (eql_rule r); conv => whnf) | ((with_reducible first | apply kN | apply kW | apply kX | apply kG | apply kQ); (· exact sd); conv => whnf) | (refine pcase.mk ?_ ?_ <;> intro hc <;> (try rw [List.length_nil] at hc) <;> first | (exfalso; omega) | (exact absurd rfl hc) | conv => whnf) | (refine bcase_intro ?_ ?_ <;> intro hc <;> conv => whnf))
  all_goals clear g1 g2 g3 g4 g5 g6
  all_goals first
    | exact bool_t (by unfold badM renK labK frK toK rulK; dsimp only; grind)
    | exact bool_f (by unfold badM renK labK frK toK rulK; dsimp only; grind)
    | exact dec_iff (by unfold badM renK labK frK toK rulK; dsimp only; grind)
    | (exfalso; grind)
    | (trace_state; fail "formed")
set_option maxHeartbeats 4000000 in
theorem migR_3 {m : GM} (hm : m.ok) (hk : m.k = 3) : PureP (findFn tab) 16 [m.av] (· = .int .i64 (migE m)) := by
  have hfo := formed_3 hm hk
  obtain ⟨k, lb, fr, to, v, r⟩ := m
  obtain ⟨g1, g2, g3, g4, g5, g6⟩ := hm
  unfold Ln at g2 g3 g4
  dsimp only at g1 g2 g3 g4 g5 g6 hk
  subst hk
  refine pureP_of rfl rfl ?_
  (conv => whnf); repeat' (first | (refine callB hfo (fun hz => ?_) (fun hz => ?_) <;> conv => whnf) | (refine callK_of labC_3 ?_; rintro _ rfl; conv => whnf) | (refine callK_of frC_3 ?_; rintro _ rfl; conv => whnf) | (refine callK_of toC_3 ?_; rintro _ rfl; conv => whnf) | (refine callK_of rulC_3 ?_; rintro _ rfl; conv => whnf) | (refine callB (plain2 g5) (fun hp => ?_) (fun hp => ?_) <;> conv => whnf) | (refine callK_of (ruleR g6) ?_; rintro _ rfl; conv => whnf) | (refine callB (name2 (s := lb) g2) (fun ha => ?_) (fun ha => ?_) <;> conv => whnf) | (refine callB (name2 (s := fr) g3) (fun he => ?_) (fun he => ?_) <;> conv => whnf) | (refine callB (name2 (s := to) g4) (fun hf => ?_) (fun hf => ?_) <;> conv => whnf) | ((with_reducible first | apply kN | apply kW | apply kX | apply kG | apply kQ); (· exact sd); conv => whnf) | (refine pcase.mk ?_ ?_ <;> intro hc <;> (try rw [List.length_nil] at hc) <;> first | (exfalso; omega) | (exact absurd rfl hc) | conv => whnf) | (refine bcase_intro ?_ ?_ <;> intro hc <;> conv => whnf))
  all_goals clear g1 g2 g3 g4 g5 g6
  all_goals first
    | exact migE_1 (Classical.not_not.1 hz)
    | exact migE_6 hz (by unfold badMN labK frK toK; dsimp only; grind)
    | exact migE_8 hz (by unfold badMN labK frK toK; dsimp only; grind) (by dsimp only; grind)
    | exact migE_0 hz (by unfold badMN labK frK toK; dsimp only; grind) (by dsimp only; grind) (by unfold rulK; dsimp only; omega)
    | exact migE_r (m := ⟨3, lb, fr, to, v, r⟩) hz (by unfold badMN labK frK toK; dsimp only; grind) (by unfold rulK; dsimp only; omega)
    | (exfalso; grind)
    | (trace_state; fail "migR")
set_option maxHeartbeats 4000000 in
theorem formed_4 {m : GM} (hm : m.ok) (hk : m.k = 4) : PureP (findFn tab) 48 [m.av] (· = .bool (decide (¬ badM m))) := by
  obtain ⟨k, lb, fr, to, v, r⟩ := m
  obtain ⟨g1, g2, g3, g4, g5, g6⟩ := hm
  dsimp only at g1 g2 g3 g4 g5 g6 hk
  subst hk
  refine pureP_of rfl rfl ?_
  (conv => whnf); repeat' (first | (refine callK_of renC_4 ?_; rintro _ rfl; conv => whnf) | (refine callK_of labC_4 ?_; rintro _ rfl; conv => whnf) | (refine callK_of frC_4 ?_; rintro _ rfl; conv => whnf) | (refine callK_of toC_4 ?_; rintro _ rfl; conv => whnf) | (refine callK_of rulC_4 ?_; rintro _ rfl; conv => whnf) | (refine callK_of nullR0 ?_; rintro _ rfl; conv => whnf) | (refine callK_of (orderRN g5) ?_; rintro _ ⟨z, rfl, hz⟩; conv => whnf) | (apply getK_intro (eql_rule r); conv => whnf) | ((with_reducible first | apply kN | apply kW | apply kX | apply kG | apply kQ); (· exact sd); conv => whnf) | (refine pcase.mk ?_ ?_ <;> intro hc <;> (try rw [List.length_nil] at hc) <;> first | (exfalso; omega) | (exact absurd rfl hc) | conv => whnf) | (refine bcase_intro ?_ ?_ <;> intro hc <;> conv => whnf))
  all_goals clear g1 g2 g3 g4 g5 g6
  all_goals first
    | exact bool_t (by unfold badM renK labK frK toK rulK; dsimp only; grind)
    | exact bool_f (by unfold badM renK labK frK toK rulK; dsimp only; grind)
    | exact dec_iff (by unfold badM renK labK frK toK rulK; dsimp only; grind)
    | (exfalso; grind)
    | (trace_state; fail "formed")
set_option maxHeartbeats 4000000 in
theorem migR_4 {m : GM} (hm : m.ok) (hk : m.k = 4) : PureP (findFn tab) 16 [m.av] (· = .int .i64 (migE m)) := by
  have hfo := formed_4 hm hk
  obtain ⟨k, lb, fr, to, v, r⟩ := m
  obtain ⟨g1, g2, g3, g4, g5, g6⟩ := hm
  unfold Ln at g2 g3 g4
  dsimp only at g1 g2 g3 g4 g5 g6 hk
  subst hk
  refine pureP_of rfl rfl ?_
  (conv => whnf); repeat' (first | (refine callB hfo (fun hz => ?_) (fun hz => ?_) <;> conv => whnf) | (refine callK_of labC_4 ?_; rintro _ rfl; conv => whnf) | (refine callK_of frC_4 ?_; rintro _ rfl; conv => whnf) | (refine callK_of toC_4 ?_; rintro _ rfl; conv => whnf) | (refine callK_of rulC_4 ?_; rintro _ rfl; conv => whnf) | (refine callB (plain2 g5) (fun hp => ?_) (fun hp => ?_) <;> conv => whnf) | (refine callK_of (ruleR g6) ?_; rintro _ rfl; conv => whnf) | (refine callB (name2 (s := lb) g2) (fun ha => ?_) (fun ha => ?_) <;> conv => whnf) | (refine callB (name2 (s := fr) g3) (fun he => ?_) (fun he => ?_) <;> conv => whnf) | (refine callB (name2 (s := to) g4) (fun hf => ?_) (fun hf => ?_) <;> conv => whnf) | ((with_reducible first | apply kN | apply kW | apply kX | apply kG | apply kQ); (· exact sd); conv => whnf) | (refine pcase.mk ?_ ?_ <;> intro hc <;> (try rw [List.length_nil] at hc) <;> first | (exfalso; omega) | (exact absurd rfl hc) | conv => whnf) | (refine bcase_intro ?_ ?_ <;> intro hc <;> conv => whnf))
  all_goals clear g1 g2 g3 g4 g5 g6
  all_goals first
    | exact migE_1 (Classical.not_not.1 hz)
    | exact migE_6 hz (by unfold badMN labK frK toK; dsimp only; grind)
    | exact migE_8 hz (by unfold badMN labK frK toK; dsimp only; grind) (by dsimp only; grind)
    | exact migE_0 hz (by unfold badMN labK frK toK; dsimp only; grind) (by dsimp only; grind) (by unfold rulK; dsimp only; omega)
    | exact migE_r (m := ⟨4, lb, fr, to, v, r⟩) hz (by unfold badMN labK frK toK; dsimp only; grind) (by unfold rulK; dsimp only; omega)
    | (exfalso; grind)
    | (trace_state; fail "migR")
set_option maxHeartbeats 4000000 in
theorem formed_5 {m : GM} (hm : m.ok) (hk : m.k = 5) : PureP (findFn tab) 48 [m.av] (· = .bool (decide (¬ badM m))) := by
  obtain ⟨k, lb, fr, to, v, r⟩ := m
  obtain ⟨g1, g2, g3, g4, g5, g6⟩ := hm
  dsimp only at g1 g2 g3 g4 g5 g6 hk
  subst hk
  refine pureP_of rfl rfl ?_
  (conv => whnf); repeat' (first | (refine callK_of renC_5 ?_; rintro _ rfl; conv => whnf) | (refine callK_of labC_5 ?_; rintro _ rfl; conv => whnf) | (refine callK_of frC_5 ?_; rintro _ rfl; conv => whnf) | (refine callK_of toC_5 ?_; rintro _ rfl; conv => whnf) | (refine callK_of rulC_5 ?_; rintro _ rfl; conv => whnf) | (refine callK_of nullR0 ?_; rintro _ rfl; conv => whnf) | (refine callK_of (orderRN g5) ?_; rintro _ ⟨z, rfl, hz⟩; conv => whnf) | (apply getK_intro (eql_rule r); conv => whnf) | ((with_reducible first | apply kN | apply kW | apply kX | apply kG | apply kQ); (· exact sd); conv => whnf) | (refine pcase.mk ?_ ?_ <;> intro hc <;> (try rw [List.length_nil] at hc) <;> first | (exfalso; omega) | (exact absurd rfl hc) | conv => whnf) | (refine bcase_intro ?_ ?_ <;> intro hc <;> conv => whnf))
  all_goals clear g1 g2 g3 g4 g5 g6
  all_goals first
    | exact bool_t (by unfold badM renK labK frK toK rulK; dsimp only; grind)
    | exact bool_f (by unfold badM renK labK frK toK rulK; dsimp only; grind)
    | exact dec_iff (by unfold badM renK labK frK toK rulK; dsimp only; grind)
    | (exfalso; grind)
    | (trace_state; fail "formed")
set_option maxHeartbeats 4000000 in
theorem migR_5 {m : GM} (hm : m.ok) (hk : m.k = 5) : PureP (findFn tab) 16 [m.av] (· = .int .i64 (migE m)) := by
  have hfo := formed_5 hm hk
  obtain ⟨k, lb, fr, to, v, r⟩ := m
  obtain ⟨g1, g2, g3, g4, g5, g6⟩ := hm
  unfold Ln at g2 g3 g4
  dsimp only at g1 g2 g3 g4 g5 g6 hk
  subst hk
  refine pureP_of rfl rfl ?_
  (conv => whnf); repeat' (first | (refine callB hfo (fun hz => ?_) (fun hz => ?_) <;> conv => whnf) | (refine callK_of labC_5 ?_; rintro _ rfl; conv => whnf) | (refine callK_of frC_5 ?_; rintro _ rfl; conv => whnf) | (refine callK_of toC_5 ?_; rintro _ rfl; conv => whnf) | (refine callK_of rulC_5 ?_; rintro _ rfl; conv => whnf) | (refine callB (plain2 g5) (fun hp => ?_) (fun hp => ?_) <;> conv => whnf) | (refine callK_of (ruleR g6) ?_; rintro _ rfl; conv => whnf) | (refine callB (name2 (s := lb) g2) (fun ha => ?_) (fun ha => ?_) <;> conv => whnf) | (refine callB (name2 (s := fr) g3) (fun he => ?_) (fun he => ?_) <;> conv => whnf) | (refine callB (name2 (s := to) g4) (fun hf => ?_) (fun hf => ?_) <;> conv => whnf) | ((with_reducible first | apply kN | apply kW | apply kX | apply kG | apply kQ); (· exact sd); conv => whnf) | (refine pcase.mk ?_ ?_ <;> intro hc <;> (try rw [List.length_nil] at hc) <;> first | (exfalso; omega) | (exact absurd rfl hc) | conv => whnf) | (refine bcase_intro ?_ ?_ <;> intro hc <;> conv => whnf))
  all_goals clear g1 g2 g3 g4 g5 g6
  all_goals first
    | exact migE_1 (Classical.not_not.1 hz)
    | exact migE_6 hz (by unfold badMN labK frK toK; dsimp only; grind)
    | exact migE_8 hz (by unfold badMN labK frK toK; dsimp only; grind) (by dsimp only; grind)
    | exact migE_0 hz (by unfold badMN labK frK toK; dsimp only; grind) (by dsimp only; grind) (by unfold rulK; dsimp only; omega)
    | exact migE_r (m := ⟨5, lb, fr, to, v, r⟩) hz (by unfold badMN labK frK toK; dsimp only; grind) (by unfold rulK; dsimp only; omega)
    | (exfalso; grind)
    | (trace_state; fail "migR")
set_option maxHeartbeats 4000000 in
theorem formed_6 {m : GM} (hm : m.ok) (hk : m.k = 6) : PureP (findFn tab) 48 [m.av] (· = .bool (decide (¬ badM m))) := by
  obtain ⟨k, lb, fr, to, v, r⟩ := m
  obtain ⟨g1, g2, g3, g4, g5, g6⟩ := hm
  dsimp only at g1 g2 g3 g4 g5 g6 hk
  subst hk
  refine pureP_of rfl rfl ?_
  (conv => whnf); repeat' (first | (refine callK_of renC_6 ?_; rintro _ rfl; conv => whnf) | (refine callK_of labC_6 ?_; rintro _ rfl; conv => whnf) | (refine callK_of frC_6 ?_; rintro _ rfl; conv => whnf) | (refine callK_of toC_6 ?_; rintro _ rfl; conv => whnf) | (refine callK_of rulC_6 ?_; rintro _ rfl; conv => whnf) | (refine callK_of nullR0 ?_; rintro _ rfl; conv => whnf) | (refine callK_of (orderRN g5) ?_; rintro _ ⟨z, rfl, hz⟩; conv => whnf) | (apply getK_intro (eql_rule r); conv => whnf) | ((with_reducible first | apply kN | apply kW | apply kX | apply kG | apply kQ); (· exact sd); conv => whnf) | (refine pcase.mk ?_ ?_ <;> intro hc <;> (try rw [List.length_nil] at hc) <;> first | (exfalso; omega) | (exact absurd rfl hc) | conv => whnf) | (refine bcase_intro ?_ ?_ <;> intro hc <;> conv => whnf))
  all_goals clear g1 g2 g3 g4 g5 g6
  all_goals first
    | exact bool_t (by unfold badM renK labK frK toK rulK; dsimp only; grind)
    | exact bool_f (by unfold badM renK labK frK toK rulK; dsimp only; grind)
    | exact dec_iff (by unfold badM renK labK frK toK rulK; dsimp only; grind)
    | (exfalso; grind)
    | (trace_state; fail "formed")
set_option maxHeartbeats 4000000 in
theorem migR_6 {m : GM} (hm : m.ok) (hk : m.k = 6) : PureP (findFn tab) 16 [m.av] (· = .int .i64 (migE m)) := by
  have hfo := formed_6 hm hk
  obtain ⟨k, lb, fr, to, v, r⟩ := m
  obtain ⟨g1, g2, g3, g4, g5, g6⟩ := hm
  unfold Ln at g2 g3 g4
  dsimp only at g1 g2 g3 g4 g5 g6 hk
  subst hk
  refine pureP_of rfl rfl ?_
  (conv => whnf); repeat' (first | (refine callB hfo (fun hz => ?_) (fun hz => ?_) <;> conv => whnf) | (refine callK_of labC_6 ?_; rintro _ rfl; conv => whnf) | (refine callK_of frC_6 ?_; rintro _ rfl; conv => whnf) | (refine callK_of toC_6 ?_; rintro _ rfl; conv => whnf) | (refine callK_of rulC_6 ?_; rintro _ rfl; conv => whnf) | (refine callB (plain2 g5) (fun hp => ?_) (fun hp => ?_) <;> conv => whnf) | (refine callK_of (ruleR g6) ?_; rintro _ rfl; conv => whnf) | (refine callB (name2 (s := lb) g2) (fun ha => ?_) (fun ha => ?_) <;> conv => whnf) | (refine callB (name2 (s := fr) g3) (fun he => ?_) (fun he => ?_) <;> conv => whnf) | (refine callB (name2 (s := to) g4) (fun hf => ?_) (fun hf => ?_) <;> conv => whnf) | ((with_reducible first | apply kN | apply kW | apply kX | apply kG | apply kQ); (· exact sd); conv => whnf) | (refine pcase.mk ?_ ?_ <;> intro hc <;> (try rw [List.length_nil] at hc) <;> first | (exfalso; omega) | (exact absurd rfl hc) | conv => whnf) | (refine bcase_intro ?_ ?_ <;> intro hc <;> conv => whnf))
  all_goals clear g1 g2 g3 g4 g5 g6
  all_goals first
    | exact migE_1 (Classical.not_not.1 hz)
    | exact migE_6 hz (by unfold badMN labK frK toK; dsimp only; grind)
    | exact migE_8 hz (by unfold badMN labK frK toK; dsimp only; grind) (by dsimp only; grind)
    | exact migE_0 hz (by unfold badMN labK frK toK; dsimp only; grind) (by dsimp only; grind) (by unfold rulK; dsimp only; omega)
    | exact migE_r (m := ⟨6, lb, fr, to, v, r⟩) hz (by unfold badMN labK frK toK; dsimp only; grind) (by unfold rulK; dsimp only; omega)
    | (exfalso; grind)
    | (trace_state; fail "migR")
set_option maxHeartbeats 4000000 in
theorem formed_7 {m : GM} (hm : m.ok) (hk : m.k = 7) : PureP (findFn tab) 48 [m.av] (· = .bool (decide (¬ badM m))) := by
  obtain ⟨k, lb, fr, to, v, r⟩ := m
  obtain ⟨g1, g2, g3, g4, g5, g6⟩ := hm
  dsimp only at g1 g2 g3 g4 g5 g6 hk
  subst hk
  refine pureP_of rfl rfl ?_
  (conv => whnf); repeat' (first | (refine callK_of renC_7 ?_; rintro _ rfl; conv => whnf) | (refine callK_of labC_7 ?_; rintro _ rfl; conv => whnf) | (refine callK_of frC_7 ?_; rintro _ rfl; conv => whnf) | (refine callK_of toC_7 ?_; rintro _ rfl; conv => whnf) | (refine callK_of rulC_7 ?_; rintro _ rfl; conv => whnf) | (refine callK_of nullR0 ?_; rintro _ rfl; conv => whnf) | (refine callK_of (orderRN g5) ?_; rintro _ ⟨z, rfl, hz⟩; conv => whnf) | (apply getK_intro (eql_rule r); conv => whnf) | ((with_reducible first | apply kN | apply kW | apply kX | apply kG | apply kQ); (· exact sd); conv => whnf) | (refine pcase.mk ?_ ?_ <;> intro hc <;> (try rw [List.length_nil] at hc) <;> first | (exfalso; omega) | (exact absurd rfl hc) | conv => whnf) | (refine bcase_intro ?_ ?_ <;> intro hc <;> conv => whnf))
  all_goals clear g1 g2 g3 g4 g5 g6
  all_goals first
    | exact bool_t (by unfold badM renK labK frK toK rulK; dsimp only; grind)
    | exact bool_f (by unfold badM renK labK frK toK rulK; dsimp only; grind)
    | exact dec_iff (by unfold badM renK labK frK toK rulK; dsimp only; grind)
    | (exfalso; grind)
    | (trace_state; fail "formed")
set_option maxHeartbeats 4000000 in
theorem migR_7 {m : GM} (hm : m.ok) (hk : m.k = 7) : PureP (findFn tab) 16 [m.av] (· = .int .i64 (migE m)) := by
  have hfo := formed_7 hm hk
  obtain ⟨k, lb, fr, to, v, r⟩ := m
  obtain ⟨g1, g2, g3, g4, g5, g6⟩ := hm
  unfold Ln at g2 g3 g4
  dsimp only at g1 g2 g3 g4 g5 g6 hk
  subst hk
  refine pureP_of rfl rfl ?_
  (conv => whnf); repeat' (first | (refine callB hfo (fun hz => ?_) (fun hz => ?_) <;> conv => whnf) | (refine callK_of labC_7 ?_; rintro _ rfl; conv => whnf) | (refine callK_of frC_7 ?_; rintro _ rfl; conv => whnf) | (refine callK_of toC_7 ?_; rintro _ rfl; conv => whnf) | (refine callK_of rulC_7 ?_; rintro _ rfl; conv => whnf) | (refine callB (plain2 g5) (fun hp => ?_) (fun hp => ?_) <;> conv => whnf) | (refine callK_of (ruleR g6) ?_; rintro _ rfl; conv => whnf) | (refine callB (name2 (s := lb) g2) (fun ha => ?_) (fun ha => ?_) <;> conv => whnf) | (refine callB (name2 (s := fr) g3) (fun he => ?_) (fun he => ?_) <;> conv => whnf) | (refine callB (name2 (s := to) g4) (fun hf => ?_) (fun hf => ?_) <;> conv => whnf) | ((with_reducible first | apply kN | apply kW | apply kX | apply kG | apply kQ); (· exact sd); conv => whnf) | (refine pcase.mk ?_ ?_ <;> intro hc <;> (try rw [List.length_nil] at hc) <;> first | (exfalso; omega) | (exact absurd rfl hc) | conv => whnf) | (refine bcase_intro ?_ ?_ <;> intro hc <;> conv => whnf))
  all_goals clear g1 g2 g3 g4 g5 g6
  all_goals first
    | exact migE_1 (Classical.not_not.1 hz)
    | exact migE_6 hz (by unfold badMN labK frK toK; dsimp only; grind)
    | exact migE_8 hz (by unfold badMN labK frK toK; dsimp only; grind) (by dsimp only; grind)
    | exact migE_0 hz (by unfold badMN labK frK toK; dsimp only; grind) (by dsimp only; grind) (by unfold rulK; dsimp only; omega)
    | exact migE_r (m := ⟨7, lb, fr, to, v, r⟩) hz (by unfold badMN labK frK toK; dsimp only; grind) (by unfold rulK; dsimp only; omega)
    | (exfalso; grind)
    | (trace_state; fail "migR")
theorem migR {m : GM} (hr : m.ok) : PureP (findFn tab) 16 [m.av] (· = .int .i64 (migE m)) := by
  by_cases hk : 1 ≤ m.k ∧ m.k ≤ 7
  case neg => exact migR_n hr hk
  have h : m.k = 1 ∨ m.k = 2 ∨ m.k = 3 ∨ m.k = 4 ∨ m.k = 5 ∨ m.k = 6 ∨ m.k = 7 := by omega
  rcases h with h | h | h | h | h | h | h
  · exact migR_1 hr h
  · exact migR_2 hr h
  · exact migR_3 hr h
  · exact migR_4 hr h
  · exact migR_5 hr h
  · exact migR_6 hr h
  · exact migR_7 hr h

end AI
end Go.Proofs.YtdlkcancogpafaaGreatDoor
