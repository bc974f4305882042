/- The arguments of the laws about migrations, taken apart: rules, migrations. What is wrong with a rule: the program's and the reference's Check. -/
import Derived.Test.YtdlkcancogpafaaGreatDoorMT
import Derived.Test.YtdlkcancogpafaaGreatDoorMN
set_option linter.unusedVariables false
set_option maxRecDepth 4000
namespace Go.Proofs.YtdlkcancogpafaaGreatDoor
namespace AI

/-- a rule -/
structure GR where
  k : Int
  n : Int
  name : List UInt8
  key : List UInt8
  fr : List UInt8
  to : List UInt8
def GR.av (r : GR) : AV := .agg [.int .i64 r.k, .int .i64 r.n, .str r.name, .str r.key, .str r.fr, .str r.to]
def GR.ok (r : GR) : Prop := I64 r.k ∧ I64 r.n ∧ Ln r.name ∧ Ln r.key ∧ Ln r.fr ∧ Ln r.to
/-- a migration -/
structure GM where
  k : Int
  label : List UInt8
  fr : List UInt8
  to : List UInt8
  v : GV
  r : GR
def GM.av (m : GM) : AV := .agg [.int .i64 m.k, .str m.label, .str m.fr, .str m.to, .int .i64 m.v.k, .int .i64 m.v.n, .int .i64 m.v.d, .str m.v.s, .sl m.v.nn m.v.l, .int .i64 m.r.k, .int .i64 m.r.n, .str m.r.name, .str m.r.key, .str m.r.fr, .str m.r.to]
def GM.ok (m : GM) : Prop := I64 m.k ∧ Ln m.label ∧ Ln m.fr ∧ Ln m.to ∧ m.v.ok ∧ m.r.ok

theorem c_rule : Tryz.prog.cellsOf 27 = 6 := by kernel_rfl
theorem c_migration : Tryz.prog.cellsOf 29 = 15 := by kernel_rfl

theorem len_succ {l : List AV} {n : Nat} (h : l.length = n + 1) : ∃ a r, l = a :: r ∧ r.length = n := by
  cases l with
  | nil => simp at h
  | cons a r => exact ⟨a, r, rfl, by simpa using h⟩

theorem likeC_rule {d : Nat} {cs : List AV} (h : likeC Tryz.prog d 27 cs) : ∃ r : GR, cs = [.int .i64 r.k, .int .i64 r.n, .str r.name, .str r.key, .str r.fr, .str r.to] ∧ r.ok := by
  obtain ⟨d', rfl, g1, g2⟩ := likeC_struct Tryz.underlying27 h
  rw [c_rule] at g1
  obtain ⟨a, b, c, e, f, g, rfl⟩ := len6 g1
  clear g1
  simp only [List.forall_mem_cons] at g2
  obtain ⟨f1, f2, f3, f4, f5, f6, _⟩ := g2
  simp only [c_int, c_string, List.drop_zero, List.drop_succ_cons, List.take_succ_cons, List.take_zero] at f1 f2 f3 f4 f5 f6
  obtain ⟨k, e1, h1⟩ := likeC_i f1
  obtain ⟨n, e2, h2⟩ := likeC_i f2
  obtain ⟨s3, e3, h3⟩ := likeC_s f3
  obtain ⟨s4, e4, h4⟩ := likeC_s f4
  obtain ⟨s5, e5, h5⟩ := likeC_s f5
  obtain ⟨s6, e6, h6⟩ := likeC_s f6
  cases e1; cases e2; cases e3; cases e4; cases e5; cases e6
  exact ⟨⟨k, n, s3, s4, s5, s6⟩, rfl, h1, h2, h3, h4, h5, h6⟩

theorem like_migration {a : AV} (h : Like Tryz.prog 29 a) : ∃ m : GM, a = m.av ∧ m.ok := by
  obtain ⟨d, h⟩ := h
  obtain ⟨cs, rfl, h0⟩ := like_struct Tryz.underlying29 h
  obtain ⟨d', rfl, g1, g2⟩ := likeC_struct Tryz.underlying29 h0
  rw [c_migration] at g1
  obtain ⟨a1, r1, rfl, q1⟩ := len_succ g1
  obtain ⟨a2, r2, rfl, q2⟩ := len_succ q1
  obtain ⟨a3, r3, rfl, q3⟩ := len_succ q2
  obtain ⟨a4, r4, rfl, q4⟩ := len_succ q3
  obtain ⟨a5, r5, rfl, q5⟩ := len_succ q4
  obtain ⟨a6, r6, rfl, q6⟩ := len_succ q5
  obtain ⟨a7, r7, rfl, q7⟩ := len_succ q6
  obtain ⟨a8, r8, rfl, q8⟩ := len_succ q7
  obtain ⟨a9, r9, rfl, q9⟩ := len_succ q8
  obtain ⟨b1, b2, b3, b4, b5, b6, rfl⟩ := len6 q9
  clear g1 q1 q2 q3 q4 q5 q6 q7 q8 q9
  simp only [List.forall_mem_cons] at g2
  obtain ⟨f1, f2, f3, f4, f5, f6, _⟩ := g2
  simp only [c_int, c_string, c_value, c_rule, List.drop_zero, List.drop_succ_cons, List.take_succ_cons, List.take_zero] at f1 f2 f3 f4 f5 f6
  obtain ⟨k, e1, h1⟩ := likeC_i f1
  obtain ⟨s2, e2, h2⟩ := likeC_s f2
  obtain ⟨s3, e3, h3⟩ := likeC_s f3
  obtain ⟨s4, e4, h4⟩ := likeC_s f4
  obtain ⟨v, e5, h5⟩ := likeC_value f5
  obtain ⟨r, e6, h6⟩ := likeC_rule f6
  cases e1; cases e2; cases e3; cases e4; cases e5; cases e6
  exact ⟨⟨k, s2, s3, s4, v, r⟩, rfl, h1, h2, h3, h4, h5, h6⟩

end AI
end Go.Proofs.YtdlkcancogpafaaGreatDoor
set_option linter.unusedVariables false
namespace Go.Proofs.YtdlkcancogpafaaGreatDoor
namespace AI

theorem name3 {s : List UInt8} (hl : s.length < 2^63) : PureP (findFn tab) 101 [.str s] (· = .bool (decide (isName s))) := by
  by_cases h0 : s.length = 0
  · obtain rfl : s = [] := List.length_eq_zero_iff.1 h0
    refine pureP_of rfl rfl ?_
    (conv => whnf); repeat' (first  | ((with_reducible first | apply kN | apply kW | apply kX | apply kG | apply kQ); (· exact sd); conv => whnf) | (refine pcase.mk ?_ ?_ <;> intro hc <;> (try rw [List.length_nil] at hc) <;> first | (exfalso; omega) | (exact absurd rfl hc) | conv => whnf) | (refine bcase_intro ?_ ?_ <;> intro hc <;> conv => whnf))
    all_goals exact bool_f (by simp [isName])
  have hs : 0 < s.length := by omega
  have hz : s[0]? = some s[0] := List.getElem?_eq_getElem hs
  refine pureP_of rfl rfl ?_
  (conv => whnf); repeat' (first  | ((with_reducible first | apply kN | apply kW | apply kX | apply kG | apply kQ); (· exact sd); conv => whnf) | (refine pcase.mk ?_ ?_ <;> intro hc <;> (try rw [List.length_nil] at hc) <;> first | (exfalso; omega) | (exact absurd rfl hc) | conv => whnf) | (refine bcase_intro ?_ ?_ <;> intro hc <;> conv => whnf))
  all_goals first | exact bool_f (by unfold isName; omega) | skip
  refine loop_inv (fun m env s' => ∃ i : Nat, m = s.length - i ∧ env = [(0, .str s), (3, .int .i64 i)] ∧ s' = ⟨[], 0⟩ ∧ (∀ c ∈ s.take i, inName c.toNat) ∧ (0 < i → isLetter s[0].toNat)) ?_ _ _ _ ⟨0, rfl, rfl, rfl, by simp, by simp⟩
  rintro _ _ _ ⟨i, rfl, rfl, rfl, hx, hy⟩
  refine ⟨rfl, ?_⟩
  (conv => whnf); repeat' (first  | ((with_reducible first | apply kN | apply kW | apply kX | apply kG | apply kQ); (· exact sd); conv => whnf) | (refine pcase.mk ?_ ?_ <;> intro hc <;> (try rw [List.length_nil] at hc) <;> first | (exfalso; omega) | (exact absurd rfl hc) | conv => whnf) | (refine bcase_intro ?_ ?_ <;> intro hc <;> conv => whnf))
  all_goals first
    | exact again.mk ⟨_, by omega, i + 1, rfl, rfl, rfl, all_take_succ (by omega) hx (by unfold inName isLetter; omega), fun _ => by
        rcases Nat.eq_zero_or_pos i with h | h
        · subst h; unfold isLetter; omega
        · exact hy h⟩
    | (refine bool_f fun h => ?_
       have h1 := isName_at (i := i) (by omega) h
       unfold inName isLetter at *; omega)
    | (refine bool_f fun h => ?_
       obtain rfl : i = 0 := by omega
       have h1 := isName_letter hs h
       unfold isLetter at *; omega)
    | exact bool_t ⟨hs, by omega, fun c h => by rw [hz] at h; cases h; exact hy (by omega), by rw [take_all hc] at hx; exact hx⟩
    | (trace_state; fail "name3")

/-- the number of a rule fits its kind -/
def numR (r : GR) : Prop := if r.k = 3 ∨ r.k = 5 then r.n = 1 ∨ r.n = 2 ∨ r.n = 4 else if r.k = 7 then 0 ≤ r.n ∧ r.n ≤ 4000 else r.n = 0
instance (r : GR) : Decidable (numR r) := by unfold numR; infer_instance
def badR (r : GR) : Prop := ¬ (1 ≤ r.k ∧ r.k ≤ 7) ∨ ¬ numR r ∨ (¬ (1 ≤ r.k ∧ r.k ≤ 5) ∧ r.key ≠ []) ∨ (r.k ≠ 6 ∧ (r.fr ≠ [] ∨ r.to ≠ []))
def badRN (r : GR) : Prop := ¬ isName r.name ∨ ((1 ≤ r.k ∧ r.k ≤ 5) ∧ ¬ isName r.key) ∨ (r.fr ≠ [] ∧ ¬ isName r.fr) ∨ (r.to ≠ [] ∧ ¬ isName r.to)
instance (r : GR) : Decidable (badR r) := by unfold badR; infer_instance
instance (r : GR) : Decidable (badRN r) := by unfold badRN; infer_instance
/-- what is wrong with a rule -/
def ruleE (r : GR) : Int := if badR r then 1 else if badRN r then 6 else 0
theorem ruleE_1 {r : GR} (h : badR r) : AV.int .i64 1 = AV.int .i64 (ruleE r) := by rw [ruleE, if_pos h]
theorem ruleE_6 {r : GR} (h : ¬ badR r) (h1 : badRN r) : AV.int .i64 6 = AV.int .i64 (ruleE r) := by rw [ruleE, if_neg h, if_pos h1]
theorem ruleE_0 {r : GR} (h : ¬ badR r) (h1 : ¬ badRN r) : AV.int .i64 0 = AV.int .i64 (ruleE r) := by rw [ruleE, if_neg h, if_neg h1]

theorem numberP {r : GR} : PureP (findFn tab) 99 [r.av] (· = .bool (decide (numR r))) := by
  refine pureP_of rfl rfl ?_
  (conv => whnf); repeat' (first  | ((with_reducible first | apply kN | apply kW | apply kX | apply kG | apply kQ); (· exact sd); conv => whnf) | (refine pcase.mk ?_ ?_ <;> intro hc <;> (try rw [List.length_nil] at hc) <;> first | (exfalso; omega) | (exact absurd rfl hc) | conv => whnf) | (refine bcase_intro ?_ ?_ <;> intro hc <;> conv => whnf))
  all_goals first
    | exact bool_t (by unfold numR; split <;> (try split) <;> omega)
    | exact bool_f (by unfold numR; split <;> (try split) <;> omega)
    | (trace_state; fail "numberP")

theorem keyedP {k : Int} : PureP (findFn tab) 100 [.int .i64 k] (· = .bool (decide (1 ≤ k ∧ k ≤ 5))) := by
  refine pureP_of rfl rfl ?_
  (conv => whnf); repeat' (first  | ((with_reducible first | apply kN | apply kW | apply kX | apply kG | apply kQ); (· exact sd); conv => whnf) | (refine pcase.mk ?_ ?_ <;> intro hc <;> (try rw [List.length_nil] at hc) <;> first | (exfalso; omega) | (exact absurd rfl hc) | conv => whnf) | (refine bcase_intro ?_ ?_ <;> intro hc <;> conv => whnf))
  all_goals first
    | exact bool_t (by omega)
    | exact bool_f (by omega)
    | (trace_state; fail "keyedP")

/-- the fields that a kind of rule uses -/
theorem fldR_1 : PureP (findFn tab) 93 [.int .i64 1] (· = .tup [.agg [.bool true, .bool false, .bool false], .bool true]) := ⟨_, ⟨20, by kernel_rfl⟩, rfl⟩
theorem fldR_2 : PureP (findFn tab) 93 [.int .i64 2] (· = .tup [.agg [.bool true, .bool false, .bool false], .bool true]) := ⟨_, ⟨20, by kernel_rfl⟩, rfl⟩
theorem fldR_3 : PureP (findFn tab) 93 [.int .i64 3] (· = .tup [.agg [.bool true, .bool true, .bool false], .bool true]) := ⟨_, ⟨20, by kernel_rfl⟩, rfl⟩
theorem fldR_4 : PureP (findFn tab) 93 [.int .i64 4] (· = .tup [.agg [.bool true, .bool false, .bool false], .bool true]) := ⟨_, ⟨20, by kernel_rfl⟩, rfl⟩
theorem fldR_5 : PureP (findFn tab) 93 [.int .i64 5] (· = .tup [.agg [.bool true, .bool true, .bool false], .bool true]) := ⟨_, ⟨20, by kernel_rfl⟩, rfl⟩
theorem fldR_6 : PureP (findFn tab) 93 [.int .i64 6] (· = .tup [.agg [.bool false, .bool false, .bool true], .bool true]) := ⟨_, ⟨20, by kernel_rfl⟩, rfl⟩
theorem fldR_7 : PureP (findFn tab) 93 [.int .i64 7] (· = .tup [.agg [.bool false, .bool true, .bool false], .bool true]) := ⟨_, ⟨20, by kernel_rfl⟩, rfl⟩
theorem fldR_n {k : Int} (h : ¬ (1 ≤ k ∧ k ≤ 7)) : PureP (findFn tab) 93 [.int .i64 k] (· = .tup [.agg [.bool false, .bool false, .bool false], .bool false]) := by
  refine pureP_of rfl rfl ?_
  (conv => whnf); repeat' (first  | ((with_reducible first | apply kN | apply kW | apply kX | apply kG | apply kQ); (· exact sd); conv => whnf) | (refine pcase.mk ?_ ?_ <;> intro hc <;> (try rw [List.length_nil] at hc) <;> first | (exfalso; omega) | (exact absurd rfl hc) | conv => whnf) | (refine bcase_intro ?_ ?_ <;> intro hc <;> conv => whnf))
  all_goals first | rfl | (exfalso; omega) | (trace_state; fail "fldR_n")

theorem kindTx {n : Int} : PureP (findFn tab) 94 [.int .i64 n] (fun v => ∃ s, v = .str s ∧ (s = [] ↔ ¬ (n = 1 ∨ n = 2 ∨ n = 4))) := by
  refine pureP_of rfl rfl ?_
  (conv => whnf); repeat' (first  | ((with_reducible first | apply kN | apply kW | apply kX | apply kG | apply kQ); (· exact sd); conv => whnf) | (refine pcase.mk ?_ ?_ <;> intro hc <;> (try rw [List.length_nil] at hc) <;> first | (exfalso; omega) | (exact absurd rfl hc) | conv => whnf) | (refine bcase_intro ?_ ?_ <;> intro hc <;> conv => whnf))
  all_goals first | exact ⟨_, rfl, by simp; omega⟩ | exact ⟨_, rfl, by simp [*]⟩ | (trace_state; fail "kindTx")

theorem ruleP_n {r : GR} (hr : r.ok) (hk : ¬ (1 ≤ r.k ∧ r.k ≤ 7)) : PureP (findFn tab) 47 [r.av] (· = .int .i64 (ruleE r)) := by
  refine pureP_of rfl rfl ?_
  (conv => whnf); repeat' (first | (refine callK_of (fldR_n hk) ?_; rintro _ rfl; conv => whnf) | ((with_reducible first | apply kN | apply kW | apply kX | apply kG | apply kQ); (· exact sd); conv => whnf) | (refine pcase.mk ?_ ?_ <;> intro hc <;> (try rw [List.length_nil] at hc) <;> first | (exfalso; omega) | (exact absurd rfl hc) | conv => whnf) | (refine bcase_intro ?_ ?_ <;> intro hc <;> conv => whnf))
  all_goals exact ruleE_1 (.inl hk)
set_option maxHeartbeats 2000000 in
theorem ruleP_1 {r : GR} (hr : r.ok) (hk : r.k = 1) : PureP (findFn tab) 47 [r.av] (· = .int .i64 (ruleE r)) := by
  obtain ⟨k, n, nm, key, fr, to⟩ := r
  obtain ⟨g1, g2, g3, g4, g5, g6⟩ := hr
  unfold Ln at g3 g4 g5 g6
  dsimp only at g1 g2 g3 g4 g5 g6 hk
  subst hk
  refine pureP_of rfl rfl ?_
  (conv => whnf); repeat' (first | (refine callK_of fldR_1 ?_; rintro _ rfl; conv => whnf) | (refine callK_of kindTx ?_; rintro _ ⟨s, rfl, hs⟩; conv => whnf) | (refine callB (name1 (s := nm) g3) (fun ha => ?_) (fun ha => ?_) <;> conv => whnf) | (refine callB (name1 (s := key) g4) (fun hd => ?_) (fun hd => ?_) <;> conv => whnf) | (refine callB (name1 (s := fr) g5) (fun he => ?_) (fun he => ?_) <;> conv => whnf) | (refine callB (name1 (s := to) g6) (fun hf => ?_) (fun hf => ?_) <;> conv => whnf) | ((with_reducible first | apply kN | apply kW | apply kX | apply kG | apply kQ); (· exact sd); conv => whnf) | (refine pcase.mk ?_ ?_ <;> intro hc <;> (try rw [List.length_nil] at hc) <;> first | (exfalso; omega) | (exact absurd rfl hc) | conv => whnf) | (refine bcase_intro ?_ ?_ <;> intro hc <;> conv => whnf))
  all_goals clear g1 g2 g3 g4 g5 g6
  all_goals first
    | exact ruleE_1 (by unfold badR numR; dsimp only; grind)
    | exact ruleE_6 (by unfold badR numR; dsimp only; grind) (by unfold badRN; dsimp only; grind)
    | exact ruleE_0 (by unfold badR numR; dsimp only; grind) (by unfold badRN; dsimp only; grind)
    | (exfalso; grind)
    | (trace_state; fail "ruleP")
set_option maxHeartbeats 2000000 in
theorem ruleP_2 {r : GR} (hr : r.ok) (hk : r.k = 2) : PureP (findFn tab) 47 [r.av] (· = .int .i64 (ruleE r)) := by
  obtain ⟨k, n, nm, key, fr, to⟩ := r
  obtain ⟨g1, g2, g3, g4, g5, g6⟩ := hr
  unfold Ln at g3 g4 g5 g6
  dsimp only at g1 g2 g3 g4 g5 g6 hk
  subst hk
  refine pureP_of rfl rfl ?_
  (conv => whnf); repeat' (first | (refine callK_of fldR_2 ?_; rintro _ rfl; conv => whnf) | (refine callK_of kindTx ?_; rintro _ ⟨s, rfl, hs⟩; conv => whnf) | (refine callB (name1 (s := nm) g3) (fun ha => ?_) (fun ha => ?_) <;> conv => whnf) | (refine callB (name1 (s := key) g4) (fun hd => ?_) (fun hd => ?_) <;> conv => whnf) | (refine callB (name1 (s := fr) g5) (fun he => ?_) (fun he => ?_) <;> conv => whnf) | (refine callB (name1 (s := to) g6) (fun hf => ?_) (fun hf => ?_) <;> conv => whnf) | ((with_reducible first | apply kN | apply kW | apply kX | apply kG | apply kQ); (· exact sd); conv => whnf) | (refine pcase.mk ?_ ?_ <;> intro hc <;> (try rw [List.length_nil] at hc) <;> first | (exfalso; omega) | (exact absurd rfl hc) | conv => whnf) | (refine bcase_intro ?_ ?_ <;> intro hc <;> conv => whnf))
  all_goals clear g1 g2 g3 g4 g5 g6
  all_goals first
    | exact ruleE_1 (by unfold badR numR; dsimp only; grind)
    | exact ruleE_6 (by unfold badR numR; dsimp only; grind) (by unfold badRN; dsimp only; grind)
    | exact ruleE_0 (by unfold badR numR; dsimp only; grind) (by unfold badRN; dsimp only; grind)
    | (exfalso; grind)
    | (trace_state; fail "ruleP")
set_option maxHeartbeats 2000000 in
theorem ruleP_3 {r : GR} (hr : r.ok) (hk : r.k = 3) : PureP (findFn tab) 47 [r.av] (· = .int .i64 (ruleE r)) := by
  obtain ⟨k, n, nm, key, fr, to⟩ := r
  obtain ⟨g1, g2, g3, g4, g5, g6⟩ := hr
  unfold Ln at g3 g4 g5 g6
  dsimp only at g1 g2 g3 g4 g5 g6 hk
  subst hk
  refine pureP_of rfl rfl ?_
  (conv => whnf); repeat' (first | (refine callK_of fldR_3 ?_; rintro _ rfl; conv => whnf) | (refine callK_of kindTx ?_; rintro _ ⟨s, rfl, hs⟩; conv => whnf) | (refine callB (name1 (s := nm) g3) (fun ha => ?_) (fun ha => ?_) <;> conv => whnf) | (refine callB (name1 (s := key) g4) (fun hd => ?_) (fun hd => ?_) <;> conv => whnf) | (refine callB (name1 (s := fr) g5) (fun he => ?_) (fun he => ?_) <;> conv => whnf) | (refine callB (name1 (s := to) g6) (fun hf => ?_) (fun hf => ?_) <;> conv => whnf) | ((with_reducible first | apply kN | apply kW | apply kX | apply kG | apply kQ); (· exact sd); conv => whnf) | (refine pcase.mk ?_ ?_ <;> intro hc <;> (try rw [List.length_nil] at hc) <;> first | (exfalso; omega) | (exact absurd rfl hc) | conv => whnf) | (refine bcase_intro ?_ ?_ <;> intro hc <;> conv => whnf))
  all_goals clear g1 g2 g3 g4 g5 g6
  all_goals first
    | exact ruleE_1 (by unfold badR numR; dsimp only; grind)
    | exact ruleE_6 (by unfold badR numR; dsimp only; grind) (by unfold badRN; dsimp only; grind)
    | exact ruleE_0 (by unfold badR numR; dsimp only; grind) (by unfold badRN; dsimp only; grind)
    | (exfalso; grind)
    | (trace_state; fail "ruleP")
set_option maxHeartbeats 2000000 in
theorem ruleP_4 {r : GR} (hr : r.ok) (hk : r.k = 4) : PureP (findFn tab) 47 [r.av] (· = .int .i64 (ruleE r)) := by
  obtain ⟨k, n, nm, key, fr, to⟩ := r
  obtain ⟨g1, g2, g3, g4, g5, g6⟩ := hr
  unfold Ln at g3 g4 g5 g6
  dsimp only at g1 g2 g3 g4 g5 g6 hk
  subst hk
  refine pureP_of rfl rfl ?_
  (conv => whnf); repeat' (first | (refine callK_of fldR_4 ?_; rintro _ rfl; conv => whnf) | (refine callK_of kindTx ?_; rintro _ ⟨s, rfl, hs⟩; conv => whnf) | (refine callB (name1 (s := nm) g3) (fun ha => ?_) (fun ha => ?_) <;> conv => whnf) | (refine callB (name1 (s := key) g4) (fun hd => ?_) (fun hd => ?_) <;> conv => whnf) | (refine callB (name1 (s := fr) g5) (fun he => ?_) (fun he => ?_) <;> conv => whnf) | (refine callB (name1 (s := to) g6) (fun hf => ?_) (fun hf => ?_) <;> conv => whnf) | ((with_reducible first | apply kN | apply kW | apply kX | apply kG | apply kQ); (· exact sd); conv => whnf) | (refine pcase.mk ?_ ?_ <;> intro hc <;> (try rw [List.length_nil] at hc) <;> first | (exfalso; omega) | (exact absurd rfl hc) | conv => whnf) | (refine bcase_intro ?_ ?_ <;> intro hc <;> conv => whnf))
  all_goals clear g1 g2 g3 g4 g5 g6
  all_goals first
    | exact ruleE_1 (by unfold badR numR; dsimp only; grind)
    | exact ruleE_6 (by unfold badR numR; dsimp only; grind) (by unfold badRN; dsimp only; grind)
    | exact ruleE_0 (by unfold badR numR; dsimp only; grind) (by unfold badRN; dsimp only; grind)
    | (exfalso; grind)
    | (trace_state; fail "ruleP")
set_option maxHeartbeats 2000000 in
theorem ruleP_5 {r : GR} (hr : r.ok) (hk : r.k = 5) : PureP (findFn tab) 47 [r.av] (· = .int .i64 (ruleE r)) := by
  obtain ⟨k, n, nm, key, fr, to⟩ := r
  obtain ⟨g1, g2, g3, g4, g5, g6⟩ := hr
  unfold Ln at g3 g4 g5 g6
  dsimp only at g1 g2 g3 g4 g5 g6 hk
  subst hk
  refine pureP_of rfl rfl ?_
  (conv => whnf); repeat' (first | (refine callK_of fldR_5 ?_; rintro _ rfl; conv => whnf) | (refine callK_of kindTx ?_; rintro _ ⟨s, rfl, hs⟩; conv => whnf) | (refine callB (name1 (s := nm) g3) (fun ha => ?_) (fun ha => ?_) <;> conv => whnf) | (refine callB (name1 (s := key) g4) (fun hd => ?_) (fun hd => ?_) <;> conv => whnf) | (refine callB (name1 (s := fr) g5) (fun he => ?_) (fun he => ?_) <;> conv => whnf) | (refine callB (name1 (s := to) g6) (fun hf => ?_) (fun hf => ?_) <;> conv => whnf) | ((with_reducible first | apply kN | apply kW | apply kX | apply kG | apply kQ); (· exact sd); conv => whnf) | (refine pcase.mk ?_ ?_ <;> intro hc <;> (try rw [List.length_nil] at hc) <;> first | (exfalso; omega) | (exact absurd rfl hc) | conv => whnf) | (refine bcase_intro ?_ ?_ <;> intro hc <;> conv => whnf))
  all_goals clear g1 g2 g3 g4 g5 g6
  all_goals first
    | exact ruleE_1 (by unfold badR numR; dsimp only; grind)
    | exact ruleE_6 (by unfold badR numR; dsimp only; grind) (by unfold badRN; dsimp only; grind)
    | exact ruleE_0 (by unfold badR numR; dsimp only; grind) (by unfold badRN; dsimp only; grind)
    | (exfalso; grind)
    | (trace_state; fail "ruleP")
set_option maxHeartbeats 2000000 in
theorem ruleP_6 {r : GR} (hr : r.ok) (hk : r.k = 6) : PureP (findFn tab) 47 [r.av] (· = .int .i64 (ruleE r)) := by
  obtain ⟨k, n, nm, key, fr, to⟩ := r
  obtain ⟨g1, g2, g3, g4, g5, g6⟩ := hr
  unfold Ln at g3 g4 g5 g6
  dsimp only at g1 g2 g3 g4 g5 g6 hk
  subst hk
  refine pureP_of rfl rfl ?_
  (conv => whnf); repeat' (first | (refine callK_of fldR_6 ?_; rintro _ rfl; conv => whnf) | (refine callK_of kindTx ?_; rintro _ ⟨s, rfl, hs⟩; conv => whnf) | (refine callB (name1 (s := nm) g3) (fun ha => ?_) (fun ha => ?_) <;> conv => whnf) | (refine callB (name1 (s := key) g4) (fun hd => ?_) (fun hd => ?_) <;> conv => whnf) | (refine callB (name1 (s := fr) g5) (fun he => ?_) (fun he => ?_) <;> conv => whnf) | (refine callB (name1 (s := to) g6) (fun hf => ?_) (fun hf => ?_) <;> conv => whnf) | ((with_reducible first | apply kN | apply kW | apply kX | apply kG | apply kQ); (· exact sd); conv => whnf) | (refine pcase.mk ?_ ?_ <;> intro hc <;> (try rw [List.length_nil] at hc) <;> first | (exfalso; omega) | (exact absurd rfl hc) | conv => whnf) | (refine bcase_intro ?_ ?_ <;> intro hc <;> conv => whnf))
  all_goals clear g1 g2 g3 g4 g5 g6
  all_goals first
    | exact ruleE_1 (by unfold badR numR; dsimp only; grind)
    | exact ruleE_6 (by unfold badR numR; dsimp only; grind) (by unfold badRN; dsimp only; grind)
    | exact ruleE_0 (by unfold badR numR; dsimp only; grind) (by unfold badRN; dsimp only; grind)
    | (exfalso; grind)
    | (trace_state; fail "ruleP")
set_option maxHeartbeats 2000000 in
theorem ruleP_7 {r : GR} (hr : r.ok) (hk : r.k = 7) : PureP (findFn tab) 47 [r.av] (· = .int .i64 (ruleE r)) := by
  obtain ⟨k, n, nm, key, fr, to⟩ := r
  obtain ⟨g1, g2, g3, g4, g5, g6⟩ := hr
  unfold Ln at g3 g4 g5 g6
  dsimp only at g1 g2 g3 g4 g5 g6 hk
  subst hk
  refine pureP_of rfl rfl ?_
  (conv => whnf); repeat' (first | (refine callK_of fldR_7 ?_; rintro _ rfl; conv => whnf) | (refine callK_of kindTx ?_; rintro _ ⟨s, rfl, hs⟩; conv => whnf) | (refine callB (name1 (s := nm) g3) (fun ha => ?_) (fun ha => ?_) <;> conv => whnf) | (refine callB (name1 (s := key) g4) (fun hd => ?_) (fun hd => ?_) <;> conv => whnf) | (refine callB (name1 (s := fr) g5) (fun he => ?_) (fun he => ?_) <;> conv => whnf) | (refine callB (name1 (s := to) g6) (fun hf => ?_) (fun hf => ?_) <;> conv => whnf) | ((with_reducible first | apply kN | apply kW | apply kX | apply kG | apply kQ); (· exact sd); conv => whnf) | (refine pcase.mk ?_ ?_ <;> intro hc <;> (try rw [List.length_nil] at hc) <;> first | (exfalso; omega) | (exact absurd rfl hc) | conv => whnf) | (refine bcase_intro ?_ ?_ <;> intro hc <;> conv => whnf))
  all_goals clear g1 g2 g3 g4 g5 g6
  all_goals first
    | exact ruleE_1 (by unfold badR numR; dsimp only; grind)
    | exact ruleE_6 (by unfold badR numR; dsimp only; grind) (by unfold badRN; dsimp only; grind)
    | exact ruleE_0 (by unfold badR numR; dsimp only; grind) (by unfold badRN; dsimp only; grind)
    | (exfalso; grind)
    | (trace_state; fail "ruleP")
theorem ruleP {r : GR} (hr : r.ok) : PureP (findFn tab) 47 [r.av] (· = .int .i64 (ruleE r)) := by
  by_cases hk : 1 ≤ r.k ∧ r.k ≤ 7
  case neg => exact ruleP_n hr hk
  have h : r.k = 1 ∨ r.k = 2 ∨ r.k = 3 ∨ r.k = 4 ∨ r.k = 5 ∨ r.k = 6 ∨ r.k = 7 := by omega
  rcases h with h | h | h | h | h | h | h
  · exact ruleP_1 hr h
  · exact ruleP_2 hr h
  · exact ruleP_3 hr h
  · exact ruleP_4 hr h
  · exact ruleP_5 hr h
  · exact ruleP_6 hr h
  · exact ruleP_7 hr h

set_option maxHeartbeats 4000000 in
theorem ruleR {r : GR} (hr : r.ok) : PureP (findFn tab) 55 [r.av] (· = .int .i64 (ruleE r)) := by
  obtain ⟨g1, g2, g3, g4, g5, g6⟩ := hr
  unfold Ln at g3 g4 g5 g6
  refine pureP_of rfl rfl ?_
  (conv => whnf); repeat' (first | (refine callB (numberP (r := r)) (fun hn => ?_) (fun hn => ?_) <;> conv => whnf) | (refine callB (keyedP (k := r.k)) (fun hb => ?_) (fun hb => ?_) <;> conv => whnf) | (refine callB (name3 (s := r.name) g3) (fun ha => ?_) (fun ha => ?_) <;> conv => whnf) | (refine callB (name3 (s := r.key) g4) (fun hd => ?_) (fun hd => ?_) <;> conv => whnf) | (refine callB (name3 (s := r.fr) g5) (fun he => ?_) (fun he => ?_) <;> conv => whnf) | (refine callB (name3 (s := r.to) g6) (fun hf => ?_) (fun hf => ?_) <;> conv => whnf) | ((with_reducible first | apply kN | apply kW | apply kX | apply kG | apply kQ); (· exact sd); conv => whnf) | (refine pcase.mk ?_ ?_ <;> intro hc <;> (try rw [List.length_nil] at hc) <;> first | (exfalso; omega) | (exact absurd rfl hc) | conv => whnf) | (refine bcase_intro ?_ ?_ <;> intro hc <;> conv => whnf))
  all_goals clear g1 g2 g3 g4 g5 g6
  all_goals first
    | exact ruleE_1 (by unfold badR; grind)
    | exact ruleE_6 (by unfold badR; grind) (by unfold badRN; grind)
    | exact ruleE_0 (by unfold badR; grind) (by unfold badRN; grind)
    | (exfalso; grind)
    | (trace_state; fail "ruleR")

end AI
end Go.Proofs.YtdlkcancogpafaaGreatDoor
