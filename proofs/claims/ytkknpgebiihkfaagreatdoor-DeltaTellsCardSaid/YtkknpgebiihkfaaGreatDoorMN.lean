/- Names: the program's and the reference's. value.Plain and the reference's Plain: which values may be stored. Names in a list, increasing strings, labels and properties. What is wrong with labels and properties. -/
import Derived.Test.YtkknpgebiihkfaaGreatDoorMT
import Derived.Test.YtkknpgebiihkfaaGreatDoorIxF
set_option linter.unusedVariables false
set_option maxRecDepth 4000
namespace Go.Proofs.YtkknpgebiihkfaaGreatDoor
namespace AI

/-- a letter -/
def isLetter (c : Int) : Prop := (97 ≤ c ∧ c ≤ 122) ∨ (65 ≤ c ∧ c ≤ 90)
instance (c : Int) : Decidable (isLetter c) := by unfold isLetter; infer_instance

theorem letter1 {c : Int} : PureP (findFn tab) 64 [.int .u8 c] (· = .bool (decide (isLetter c))) := by
  refine pureP_of rfl rfl ?_
  (conv => whnf); repeat' (first | ((with_reducible first | apply kN | apply kW | apply kX | apply kG | apply kQ); (· exact sd); conv => whnf) | (refine pcase.mk ?_ ?_ <;> intro hc <;> (try rw [List.length_nil] at hc) <;> first | (exfalso; omega) | (exact absurd rfl hc) | conv => whnf)  | (refine bcase_intro ?_ ?_ <;> intro hc <;> conv => whnf))
  all_goals first | exact bool_t (by unfold isLetter; omega) | exact bool_f (by unfold isLetter; omega)

theorem letter2 {c : Int} : PureP (findFn tab) 113 [.int .u8 c] (· = .bool (decide (isLetter c))) := by
  refine pureP_of rfl rfl ?_
  (conv => whnf); repeat' (first | ((with_reducible first | apply kN | apply kW | apply kX | apply kG | apply kQ); (· exact sd); conv => whnf) | (refine pcase.mk ?_ ?_ <;> intro hc <;> (try rw [List.length_nil] at hc) <;> first | (exfalso; omega) | (exact absurd rfl hc) | conv => whnf)  | (refine bcase_intro ?_ ?_ <;> intro hc <;> conv => whnf))
  all_goals first | exact bool_t (by unfold isLetter; omega) | exact bool_f (by unfold isLetter; omega)

/-- a byte of a name -/
def inName (c : Int) : Prop := isLetter c ∨ (48 ≤ c ∧ c ≤ 57) ∨ c = 95
instance (c : Int) : Decidable (inName c) := by unfold inName; infer_instance

/-- a name -/
def isName (s : List UInt8) : Prop := 0 < s.length ∧ s.length ≤ 20 ∧ (∀ c, s[0]? = some c → isLetter c.toNat) ∧ ∀ c ∈ s, inName c.toNat
instance (s : List UInt8) : Decidable (isName s) := by unfold isName; infer_instance

theorem isName_letter {s : List UInt8} (hs : 0 < s.length) (h : isName s) : isLetter s[0].toNat := h.2.2.1 _ (List.getElem?_eq_getElem hs)
theorem isName_at {s : List UInt8} {i : Nat} (hi : i < s.length) (h : isName s) : inName s[i].toNat := h.2.2.2 _ (List.getElem_mem _)

theorem one_in {s : List UInt8} (hs : 0 < s.length) (h : inName s[0].toNat) : ∀ c ∈ s.take 1, inName c.toNat := by
  cases s with
  | nil => simp at hs
  | cons a l => simpa using h

theorem name1 {s : List UInt8} (hl : s.length < 2^63) : PureP (findFn tab) 30 [.str s] (· = .bool (decide (isName s))) := by
  by_cases h0 : s.length = 0
  · obtain rfl : s = [] := List.length_eq_zero_iff.1 h0
    refine pureP_of rfl rfl ?_
    (conv => whnf); repeat' (first | ((with_reducible first | apply kN | apply kW | apply kX | apply kG | apply kQ); (· exact sd); conv => whnf) | (refine pcase.mk ?_ ?_ <;> intro hc <;> (try rw [List.length_nil] at hc) <;> first | (exfalso; omega) | (exact absurd rfl hc) | conv => whnf)  | (refine bcase_intro ?_ ?_ <;> intro hc <;> conv => whnf))
    all_goals exact bool_f (by simp [isName])
  have hs : 0 < s.length := by omega
  have hne : s ≠ [] := by rintro rfl; simp at h0
  have hz : s[0]? = some s[0] := List.getElem?_eq_getElem hs
  refine pureP_of rfl rfl ?_
  (conv => whnf); repeat' (first | ((with_reducible first | apply kN | apply kW | apply kX | apply kG | apply kQ); (· exact sd); conv => whnf) | (refine pcase.mk ?_ ?_ <;> intro hc <;> (try rw [List.length_nil] at hc) <;> first | (exfalso; omega) | (exact absurd rfl hc) | conv => whnf) | (refine callB (letter1) (fun hc => ?_) (fun hc => ?_) <;> conv => whnf) | (refine bcase_intro ?_ ?_ <;> intro hc <;> conv => whnf))
  all_goals first | exact absurd hc hne | exact bool_f (by unfold isName; omega) | exact bool_f fun h => hc (isName_letter hs h) | skip
  refine loop_inv (fun m env s' => ∃ i : Nat, m = s.length - i ∧ env = [(0, .str s), (18, .int .i64 s.length), (19, .int .i64 i)] ∧ s' = ⟨[], 0⟩ ∧ ∀ c ∈ s.take i, inName c.toNat) ?_ _ _ _ ⟨0, rfl, by simp, rfl, by simp⟩
  rintro _ _ _ ⟨i, rfl, rfl, rfl, hx⟩
  refine ⟨rfl, ?_⟩
  (conv => whnf); repeat' (first | ((with_reducible first | apply kN | apply kW | apply kX | apply kG | apply kQ); (· exact sd); conv => whnf) | (refine pcase.mk ?_ ?_ <;> intro hc <;> (try rw [List.length_nil] at hc) <;> first | (exfalso; omega) | (exact absurd rfl hc) | conv => whnf) | (refine callB (letter1) (fun hc => ?_) (fun hc => ?_) <;> conv => whnf) | (refine bcase_intro ?_ ?_ <;> intro hc <;> conv => whnf))
  all_goals first
    | exact again.mk ⟨_, by omega, i + 1, rfl, rfl, rfl, all_take_succ (by omega) hx (by unfold inName isLetter at *; omega)⟩
    | (refine bool_f fun h => ?_; have := isName_at (i := i) (by omega) h; unfold inName isLetter at *; omega)
    | (rename_i hc1; exact bool_t ⟨hs, by omega, fun c h => by rw [hz] at h; cases h; assumption, by rw [take_all hc] at hx; exact hx⟩)

theorem name2 {s : List UInt8} (hl : s.length < 2^63) : PureP (findFn tab) 71 [.str s] (· = .bool (decide (isName s))) := by
  by_cases h0 : s.length = 0
  · obtain rfl : s = [] := List.length_eq_zero_iff.1 h0
    refine pureP_of rfl rfl ?_
    (conv => whnf); repeat' (first | ((with_reducible first | apply kN | apply kW | apply kX | apply kG | apply kQ); (· exact sd); conv => whnf) | (refine pcase.mk ?_ ?_ <;> intro hc <;> (try rw [List.length_nil] at hc) <;> first | (exfalso; omega) | (exact absurd rfl hc) | conv => whnf)  | (refine bcase_intro ?_ ?_ <;> intro hc <;> conv => whnf))
    all_goals exact bool_f (by simp [isName])
  have hs : 0 < s.length := by omega
  have hne : s ≠ [] := by rintro rfl; simp at h0
  have hz : s[0]? = some s[0] := List.getElem?_eq_getElem hs
  refine pureP_of rfl rfl ?_
  (conv => whnf); repeat' (first | ((with_reducible first | apply kN | apply kW | apply kX | apply kG | apply kQ); (· exact sd); conv => whnf) | (refine pcase.mk ?_ ?_ <;> intro hc <;> (try rw [List.length_nil] at hc) <;> first | (exfalso; omega) | (exact absurd rfl hc) | conv => whnf) | (refine callB (letter2) (fun hc => ?_) (fun hc => ?_) <;> conv => whnf) | (refine bcase_intro ?_ ?_ <;> intro hc <;> conv => whnf))
  all_goals first | exact absurd hc hne | exact bool_f (by unfold isName; omega) | exact bool_f fun h => hc (isName_letter hs h) | skip
  refine loop_inv (fun m env s' => ∃ i : Nat, m = s.length - i ∧ env = [(0, .str s), (3, .int .i64 i)] ∧ s' = ⟨[], 0⟩ ∧ ∀ c ∈ s.take i, inName c.toNat) ?_ _ _ _ ⟨1, rfl, rfl, rfl, one_in hs (Or.inl hc)⟩
  rintro _ _ _ ⟨i, rfl, rfl, rfl, hx⟩
  refine ⟨rfl, ?_⟩
  (conv => whnf); repeat' (first | ((with_reducible first | apply kN | apply kW | apply kX | apply kG | apply kQ); (· exact sd); conv => whnf) | (refine pcase.mk ?_ ?_ <;> intro hc <;> (try rw [List.length_nil] at hc) <;> first | (exfalso; omega) | (exact absurd rfl hc) | conv => whnf) | (refine callB (letter2) (fun hc => ?_) (fun hc => ?_) <;> conv => whnf) | (refine bcase_intro ?_ ?_ <;> intro hc <;> conv => whnf))
  all_goals first
    | exact again.mk ⟨_, by omega, i + 1, rfl, rfl, rfl, all_take_succ (by omega) hx (by unfold inName isLetter at *; omega)⟩
    | (refine bool_f fun h => ?_; have := isName_at (i := i) (by omega) h; unfold inName isLetter at *; omega)
    | (rename_i hc1; exact bool_t ⟨hs, by omega, fun c h => by rw [hz] at h; cases h; assumption, by rw [take_all hc] at hx; exact hx⟩)

end AI
end Go.Proofs.YtkknpgebiihkfaaGreatDoor
set_option linter.unusedVariables false
namespace Go.Proofs.YtkknpgebiihkfaaGreatDoor
namespace AI

theorem pureP_ext {AP : Nat → Option AFn} {f : Nat} {sp : List AV → Sto → Option (AOut × Sto)} {args : List AV} {R : AV → Prop} {v v' : AV} {s : Sto} (hf : AP f = some (.ext sp)) (h : sp args ⟨[], 0⟩ = some (.ok v, s)) (hs : snap s.σ snapDepth v = some v') (hR : R v') : PureP AP f args R :=
  ⟨v', ⟨1, by simp only [pureCall, run, hf, h]; exact hs⟩, hR⟩

theorem ixP {l : List UInt8} : PureP (findFn tab) 145 [.str l, .fn 146 []] (· = .int .i64 (firstBad l)) :=
  pureP_ext rfl rfl rfl rfl

theorem firstBad_iff {l : List UInt8} : firstBad l < 0 ↔ ∀ c ∈ l, badB c = false := by
  unfold firstBad
  cases h : List.findIdx? badB l with
  | none =>
    refine ⟨fun _ c hc => ?_, fun _ => by decide⟩
    have := List.findIdx?_eq_none_iff.1 h c hc
    simpa using this
  | some i =>
    refine ⟨fun h => ?_, fun ha => ?_⟩
    · simp at h; omega
    · obtain ⟨h1, h2, _⟩ := List.findIdx?_eq_some_iff_getElem.1 h
      rw [ha _ (List.getElem_mem h1)] at h2
      cases h2

/-- an integer's range -/
def inR (n : Int) : Prop := -1000000000000000 ≤ n ∧ n ≤ 1000000000000000
instance (n : Int) : Decidable (inR n) := by unfold inR; infer_instance

theorem inP {n : Int} : PureP (findFn tab) 143 [.int .i64 n] (· = .bool (decide (inR n))) := by
  refine pureP_of rfl rfl ?_
  (conv => whnf); repeat' (first | ((with_reducible first | apply kN | apply kW | apply kX | apply kG | apply kQ); (· exact sd); conv => whnf) | (refine pcase.mk ?_ ?_ <;> intro hc <;> (try rw [List.length_nil] at hc) <;> first | (exfalso; omega) | (exact absurd rfl hc) | conv => whnf)  | (refine bcase_intro ?_ ?_ <;> intro hc <;> conv => whnf))
  all_goals first | exact bool_t (by unfold inR; omega) | exact bool_f (by unfold inR; omega)

theorem inP2 {n : Int} : PureP (findFn tab) 134 [.int .i64 n] (· = .bool (decide (inR n))) := by
  refine pureP_of rfl rfl ?_
  (conv => whnf); repeat' (first | ((with_reducible first | apply kN | apply kW | apply kX | apply kG | apply kQ); (· exact sd); conv => whnf) | (refine pcase.mk ?_ ?_ <;> intro hc <;> (try rw [List.length_nil] at hc) <;> first | (exfalso; omega) | (exact absurd rfl hc) | conv => whnf)  | (refine bcase_intro ?_ ?_ <;> intro hc <;> conv => whnf))
  all_goals first | exact bool_t (by unfold inR; omega) | exact bool_f (by unfold inR; omega)

/-- a byte of a string value -/
def okS (s : List UInt8) : Prop := s.length ≤ 100 ∧ ∀ c ∈ s, badB c = false
instance (s : List UInt8) : Decidable (okS s) := by unfold okS; infer_instance

/-- a valid value of a kind that may be stored -/
def leafV (v : GV) : Prop := v.d = 0 ∧ v.l.length = 0 ∧ (v.k = 1 ∧ v.s = [] ∧ (v.n = 0 ∨ v.n = 1) ∨ v.k = 2 ∧ v.s = [] ∧ inR v.n ∨ v.k = 4 ∧ v.n = 0 ∧ okS v.s)
instance (v : GV) : Decidable (leafV v) := by unfold leafV; infer_instance

/-- of a kind that may be stored -/
def kindP (v : GV) : Prop := v.k = 1 ∨ v.k = 2 ∨ v.k = 4
instance (v : GV) : Decidable (kindP v) := by unfold kindP; infer_instance

theorem leaf_kind {v : GV} (h : leafV v) : kindP v := by unfold leafV at h; unfold kindP; omega
theorem leaf_1 {v : GV} (h : v.k = 1) (h1 : v.d = 0) (h2 : v.l.length = 0) (h3 : v.s = []) (h4 : v.n = 0 ∨ v.n = 1) : leafV v := ⟨h1, h2, .inl ⟨h, h3, h4⟩⟩
theorem leaf_2 {v : GV} (h : v.k = 2) (h1 : v.d = 0) (h2 : v.l.length = 0) (h3 : v.s = []) (h4 : inR v.n) : leafV v := ⟨h1, h2, .inr (.inl ⟨h, h3, h4⟩)⟩
theorem leaf_4 {v : GV} (h : v.k = 4) (h1 : v.d = 0) (h2 : v.l.length = 0) (h3 : v.n = 0) (h4 : okS v.s) : leafV v := ⟨h1, h2, .inr (.inr ⟨h, h3, h4⟩)⟩
theorem leaf_s {v : GV} (h : leafV v) (hk : v.k ≠ 4) : v.s = [] := by
  obtain ⟨_, _, h⟩ := h
  rcases h with h | h | h
  · exact h.2.1
  · exact h.2.1
  · exact absurd h.1 hk
theorem leaf_n {v : GV} (h : leafV v) (hk : v.k = 1) : v.n = 0 ∨ v.n = 1 := by
  obtain ⟨_, _, h⟩ := h; omega
theorem leaf_r {v : GV} (h : leafV v) (hk : v.k = 2) : inR v.n := by
  obtain ⟨_, _, h⟩ := h
  rcases h with h | h | h <;> first | exact h.2.2 | omega
theorem leaf_z {v : GV} (h : leafV v) (hk : v.k = 4) : v.n = 0 ∧ okS v.s := by
  obtain ⟨_, _, h⟩ := h
  rcases h with h | h | h <;> first | exact h.2 | omega

theorem vld {v : GV} (hv : v.ok) (hk : kindP v) {n : Int} : PureP (findFn tab) 127 [v.av, .int .i64 n] (· = .bool (decide (leafV v))) := by
  obtain ⟨g1, g2, g3, g4, g5, g6, g7⟩ := hv
  unfold Ln at g4 g5
  unfold kindP at hk
  refine pureP_of rfl rfl ?_
  (conv => whnf); repeat' (first | ((with_reducible first | apply kN | apply kW | apply kX | apply kG | apply kQ); (· exact sd); conv => whnf) | (refine pcase.mk ?_ ?_ <;> intro hc <;> (try rw [List.length_nil] at hc) <;> first | (exfalso; omega) | (exact absurd rfl hc) | conv => whnf) | (refine callB (inP (n := v.n)) (fun hr => ?_) (fun hr => ?_) <;> conv => whnf) | (refine callK_of (ixP (l := v.s)) ?_; rintro _ rfl; conv => whnf) | (refine bcase_intro ?_ ?_ <;> intro hc <;> conv => whnf))
  all_goals first
    | exact bool_f (fun h => by have := h.2.1; omega)
    | (refine bool_t ?_; clear g7 g6; unfold leafV okS; rw [← firstBad_iff]; first | (simp_all; done) | (simp_all; omega))
    | (refine bool_f ?_; clear g7 g6; unfold leafV okS; rw [← firstBad_iff]; first | (simp_all; done) | (simp_all; omega))

theorem vldV {v : GV} (hv : v.ok) (hk : kindP v) : PureP (findFn tab) 99 [v.av] (· = .bool (decide (leafV v))) := by
  refine pureP_of rfl rfl ?_
  (conv => whnf); repeat' (first | ((with_reducible first | apply kN | apply kW | apply kX | apply kG | apply kQ); (· exact sd); conv => whnf) | (refine pcase.mk ?_ ?_ <;> intro hc <;> (try rw [List.length_nil] at hc) <;> first | (exfalso; omega) | (exact absurd rfl hc) | conv => whnf) | (refine callB (vld (v := v) hv hk) (fun hr => ?_) (fun hr => ?_) <;> conv => whnf) | (refine bcase_intro ?_ ?_ <;> intro hc <;> conv => whnf))
  all_goals first | exact bool_t (by assumption) | exact bool_f (by assumption)

theorem plain1 {v : GV} (hv : v.ok) : PureP (findFn tab) 60 [v.av] (· = .bool (decide (leafV v))) := by
  refine pureP_of rfl rfl ?_
  (conv => whnf); repeat' (first | ((with_reducible first | apply kN | apply kW | apply kX | apply kG | apply kQ); (· exact sd); conv => whnf) | (refine pcase.mk ?_ ?_ <;> intro hc <;> (try rw [List.length_nil] at hc) <;> first | (exfalso; omega) | (exact absurd rfl hc) | conv => whnf) | (refine callB (vldV (v := v) hv (by unfold kindP; omega)) (fun hr => ?_) (fun hr => ?_) <;> conv => whnf) | (refine bcase_intro ?_ ?_ <;> intro hc <;> conv => whnf))
  all_goals first | exact bool_t (by assumption) | exact bool_f (by assumption) | exact bool_f fun h => absurd (leaf_kind h) (by unfold kindP; omega)

end AI
end Go.Proofs.YtkknpgebiihkfaaGreatDoor
set_option linter.unusedVariables false
namespace Go.Proofs.YtkknpgebiihkfaaGreatDoor
namespace AI

/-- all are names -/
def allNames (l : List (List UInt8)) : Prop := ∀ s ∈ l, isName s
noncomputable instance (l : List (List UInt8)) : Decidable (allNames l) := Classical.propDecidable _
/-- they increase -/
def rises (l : List (List UInt8)) : Prop := ∀ j (h : j + 1 < l.length), (Op.bytesLess l[j + 1] l[j] || l[j + 1] == l[j]) = false
noncomputable instance (l : List (List UInt8)) : Decidable (rises l) := Classical.propDecidable _

theorem unn {s : List UInt8} (hl : s.length < 2^63) : PureP (findFn tab) 58 [.str s] (· = .bool (decide (¬ isName s))) := by
  refine pureP_of rfl rfl ?_
  (conv => whnf); repeat' (first | ((with_reducible first | apply kN | apply kW | apply kX | apply kG | apply kQ); (· exact sd); conv => whnf) | (refine pcase.mk ?_ ?_ <;> intro hc <;> (try rw [List.length_nil] at hc) <;> first | (exfalso; omega) | (exact absurd rfl hc) | conv => whnf) | (refine callB (name1 hl) (fun hr => ?_) (fun hr => ?_) <;> conv => whnf) | (refine bcase_intro ?_ ?_ <;> intro hc <;> conv => whnf))
  · exact bool_f (fun h => h hr)
  · exact bool_t hr

theorem idxUn {l : List (List UInt8)} {nn : Bool} (hl : l.length < 2^63) (hs : ∀ s ∈ l, s.length < 2^63) : PureP (findFn tab) 98 [.sl nn (vs .str l), .fn 58 []] (fun v => ∃ z, v = .int .i64 z ∧ (0 ≤ z ↔ ¬ allNames l)) := by
  refine pureP_of rfl rfl ?_
  (conv => whnf); repeat' (first | ((with_reducible first | apply kN | apply kW | apply kX | apply kG | apply kQ); (· exact sd); conv => whnf) | (refine pcase.mk ?_ ?_ <;> intro hc <;> (try rw [List.length_nil] at hc) <;> first | (exfalso; omega) | (exact absurd rfl hc) | conv => whnf)  | (refine bcase_intro ?_ ?_ <;> intro hc <;> conv => whnf))
  refine loop_inv (fun m env s => ∃ i : Nat, m = l.length - i ∧ env = [(0, .sl nn (vs .str l)), (1, .fn 58 []), (7, .int .i64 l.length), (8, .int .i64 i)] ∧ s = ⟨[], 0⟩ ∧ ∀ s ∈ l.take i, isName s) ?_ _ _ _ ⟨0, rfl, by simp, rfl, by simp⟩
  rintro _ _ _ ⟨i, rfl, rfl, rfl, hx⟩
  refine ⟨rfl, ?_⟩
  (conv => whnf); repeat' (first | ((with_reducible first | apply kN | apply kW | apply kX | apply kG | apply kQ); (· exact sd); conv => whnf) | (refine pcase.mk ?_ ?_ <;> intro hc <;> (try rw [List.length_nil] at hc) <;> first | (exfalso; omega) | (exact absurd rfl hc) | conv => whnf) | (refine callB (unn (hs _ (List.getElem_mem (by omega)))) (fun hr => ?_) (fun hr => ?_) <;> conv => whnf) | (refine bcase_intro ?_ ?_ <;> intro hc <;> conv => whnf))
  · exact ⟨_, rfl, fun _ h => hr (h _ (List.getElem_mem _)), fun _ => by omega⟩
  · exact again.mk ⟨_, by omega, i + 1, rfl, rfl, rfl, all_take_succ (by omega) hx (Decidable.of_not_not hr)⟩
  · rw [take_all hc] at hx; exact ⟨_, rfl, fun h => absurd h (by omega), fun h => absurd hx h⟩

theorem contUn {l : List (List UInt8)} {nn : Bool} (hl : l.length < 2^63) (hs : ∀ s ∈ l, s.length < 2^63) : PureP (findFn tab) 57 [.sl nn (vs .str l), .fn 58 []] (· = .bool (decide (¬ allNames l))) := by
  refine pureP_of rfl rfl ?_
  (conv => whnf); repeat' (first | ((with_reducible first | apply kN | apply kW | apply kX | apply kG | apply kQ); (· exact sd); conv => whnf) | (refine pcase.mk ?_ ?_ <;> intro hc <;> (try rw [List.length_nil] at hc) <;> first | (exfalso; omega) | (exact absurd rfl hc) | conv => whnf)  | (refine bcase_intro ?_ ?_ <;> intro hc <;> conv => whnf))
  refine callK_of (idxUn hl hs) ?_
  rintro _ ⟨z, rfl, hz⟩
  (conv => whnf); repeat' (first | ((with_reducible first | apply kN | apply kW | apply kX | apply kG | apply kQ); (· exact sd); conv => whnf) | (refine pcase.mk ?_ ?_ <;> intro hc <;> (try rw [List.length_nil] at hc) <;> first | (exfalso; omega) | (exact absurd rfl hc) | conv => whnf)  | (refine bcase_intro ?_ ?_ <;> intro hc <;> conv => whnf))
  · exact bool_t (hz.1 hc)
  · exact bool_f (mt hz.2 hc)

theorem namesR {l : List (List UInt8)} {nn : Bool} (hl : l.length < 2^63) (hs : ∀ s ∈ l, s.length < 2^63) : PureP (findFn tab) 110 [.sl nn (vs .str l)] (· = .bool (decide (allNames l))) := by
  refine pureP_of rfl rfl ?_
  (conv => whnf); repeat' (first | ((with_reducible first | apply kN | apply kW | apply kX | apply kG | apply kQ); (· exact sd); conv => whnf) | (refine pcase.mk ?_ ?_ <;> intro hc <;> (try rw [List.length_nil] at hc) <;> first | (exfalso; omega) | (exact absurd rfl hc) | conv => whnf)  | (refine bcase_intro ?_ ?_ <;> intro hc <;> conv => whnf))
  refine loop_inv (fun m env s => ∃ i : Nat, m = l.length - i ∧ env = [(0, .sl nn (vs .str l)), (3, .int .i64 i)] ∧ s = ⟨[], 0⟩ ∧ ∀ s ∈ l.take i, isName s) ?_ _ _ _ ⟨0, rfl, rfl, rfl, by simp⟩
  rintro _ _ _ ⟨i, rfl, rfl, rfl, hx⟩
  refine ⟨rfl, ?_⟩
  (conv => whnf); repeat' (first | ((with_reducible first | apply kN | apply kW | apply kX | apply kG | apply kQ); (· exact sd); conv => whnf) | (refine pcase.mk ?_ ?_ <;> intro hc <;> (try rw [List.length_nil] at hc) <;> first | (exfalso; omega) | (exact absurd rfl hc) | conv => whnf) | (refine callB (name2 (hs _ (List.getElem_mem (by omega)))) (fun hr => ?_) (fun hr => ?_) <;> conv => whnf) | (refine bcase_intro ?_ ?_ <;> intro hc <;> conv => whnf))
  · exact again.mk ⟨_, by omega, i + 1, rfl, rfl, rfl, all_take_succ (by omega) hx hr⟩
  · exact bool_f fun h => hr (h _ (List.getElem_mem _))
  · rw [take_all hc] at hx; exact bool_t hx

theorem rises1 {l : List (List UInt8)} {nn : Bool} (hl : l.length < 2^63) : PureP (findFn tab) 59 [.sl nn (vs .str l)] (· = .bool (decide (rises l))) := by
  refine pureP_of rfl rfl ?_
  (conv => whnf); repeat' (first | ((with_reducible first | apply kN | apply kW | apply kX | apply kG | apply kQ); (· exact sd); conv => whnf) | (refine pcase.mk ?_ ?_ <;> intro hc <;> (try rw [List.length_nil] at hc) <;> first | (exfalso; omega) | (exact absurd rfl hc) | conv => whnf)  | (refine bcase_intro ?_ ?_ <;> intro hc <;> conv => whnf))
  refine loop_inv (fun m env s => ∃ i : Nat, m = l.length - i ∧ env = [(0, .sl nn (vs .str l)), (3, .int .i64 (i + 1 : Nat))] ∧ s = ⟨[], 0⟩ ∧ ∀ j (h : j + 1 < l.length), j < i → (Op.bytesLess l[j + 1] l[j] || l[j + 1] == l[j]) = false) ?_ _ _ _ ⟨0, rfl, rfl, rfl, fun j _ h => absurd h (by omega)⟩
  rintro _ _ _ ⟨i, rfl, rfl, rfl, hx⟩
  refine ⟨rfl, ?_⟩
  (conv => whnf); repeat' (first | ((with_reducible first | apply kN | apply kW | apply kX | apply kG | apply kQ); (· exact sd); conv => whnf) | (refine pcase.mk ?_ ?_ <;> intro hc <;> (try rw [List.length_nil] at hc) <;> first | (exfalso; omega) | (exact absurd rfl hc) | conv => whnf) | (apply nthK_intro; (· exact nVz i (by omega) (by omega)); conv => whnf) | (refine bcase_intro ?_ ?_ <;> intro hc <;> conv => whnf))
  · exact bool_f fun h => by simp only [show (((i + 1 : Nat) : Int) - 1).toNat = i by omega] at hc; rw [h i (by omega)] at hc; cases hc
  · simp only [show (((i + 1 : Nat) : Int) - 1).toNat = i by omega] at hc
    exact again.mk ⟨_, by omega, i + 1, rfl, rfl, rfl, fun j h hj => by
      by_cases e : j = i
      · subst e; simpa using hc
      · exact hx j h (by omega)⟩
  · exact bool_t fun j h => hx j h (by omega)
theorem rises2 {l : List (List UInt8)} {nn : Bool} (hl : l.length < 2^63) : PureP (findFn tab) 111 [.sl nn (vs .str l)] (· = .bool (decide (rises l))) := by
  refine pureP_of rfl rfl ?_
  (conv => whnf); repeat' (first | ((with_reducible first | apply kN | apply kW | apply kX | apply kG | apply kQ); (· exact sd); conv => whnf) | (refine pcase.mk ?_ ?_ <;> intro hc <;> (try rw [List.length_nil] at hc) <;> first | (exfalso; omega) | (exact absurd rfl hc) | conv => whnf)  | (refine bcase_intro ?_ ?_ <;> intro hc <;> conv => whnf))
  refine loop_inv (fun m env s => ∃ i : Nat, m = l.length - i ∧ env = [(0, .sl nn (vs .str l)), (3, .int .i64 (i + 1 : Nat))] ∧ s = ⟨[], 0⟩ ∧ ∀ j (h : j + 1 < l.length), j < i → (Op.bytesLess l[j + 1] l[j] || l[j + 1] == l[j]) = false) ?_ _ _ _ ⟨0, rfl, rfl, rfl, fun j _ h => absurd h (by omega)⟩
  rintro _ _ _ ⟨i, rfl, rfl, rfl, hx⟩
  refine ⟨rfl, ?_⟩
  (conv => whnf); repeat' (first | ((with_reducible first | apply kN | apply kW | apply kX | apply kG | apply kQ); (· exact sd); conv => whnf) | (refine pcase.mk ?_ ?_ <;> intro hc <;> (try rw [List.length_nil] at hc) <;> first | (exfalso; omega) | (exact absurd rfl hc) | conv => whnf) | (apply nthK_intro; (· exact nVz i (by omega) (by omega)); conv => whnf) | (refine bcase_intro ?_ ?_ <;> intro hc <;> conv => whnf))
  · exact bool_f fun h => by simp only [show (((i + 1 : Nat) : Int) - 1).toNat = i by omega] at hc; rw [h i (by omega)] at hc; cases hc
  · simp only [show (((i + 1 : Nat) : Int) - 1).toNat = i by omega] at hc
    exact again.mk ⟨_, by omega, i + 1, rfl, rfl, rfl, fun j h hj => by
      by_cases e : j = i
      · subst e; simpa using hc
      · exact hx j h (by omega)⟩
  · exact bool_t fun j h => hx j h (by omega)

end AI
end Go.Proofs.YtkknpgebiihkfaaGreatDoor
set_option linter.unusedVariables false
namespace Go.Proofs.YtkknpgebiihkfaaGreatDoor
namespace AI

theorem apVS {g len : Nat} {nn cl : Bool} {l : List (List UInt8)} {x : List UInt8} {bytes : Nat} {K : Nat → Bool → Bool → List AV → Prop} (hl : len = l.length) (hr : (l.length + 1) * bytes ≤ 2 ^ 46) (h : K (len + 1) true cl (vs .str (l ++ [x]))) :
    appendK g g 1 1 len nn cl true (vs .str l) [.str x] bytes K := by
  subst hl
  refine ⟨⟨rfl, rfl, by simp, allSize_one rfl, hr⟩, ?_⟩
  rw [snoc_vs, Bool.and_true]
  simpa using h

def keysOf (P : List GP) : List (List UInt8) := P.map GP.key
@[simp] theorem keysOf_len (P : List GP) : (keysOf P).length = P.length := by simp [keysOf]
theorem keysOf_ln {P : List GP} (hp : ∀ p ∈ P, p.ok) : ∀ s ∈ keysOf P, s.length < 2^63 := by
  intro s h
  obtain ⟨p, h1, rfl⟩ := List.mem_map.1 h
  exact (hp p h1).1
theorem keysOf_snoc {P : List GP} {i : Nat} (h : i < P.length) : keysOf (P.take i) ++ [(P[i]).key] = keysOf (P.take (i + 1)) := by
  rw [List.take_succ_eq_append_getElem h]; unfold keysOf; rw [List.map_append]; rfl

/-- all may be stored -/
def allPlain (P : List GP) : Prop := ∀ p ∈ P, leafV p.v
noncomputable instance (P : List GP) : Decidable (allPlain P) := Classical.propDecidable _

noncomputable def partsE (L : List (List UInt8)) (P : List GP) : Int :=
  if 8 < L.length ∨ 16 < P.length then 4 else if ¬ (allNames L ∧ allNames (keysOf P)) then 6 else if ¬ (rises L ∧ rises (keysOf P)) then 26 else if ¬ allPlain P then 8 else 0

theorem parts_4 {L : List (List UInt8)} {P : List GP} (h : 8 < L.length ∨ 16 < P.length) : AV.int .i64 4 = AV.int .i64 (partsE L P) := by rw [partsE, if_pos h]
theorem parts_6 {L : List (List UInt8)} {P : List GP} (h : ¬ (8 < L.length ∨ 16 < P.length)) (h1 : ¬ (allNames L ∧ allNames (keysOf P))) : AV.int .i64 6 = AV.int .i64 (partsE L P) := by rw [partsE, if_neg h, if_pos h1]
theorem parts_26 {L : List (List UInt8)} {P : List GP} (h : ¬ (8 < L.length ∨ 16 < P.length)) (h1 : allNames L ∧ allNames (keysOf P)) (h2 : ¬ (rises L ∧ rises (keysOf P))) : AV.int .i64 26 = AV.int .i64 (partsE L P) := by rw [partsE, if_neg h, if_neg (not_not_intro h1), if_pos h2]
theorem parts_8 {L : List (List UInt8)} {P : List GP} (h : ¬ (8 < L.length ∨ 16 < P.length)) (h1 : allNames L ∧ allNames (keysOf P)) (h2 : rises L ∧ rises (keysOf P)) (h3 : ¬ allPlain P) : AV.int .i64 8 = AV.int .i64 (partsE L P) := by rw [partsE, if_neg h, if_neg (not_not_intro h1), if_neg (not_not_intro h2), if_pos h3]
theorem parts_0 {L : List (List UInt8)} {P : List GP} (h : ¬ (8 < L.length ∨ 16 < P.length)) (h1 : allNames L ∧ allNames (keysOf P)) (h2 : rises L ∧ rises (keysOf P)) (h3 : allPlain P) : AV.int .i64 0 = AV.int .i64 (partsE L P) := by rw [partsE, if_neg h, if_neg (not_not_intro h1), if_neg (not_not_intro h2), if_neg (not_not_intro h3)]

theorem parts1 {L : List (List UInt8)} {P : List GP} {ln pn : Bool} (hL : L.length < 2^63) (hs : ∀ s ∈ L, s.length < 2^63) (hP : P.length < 2^63) (hp : ∀ p ∈ P, p.ok) : PureP (findFn tab) 28 [.sl ln (vs .str L), .sl pn (vs GP.av P)] (· = .int .i64 (partsE L P)) := by
  have hk := keysOf_ln hp
  refine pureP_of rfl rfl ?_
  (conv => whnf); repeat' (first | ((with_reducible first | apply kN | apply kW | apply kX | apply kG | apply kQ); (· exact sd); conv => whnf) | (refine pcase.mk ?_ ?_ <;> intro hc <;> (try rw [List.length_nil] at hc) <;> first | (exfalso; omega) | (exact absurd rfl hc) | conv => whnf)  | (refine bcase_intro ?_ ?_ <;> intro hc <;> conv => whnf))
  · exact parts_4 (by omega)
  · exact parts_4 (by omega)
  have h16 : ¬ (8 < L.length ∨ 16 < P.length) := by omega
  refine loop_inv (fun m env s => ∃ (i g : Nat), m = P.length - i ∧ i ≤ P.length ∧ env = [(0, .sl ln (vs .str L)), (1, .sl pn (vs GP.av P)), (5, .own 0 g 0 i), (18, .sl pn (vs GP.av P)), (19, .int .i64 P.length), (20, .int .i64 i)] ∧ ∃ nn c, s = ⟨[.arr g 1 nn true (vs .str (keysOf (P.take i)))], c⟩) ?_ _ _ _ ⟨0, 0, rfl, by omega, rfl, _, _, rfl⟩
  rintro _ _ _ ⟨i, g, rfl, hi, rfl, nn, c, rfl⟩
  refine ⟨rfl, ?_⟩
  (conv => whnf); repeat' (first | ((with_reducible first | apply kN | apply kW | apply kX | apply kG | apply kQ); (· exact sd); conv => whnf) | (refine pcase.mk ?_ ?_ <;> intro hc <;> (try rw [List.length_nil] at hc) <;> first | (exfalso; omega) | (exact absurd rfl hc) | conv => whnf)  | (refine bcase_intro ?_ ?_ <;> intro hc <;> conv => whnf))
  · refine apVS (by simp; omega) (by simp; omega) ?_
    (conv => whnf); repeat' (first | ((with_reducible first | apply kN | apply kW | apply kX | apply kG | apply kQ); (· exact sd); conv => whnf) | (refine pcase.mk ?_ ?_ <;> intro hc <;> (try rw [List.length_nil] at hc) <;> first | (exfalso; omega) | (exact absurd rfl hc) | conv => whnf)  | (refine bcase_intro ?_ ?_ <;> intro hc <;> conv => whnf))
    rw [keysOf_snoc (by omega)]
    exact again.mk ⟨_, by omega, i + 1, _, rfl, by omega, rfl, _, _, rfl⟩
  · rw [take_all hc]
    obtain rfl : i = P.length := by omega
    have hu : sub (vs AV.str (keysOf P)) 0 P.length = vs .str (keysOf P) := by rw [← keysOf_len P]; exact uV
    have hkl : (keysOf P).length < 2^63 := by rw [keysOf_len]; exact hP
    (conv => whnf); repeat' (first | (refine callB (contUn hL hs) (fun h1 => ?_) (fun h1 => ?_) <;> conv => whnf) | (rw [hu]; refine callB (contUn hkl hk) (fun h2 => ?_) (fun h2 => ?_) <;> conv => whnf) | (refine callB (rises1 hL) (fun h3 => ?_) (fun h3 => ?_) <;> conv => whnf) | (rw [hu]; refine callB (rises1 hkl) (fun h4 => ?_) (fun h4 => ?_) <;> conv => whnf) | ((with_reducible first | apply kN | apply kW | apply kX | apply kG | apply kQ); (· exact sd); conv => whnf) | (refine pcase.mk ?_ ?_ <;> intro hc <;> (try rw [List.length_nil] at hc) <;> first | (exfalso; omega) | (exact absurd rfl hc) | conv => whnf) | (refine bcase_intro ?_ ?_ <;> intro hc <;> conv => whnf))
    · exact parts_6 h16 fun h => h1 h.1
    · exact parts_6 h16 fun h => h2 h.2
    · refine loop_inv (fun m env s => ∃ (i : Nat), m = P.length - i ∧ env = [(44, .sl pn (vs GP.av P)), (45, .int .i64 P.length), (46, .int .i64 i)] ∧ (∃ c, s = ⟨[.arr g 1 nn true (vs .str (keysOf P))], c⟩) ∧ ∀ p ∈ P.take i, leafV p.v) ?_ _ _ _ ⟨0, rfl, rfl, ⟨_, rfl⟩, by simp⟩
      clear hc hi
      rintro _ _ _ ⟨i, rfl, rfl, ⟨c, rfl⟩, hx⟩
      refine ⟨rfl, ?_⟩
      (conv => whnf); repeat' (first | (refine callB (plain1 (v := (P[i]).v) (hp _ (List.getElem_mem (by omega))).2) (fun h5 => ?_) (fun h5 => ?_) <;> conv => whnf) | ((with_reducible first | apply kN | apply kW | apply kX | apply kG | apply kQ); (· exact sd); conv => whnf) | (refine pcase.mk ?_ ?_ <;> intro hc <;> (try rw [List.length_nil] at hc) <;> first | (exfalso; omega) | (exact absurd rfl hc) | conv => whnf) | (refine bcase_intro ?_ ?_ <;> intro hc <;> conv => whnf))
      · exact again.mk ⟨_, by omega, i + 1, rfl, rfl, ⟨_, rfl⟩, all_take_succ (by omega) hx h5⟩
      · exact parts_8 h16 ⟨Classical.not_not.1 h1, Classical.not_not.1 h2⟩ ⟨h3, h4⟩ fun h => h5 (h _ (List.getElem_mem _))
      · rw [take_all hc] at hx
        exact parts_0 h16 ⟨Classical.not_not.1 h1, Classical.not_not.1 h2⟩ ⟨h3, h4⟩ hx
    · exact parts_26 h16 ⟨Classical.not_not.1 h1, Classical.not_not.1 h2⟩ fun h => h4 h.2
    · exact parts_26 h16 ⟨Classical.not_not.1 h1, Classical.not_not.1 h2⟩ fun h => h3 h.1

attribute [irreducible] partsE

end AI
end Go.Proofs.YtkknpgebiihkfaaGreatDoor
