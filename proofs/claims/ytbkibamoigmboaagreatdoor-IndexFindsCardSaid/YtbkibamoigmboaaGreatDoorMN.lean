/- Names: the program's and the reference's. value.Plain and the reference's Plain: which values may be stored. -/
import Derived.Test.YtbkibamoigmboaaGreatDoorMT
import Derived.Test.YtbkibamoigmboaaGreatDoorIxF
set_option linter.unusedVariables false
set_option maxRecDepth 4000
namespace Go.Proofs.YtbkibamoigmboaaGreatDoor
namespace AI

/-- a letter -/
def isLetter (c : Int) : Prop := (97 ≤ c ∧ c ≤ 122) ∨ (65 ≤ c ∧ c ≤ 90)
instance (c : Int) : Decidable (isLetter c) := by unfold isLetter; infer_instance

theorem letter1 {c : Int} : PureP (findFn tab) 108 [.int .u8 c] (· = .bool (decide (isLetter c))) := by
  refine pureP_of rfl rfl ?_
  (conv => whnf); repeat' (first | ((with_reducible first | apply kN | apply kW | apply kX | apply kG | apply kQ); (· exact sd); conv => whnf) | (refine pcase.mk ?_ ?_ <;> intro hc <;> (try rw [List.length_nil] at hc) <;> first | (exfalso; omega) | (exact absurd rfl hc) | conv => whnf)  | (refine bcase_intro ?_ ?_ <;> intro hc <;> conv => whnf))
  all_goals first | exact bool_t (by unfold isLetter; omega) | exact bool_f (by unfold isLetter; omega)

theorem letter2 {c : Int} : PureP (findFn tab) 171 [.int .u8 c] (· = .bool (decide (isLetter c))) := by
  refine pureP_of rfl rfl ?_
  (conv => whnf); repeat' (first | ((with_reducible first | apply kN | apply kW | apply kX | apply kG | apply kQ); (· exact sd); conv => whnf) | (refine pcase.mk ?_ ?_ <;> intro hc <;> (try rw [List.length_nil] at hc) <;> first | (exfalso; omega) | (exact absurd rfl hc) | conv => whnf)  | (refine bcase_intro ?_ ?_ <;> intro hc <;> conv => whnf))
  all_goals first | exact bool_t (by unfold isLetter; omega) | exact bool_f (by unfold isLetter; omega)

/-- a byte of a name -/
def inName (c : Int) : Prop := isLetter c ∨ (48 ≤ c ∧ c ≤ 57) ∨ c = 95
instance (c : Int) : Decidable (inName c) := by unfold inName; infer_instance

/-- a name -/
def isName (s : List UInt8) : Prop := 0 < s.length ∧ s.length ≤ 20 ∧ (∀ c, s[0]? = some c → isLetter c.toNat) ∧ ∀ c ∈ s, inName c.toNat
instance (s : List UInt8) : Decidable (isName s) := by unfold isName; infer_instance

theorem isName_letter {s : List UInt8} (hs : 0 < s.length) (h : isName s) : isLetter s[0].toNat := h.2.2.1 _ (List.getElem?_eq_getElem hs)
theorem isName_at {s : List UInt8} {i : Nat} (hi : i < s.length) (h : isName s) : inName s[i].toNat := h.2.2.2 _ (List.getElem_mem _)

theorem one_in {s : List UInt8} (hs : 0 < s.length) (h : inName s[0].toNat) : ∀ c ∈ s.take 1, inName c.toNat := by
  cases s with
  | nil => simp at hs
  | cons a l => simpa using h

theorem name1 {s : List UInt8} (hl : s.length < 2^63) : PureP (findFn tab) 68 [.str s] (· = .bool (decide (isName s))) := by
  by_cases h0 : s.length = 0
  · obtain rfl : s = [] := List.length_eq_zero_iff.1 h0
    refine pureP_of rfl rfl ?_
    (conv => whnf); repeat' (first | ((with_reducible first | apply kN | apply kW | apply kX | apply kG | apply kQ); (· exact sd); conv => whnf) | (refine pcase.mk ?_ ?_ <;> intro hc <;> (try rw [List.length_nil] at hc) <;> first | (exfalso; omega) | (exact absurd rfl hc) | conv => whnf)  | (refine bcase_intro ?_ ?_ <;> intro hc <;> conv => whnf))
    all_goals exact bool_f (by simp [isName])
  have hs : 0 < s.length := by omega
  have hne : s ≠ [] := by rintro rfl; simp at h0
  have hz : s[0]? = some s[0] := List.getElem?_eq_getElem hs
  refine pureP_of rfl rfl ?_
  (conv => whnf); repeat' (first | ((with_reducible first | apply kN | apply kW | apply kX | apply kG | apply kQ); (· exact sd); conv => whnf) | (refine pcase.mk ?_ ?_ <;> intro hc <;> (try rw [List.length_nil] at hc) <;> first | (exfalso; omega) | (exact absurd rfl hc) | conv => whnf) | (refine callB (letter1) (fun hc => ?_) (fun hc => ?_) <;> conv => whnf) | (refine bcase_intro ?_ ?_ <;> intro hc <;> conv => whnf))
  all_goals first | exact absurd hc hne | exact bool_f (by unfold isName; omega) | exact bool_f fun h => hc (isName_letter hs h) | skip
  refine loop_inv (fun m env s' => ∃ i : Nat, m = s.length - i ∧ env = [(0, .str s), (18, .int .i64 s.length), (19, .int .i64 i)] ∧ s' = ⟨[], 0⟩ ∧ ∀ c ∈ s.take i, inName c.toNat) ?_ _ _ _ ⟨0, rfl, by simp, rfl, by simp⟩
  rintro _ _ _ ⟨i, rfl, rfl, rfl, hx⟩
  refine ⟨rfl, ?_⟩
  (conv => whnf); repeat' (first | ((with_reducible first | apply kN | apply kW | apply kX | apply kG | apply kQ); (· exact sd); conv => whnf) | (refine pcase.mk ?_ ?_ <;> intro hc <;> (try rw [List.length_nil] at hc) <;> first | (exfalso; omega) | (exact absurd rfl hc) | conv => whnf) | (refine callB (letter1) (fun hc => ?_) (fun hc => ?_) <;> conv => whnf) | (refine bcase_intro ?_ ?_ <;> intro hc <;> conv => whnf))
  all_goals first
    | exact again.mk ⟨_, by omega, i + 1, rfl, rfl, rfl, all_take_succ (by omega) hx (by unfold inName isLetter at *; omega)⟩
    | (refine bool_f fun h => ?_; have := isName_at (i := i) (by omega) h; unfold inName isLetter at *; omega)
    | (rename_i hc1; exact bool_t ⟨hs, by omega, fun c h => by rw [hz] at h; cases h; assumption, by rw [take_all hc] at hx; exact hx⟩)

theorem name2 {s : List UInt8} (hl : s.length < 2^63) : PureP (findFn tab) 118 [.str s] (· = .bool (decide (isName s))) := by
  by_cases h0 : s.length = 0
  · obtain rfl : s = [] := List.length_eq_zero_iff.1 h0
    refine pureP_of rfl rfl ?_
    (conv => whnf); repeat' (first | ((with_reducible first | apply kN | apply kW | apply kX | apply kG | apply kQ); (· exact sd); conv => whnf) | (refine pcase.mk ?_ ?_ <;> intro hc <;> (try rw [List.length_nil] at hc) <;> first | (exfalso; omega) | (exact absurd rfl hc) | conv => whnf)  | (refine bcase_intro ?_ ?_ <;> intro hc <;> conv => whnf))
    all_goals exact bool_f (by simp [isName])
  have hs : 0 < s.length := by omega
  have hne : s ≠ [] := by rintro rfl; simp at h0
  have hz : s[0]? = some s[0] := List.getElem?_eq_getElem hs
  refine pureP_of rfl rfl ?_
  (conv => whnf); repeat' (first | ((with_reducible first | apply kN | apply kW | apply kX | apply kG | apply kQ); (· exact sd); conv => whnf) | (refine pcase.mk ?_ ?_ <;> intro hc <;> (try rw [List.length_nil] at hc) <;> first | (exfalso; omega) | (exact absurd rfl hc) | conv => whnf) | (refine callB (letter2) (fun hc => ?_) (fun hc => ?_) <;> conv => whnf) | (refine bcase_intro ?_ ?_ <;> intro hc <;> conv => whnf))
  all_goals first | exact absurd hc hne | exact bool_f (by unfold isName; omega) | exact bool_f fun h => hc (isName_letter hs h) | skip
  refine loop_inv (fun m env s' => ∃ i : Nat, m = s.length - i ∧ env = [(0, .str s), (3, .int .i64 i)] ∧ s' = ⟨[], 0⟩ ∧ ∀ c ∈ s.take i, inName c.toNat) ?_ _ _ _ ⟨1, rfl, rfl, rfl, one_in hs (Or.inl hc)⟩
  rintro _ _ _ ⟨i, rfl, rfl, rfl, hx⟩
  refine ⟨rfl, ?_⟩
  (conv => whnf); repeat' (first | ((with_reducible first | apply kN | apply kW | apply kX | apply kG | apply kQ); (· exact sd); conv => whnf) | (refine pcase.mk ?_ ?_ <;> intro hc <;> (try rw [List.length_nil] at hc) <;> first | (exfalso; omega) | (exact absurd rfl hc) | conv => whnf) | (refine callB (letter2) (fun hc => ?_) (fun hc => ?_) <;> conv => whnf) | (refine bcase_intro ?_ ?_ <;> intro hc <;> conv => whnf))
  all_goals first
    | exact again.mk ⟨_, by omega, i + 1, rfl, rfl, rfl, all_take_succ (by omega) hx (by unfold inName isLetter at *; omega)⟩
    | (refine bool_f fun h => ?_; have := isName_at (i := i) (by omega) h; unfold inName isLetter at *; omega)
    | (rename_i hc1; exact bool_t ⟨hs, by omega, fun c h => by rw [hz] at h; cases h; assumption, by rw [take_all hc] at hx; exact hx⟩)

end AI
end Go.Proofs.YtbkibamoigmboaaGreatDoor
set_option linter.unusedVariables false
namespace Go.Proofs.YtbkibamoigmboaaGreatDoor
namespace AI

theorem pureP_ext {AP : Nat → Option AFn} {f : Nat} {sp : List AV → Sto → Option (AOut × Sto)} {args : List AV} {R : AV → Prop} {v v' : AV} {s : Sto} (hf : AP f = some (.ext sp)) (h : sp args ⟨[], 0⟩ = some (.ok v, s)) (hs : snap s.σ snapDepth v = some v') (hR : R v') : PureP AP f args R :=
  ⟨v', ⟨1, by simp only [pureCall, run, hf, h]; exact hs⟩, hR⟩

theorem ixP {l : List UInt8} : PureP (findFn tab) 148 [.str l, .fn 149 []] (· = .int .i64 (firstBad l)) :=
  pureP_ext rfl rfl rfl rfl

theorem firstBad_iff {l : List UInt8} : firstBad l < 0 ↔ ∀ c ∈ l, badB c = false := by
  unfold firstBad
  cases h : List.findIdx? badB l with
  | none =>
    refine ⟨fun _ c hc => ?_, fun _ => by decide⟩
    have := List.findIdx?_eq_none_iff.1 h c hc
    simpa using this
  | some i =>
    refine ⟨fun h => ?_, fun ha => ?_⟩
    · simp at h; omega
    · obtain ⟨h1, h2, _⟩ := List.findIdx?_eq_some_iff_getElem.1 h
      rw [ha _ (List.getElem_mem h1)] at h2
      cases h2

/-- an integer's range -/
def inR (n : Int) : Prop := -1000000000000000 ≤ n ∧ n ≤ 1000000000000000
instance (n : Int) : Decidable (inR n) := by unfold inR; infer_instance

theorem inP {n : Int} : PureP (findFn tab) 147 [.int .i64 n] (· = .bool (decide (inR n))) := by
  refine pureP_of rfl rfl ?_
  (conv => whnf); repeat' (first | ((with_reducible first | apply kN | apply kW | apply kX | apply kG | apply kQ); (· exact sd); conv => whnf) | (refine pcase.mk ?_ ?_ <;> intro hc <;> (try rw [List.length_nil] at hc) <;> first | (exfalso; omega) | (exact absurd rfl hc) | conv => whnf)  | (refine bcase_intro ?_ ?_ <;> intro hc <;> conv => whnf))
  all_goals first | exact bool_t (by unfold inR; omega) | exact bool_f (by unfold inR; omega)

theorem inP2 {n : Int} : PureP (findFn tab) 197 [.int .i64 n] (· = .bool (decide (inR n))) := by
  refine pureP_of rfl rfl ?_
  (conv => whnf); repeat' (first | ((with_reducible first | apply kN | apply kW | apply kX | apply kG | apply kQ); (· exact sd); conv => whnf) | (refine pcase.mk ?_ ?_ <;> intro hc <;> (try rw [List.length_nil] at hc) <;> first | (exfalso; omega) | (exact absurd rfl hc) | conv => whnf)  | (refine bcase_intro ?_ ?_ <;> intro hc <;> conv => whnf))
  all_goals first | exact bool_t (by unfold inR; omega) | exact bool_f (by unfold inR; omega)

/-- a byte of a string value -/
def okS (s : List UInt8) : Prop := s.length ≤ 100 ∧ ∀ c ∈ s, badB c = false
instance (s : List UInt8) : Decidable (okS s) := by unfold okS; infer_instance

/-- a valid value of a kind that may be stored -/
def leafV (v : GV) : Prop := v.d = 0 ∧ v.l.length = 0 ∧ (v.k = 1 ∧ v.s = [] ∧ (v.n = 0 ∨ v.n = 1) ∨ v.k = 2 ∧ v.s = [] ∧ inR v.n ∨ v.k = 4 ∧ v.n = 0 ∧ okS v.s)
instance (v : GV) : Decidable (leafV v) := by unfold leafV; infer_instance

/-- of a kind that may be stored -/
def kindP (v : GV) : Prop := v.k = 1 ∨ v.k = 2 ∨ v.k = 4
instance (v : GV) : Decidable (kindP v) := by unfold kindP; infer_instance

theorem leaf_kind {v : GV} (h : leafV v) : kindP v := by unfold leafV at h; unfold kindP; omega
theorem leaf_1 {v : GV} (h : v.k = 1) (h1 : v.d = 0) (h2 : v.l.length = 0) (h3 : v.s = []) (h4 : v.n = 0 ∨ v.n = 1) : leafV v := ⟨h1, h2, .inl ⟨h, h3, h4⟩⟩
theorem leaf_2 {v : GV} (h : v.k = 2) (h1 : v.d = 0) (h2 : v.l.length = 0) (h3 : v.s = []) (h4 : inR v.n) : leafV v := ⟨h1, h2, .inr (.inl ⟨h, h3, h4⟩)⟩
theorem leaf_4 {v : GV} (h : v.k = 4) (h1 : v.d = 0) (h2 : v.l.length = 0) (h3 : v.n = 0) (h4 : okS v.s) : leafV v := ⟨h1, h2, .inr (.inr ⟨h, h3, h4⟩)⟩
theorem leaf_s {v : GV} (h : leafV v) (hk : v.k ≠ 4) : v.s = [] := by
  obtain ⟨_, _, h⟩ := h
  rcases h with h | h | h
  · exact h.2.1
  · exact h.2.1
  · exact absurd h.1 hk
theorem leaf_n {v : GV} (h : leafV v) (hk : v.k = 1) : v.n = 0 ∨ v.n = 1 := by
  obtain ⟨_, _, h⟩ := h; omega
theorem leaf_r {v : GV} (h : leafV v) (hk : v.k = 2) : inR v.n := by
  obtain ⟨_, _, h⟩ := h
  rcases h with h | h | h <;> first | exact h.2.2 | omega
theorem leaf_z {v : GV} (h : leafV v) (hk : v.k = 4) : v.n = 0 ∧ okS v.s := by
  obtain ⟨_, _, h⟩ := h
  rcases h with h | h | h <;> first | exact h.2 | omega

theorem vld {v : GV} (hv : v.ok) (hk : kindP v) {n : Int} : PureP (findFn tab) 98 [v.av, .int .i64 n] (· = .bool (decide (leafV v))) := by
  obtain ⟨g1, g2, g3, g4, g5, g6, g7⟩ := hv
  unfold Ln at g4 g5
  unfold kindP at hk
  refine pureP_of rfl rfl ?_
  (conv => whnf); repeat' (first | ((with_reducible first | apply kN | apply kW | apply kX | apply kG | apply kQ); (· exact sd); conv => whnf) | (refine pcase.mk ?_ ?_ <;> intro hc <;> (try rw [List.length_nil] at hc) <;> first | (exfalso; omega) | (exact absurd rfl hc) | conv => whnf) | (refine callB (inP (n := v.n)) (fun hr => ?_) (fun hr => ?_) <;> conv => whnf) | (refine callK_of (ixP (l := v.s)) ?_; rintro _ rfl; conv => whnf) | (refine bcase_intro ?_ ?_ <;> intro hc <;> conv => whnf))
  all_goals first
    | exact bool_f (fun h => by have := h.2.1; omega)
    | (refine bool_t ?_; clear g7 g6; unfold leafV okS; rw [← firstBad_iff]; first | (simp_all; done) | (simp_all; omega))
    | (refine bool_f ?_; clear g7 g6; unfold leafV okS; rw [← firstBad_iff]; first | (simp_all; done) | (simp_all; omega))

theorem vldV {v : GV} (hv : v.ok) (hk : kindP v) : PureP (findFn tab) 62 [v.av] (· = .bool (decide (leafV v))) := by
  refine pureP_of rfl rfl ?_
  (conv => whnf); repeat' (first | ((with_reducible first | apply kN | apply kW | apply kX | apply kG | apply kQ); (· exact sd); conv => whnf) | (refine pcase.mk ?_ ?_ <;> intro hc <;> (try rw [List.length_nil] at hc) <;> first | (exfalso; omega) | (exact absurd rfl hc) | conv => whnf) | (refine callB (vld (v := v) hv hk) (fun hr => ?_) (fun hr => ?_) <;> conv => whnf) | (refine bcase_intro ?_ ?_ <;> intro hc <;> conv => whnf))
  all_goals first | exact bool_t (by assumption) | exact bool_f (by assumption)

theorem plain1 {v : GV} (hv : v.ok) : PureP (findFn tab) 105 [v.av] (· = .bool (decide (leafV v))) := by
  refine pureP_of rfl rfl ?_
  (conv => whnf); repeat' (first | ((with_reducible first | apply kN | apply kW | apply kX | apply kG | apply kQ); (· exact sd); conv => whnf) | (refine pcase.mk ?_ ?_ <;> intro hc <;> (try rw [List.length_nil] at hc) <;> first | (exfalso; omega) | (exact absurd rfl hc) | conv => whnf) | (refine callB (vldV (v := v) hv (by unfold kindP; omega)) (fun hr => ?_) (fun hr => ?_) <;> conv => whnf) | (refine bcase_intro ?_ ?_ <;> intro hc <;> conv => whnf))
  all_goals first | exact bool_t (by assumption) | exact bool_f (by assumption) | exact bool_f fun h => absurd (leaf_kind h) (by unfold kindP; omega)

end AI
end Go.Proofs.YtbkibamoigmboaaGreatDoor
