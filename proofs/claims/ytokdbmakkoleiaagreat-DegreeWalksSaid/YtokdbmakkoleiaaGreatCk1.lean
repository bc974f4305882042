/- value.Plain and the reference's Plain: which values may be stored. -/
import Derived.Test.YtokdbmakkoleiaaGreatNm
import Derived.Test.YtokdbmakkoleiaaGreatIxF
set_option linter.unusedVariables false
namespace Go.Proofs.YtokdbmakkoleiaaGreat
namespace AI

theorem pureP_ext {AP : Nat → Option AFn} {f : Nat} {sp : List AV → Sto → Option (AOut × Sto)} {args : List AV} {R : AV → Prop} {v v' : AV} {s : Sto} (hf : AP f = some (.ext sp)) (h : sp args ⟨[], 0⟩ = some (.ok v, s)) (hs : snap s.σ snapDepth v = some v') (hR : R v') : PureP AP f args R :=
  ⟨v', ⟨1, by simp only [pureCall, run, hf, h]; exact hs⟩, hR⟩

theorem ixP {l : List UInt8} : PureP (findFn tab) 107 [.str l, .fn 108 []] (· = .int .i64 (firstBad l)) :=
  pureP_ext rfl rfl rfl rfl

theorem firstBad_iff {l : List UInt8} : firstBad l < 0 ↔ ∀ c ∈ l, badB c = false := by
  unfold firstBad
  cases h : List.findIdx? badB l with
  | none =>
    refine ⟨fun _ c hc => ?_, fun _ => by decide⟩
    have := List.findIdx?_eq_none_iff.1 h c hc
    simpa using this
  | some i =>
    refine ⟨fun h => ?_, fun ha => ?_⟩
    · simp at h; omega
    · obtain ⟨h1, h2, _⟩ := List.findIdx?_eq_some_iff_getElem.1 h
      rw [ha _ (List.getElem_mem h1)] at h2
      cases h2

/-- an integer's range -/
def inR (n : Int) : Prop := -1000000000000000 ≤ n ∧ n ≤ 1000000000000000
instance (n : Int) : Decidable (inR n) := by unfold inR; infer_instance

theorem inP {n : Int} : PureP (findFn tab) 105 [.int .i64 n] (· = .bool (decide (inR n))) := by
  refine pureP_of rfl rfl ?_
  (conv => whnf); repeat' (first | (refine need.mk ?_ ?_; (· (first | with_reducible rfl | omega | rfl | decide | trivial | exact ⟨rfl, rfl, by omega, by omega⟩ | exact ⟨by omega, by omega, roomy_of (by omega)⟩ | (refine ⟨rfl, rfl, ?_⟩; first | ((first | rw [lI] | rw [lS] | rw [lB] | rw [lV]); omega) | (simp; done) | (simp; omega)) | (refine ⟨rfl, ?_⟩; first | ((first | rw [lI] | rw [lS] | rw [lB] | rw [lV]); omega) | (simp; done) | (simp; omega)) | fail)); conv => whnf) | (refine pcase.mk (fun hc => ?_) (fun hc => ?_) <;> (try rw [List.length_nil] at hc) <;> first | (exfalso; omega) | (exact absurd rfl hc) | conv => whnf) | (apply wrapK_intro; (· exact wrap_i64 (by omega) (by omega)); conv => whnf) | (apply nthK_intro; (· (first | ((with_reducible first | refine nIN ?_ | refine nI ?_ | refine nSN ?_ | refine nS ?_ | refine nBN ?_ | refine nB ?_ | refine nYN ?_ | refine nY ?_ | refine nY0 ?_ | refine nVN ?_ | refine nV ?_); (first | omega | (simp; omega))) | rfl)); conv => whnf) | (apply getK_intro; (· rfl); conv => whnf) | (apply eqK_intro; (· (first | (with_reducible first | exact lI _ | exact lS _ | exact lB _ | exact uI | exact uS | exact uIS | exact uSS | exact rIN _ _ | exact rI _ _ | exact tIN | exact tI | exact tBN | exact tB | exact uB | exact rBN _ _ | exact lV _ | exact uV | exact uVS) | rfl)); conv => whnf) | ((first | apply apI | apply apS); (· first | rfl | (simp; done)); (· (first | omega | (simp; omega))); conv => whnf) | (refine fkI (fun hm => ?_) (fun _ v hm => ?_) <;> conv => whnf) | (apply msI; conv => whnf)  | (refine bcase_intro (fun hc => ?_) (fun hc => ?_) <;> conv => whnf))
  all_goals first | exact bool_t (by unfold inR; omega) | exact bool_f (by unfold inR; omega)

theorem inP2 {n : Int} : PureP (findFn tab) 113 [.int .i64 n] (· = .bool (decide (inR n))) := by
  refine pureP_of rfl rfl ?_
  (conv => whnf); repeat' (first | (refine need.mk ?_ ?_; (· (first | with_reducible rfl | omega | rfl | decide | trivial | exact ⟨rfl, rfl, by omega, by omega⟩ | exact ⟨by omega, by omega, roomy_of (by omega)⟩ | (refine ⟨rfl, rfl, ?_⟩; first | ((first | rw [lI] | rw [lS] | rw [lB] | rw [lV]); omega) | (simp; done) | (simp; omega)) | (refine ⟨rfl, ?_⟩; first | ((first | rw [lI] | rw [lS] | rw [lB] | rw [lV]); omega) | (simp; done) | (simp; omega)) | fail)); conv => whnf) | (refine pcase.mk (fun hc => ?_) (fun hc => ?_) <;> (try rw [List.length_nil] at hc) <;> first | (exfalso; omega) | (exact absurd rfl hc) | conv => whnf) | (apply wrapK_intro; (· exact wrap_i64 (by omega) (by omega)); conv => whnf) | (apply nthK_intro; (· (first | ((with_reducible first | refine nIN ?_ | refine nI ?_ | refine nSN ?_ | refine nS ?_ | refine nBN ?_ | refine nB ?_ | refine nYN ?_ | refine nY ?_ | refine nY0 ?_ | refine nVN ?_ | refine nV ?_); (first | omega | (simp; omega))) | rfl)); conv => whnf) | (apply getK_intro; (· rfl); conv => whnf) | (apply eqK_intro; (· (first | (with_reducible first | exact lI _ | exact lS _ | exact lB _ | exact uI | exact uS | exact uIS | exact uSS | exact rIN _ _ | exact rI _ _ | exact tIN | exact tI | exact tBN | exact tB | exact uB | exact rBN _ _ | exact lV _ | exact uV | exact uVS) | rfl)); conv => whnf) | ((first | apply apI | apply apS); (· first | rfl | (simp; done)); (· (first | omega | (simp; omega))); conv => whnf) | (refine fkI (fun hm => ?_) (fun _ v hm => ?_) <;> conv => whnf) | (apply msI; conv => whnf)  | (refine bcase_intro (fun hc => ?_) (fun hc => ?_) <;> conv => whnf))
  all_goals first | exact bool_t (by unfold inR; omega) | exact bool_f (by unfold inR; omega)

/-- a byte of a string value -/
def okS (s : List UInt8) : Prop := s.length ≤ 100 ∧ ∀ c ∈ s, badB c = false
instance (s : List UInt8) : Decidable (okS s) := by unfold okS; infer_instance

/-- a valid value of a kind that may be stored -/
def leafV (v : GV) : Prop := v.d = 0 ∧ v.l.length = 0 ∧ (v.k = 1 ∧ v.s = [] ∧ (v.n = 0 ∨ v.n = 1) ∨ v.k = 2 ∧ v.s = [] ∧ inR v.n ∨ v.k = 4 ∧ v.n = 0 ∧ okS v.s)
instance (v : GV) : Decidable (leafV v) := by unfold leafV; infer_instance

/-- of a kind that may be stored -/
def kindP (v : GV) : Prop := v.k = 1 ∨ v.k = 2 ∨ v.k = 4
instance (v : GV) : Decidable (kindP v) := by unfold kindP; infer_instance

theorem leaf_kind {v : GV} (h : leafV v) : kindP v := by unfold leafV at h; unfold kindP; omega
theorem leaf_1 {v : GV} (h : v.k = 1) (h1 : v.d = 0) (h2 : v.l.length = 0) (h3 : v.s = []) (h4 : v.n = 0 ∨ v.n = 1) : leafV v := ⟨h1, h2, .inl ⟨h, h3, h4⟩⟩
theorem leaf_2 {v : GV} (h : v.k = 2) (h1 : v.d = 0) (h2 : v.l.length = 0) (h3 : v.s = []) (h4 : inR v.n) : leafV v := ⟨h1, h2, .inr (.inl ⟨h, h3, h4⟩)⟩
theorem leaf_4 {v : GV} (h : v.k = 4) (h1 : v.d = 0) (h2 : v.l.length = 0) (h3 : v.n = 0) (h4 : okS v.s) : leafV v := ⟨h1, h2, .inr (.inr ⟨h, h3, h4⟩)⟩
theorem leaf_s {v : GV} (h : leafV v) (hk : v.k ≠ 4) : v.s = [] := by
  obtain ⟨_, _, h⟩ := h
  rcases h with h | h | h
  · exact h.2.1
  · exact h.2.1
  · exact absurd h.1 hk
theorem leaf_n {v : GV} (h : leafV v) (hk : v.k = 1) : v.n = 0 ∨ v.n = 1 := by
  obtain ⟨_, _, h⟩ := h; omega
theorem leaf_r {v : GV} (h : leafV v) (hk : v.k = 2) : inR v.n := by
  obtain ⟨_, _, h⟩ := h
  rcases h with h | h | h <;> first | exact h.2.2 | omega
theorem leaf_z {v : GV} (h : leafV v) (hk : v.k = 4) : v.n = 0 ∧ okS v.s := by
  obtain ⟨_, _, h⟩ := h
  rcases h with h | h | h <;> first | exact h.2 | omega

theorem vld {v : GV} (hv : v.ok) (hk : kindP v) {n : Int} : PureP (findFn tab) 94 [v.av, .int .i64 n] (· = .bool (decide (leafV v))) := by
  obtain ⟨g1, g2, g3, g4, g5, g6, g7⟩ := hv
  unfold Ln at g4 g5
  unfold kindP at hk
  refine pureP_of rfl rfl ?_
  (conv => whnf); repeat' (first | (refine need.mk ?_ ?_; (· (first | with_reducible rfl | omega | rfl | decide | trivial | exact ⟨rfl, rfl, by omega, by omega⟩ | exact ⟨by omega, by omega, roomy_of (by omega)⟩ | (refine ⟨rfl, rfl, ?_⟩; first | ((first | rw [lI] | rw [lS] | rw [lB] | rw [lV]); omega) | (simp; done) | (simp; omega)) | (refine ⟨rfl, ?_⟩; first | ((first | rw [lI] | rw [lS] | rw [lB] | rw [lV]); omega) | (simp; done) | (simp; omega)) | fail)); conv => whnf) | (refine pcase.mk (fun hc => ?_) (fun hc => ?_) <;> (try rw [List.length_nil] at hc) <;> first | (exfalso; omega) | (exact absurd rfl hc) | conv => whnf) | (apply wrapK_intro; (· exact wrap_i64 (by omega) (by omega)); conv => whnf) | (apply nthK_intro; (· (first | ((with_reducible first | refine nIN ?_ | refine nI ?_ | refine nSN ?_ | refine nS ?_ | refine nBN ?_ | refine nB ?_ | refine nYN ?_ | refine nY ?_ | refine nY0 ?_ | refine nVN ?_ | refine nV ?_); (first | omega | (simp; omega))) | rfl)); conv => whnf) | (apply getK_intro; (· rfl); conv => whnf) | (apply eqK_intro; (· (first | (with_reducible first | exact lI _ | exact lS _ | exact lB _ | exact uI | exact uS | exact uIS | exact uSS | exact rIN _ _ | exact rI _ _ | exact tIN | exact tI | exact tBN | exact tB | exact uB | exact rBN _ _ | exact lV _ | exact uV | exact uVS) | rfl)); conv => whnf) | ((first | apply apI | apply apS); (· first | rfl | (simp; done)); (· (first | omega | (simp; omega))); conv => whnf) | (refine fkI (fun hm => ?_) (fun _ v hm => ?_) <;> conv => whnf) | (apply msI; conv => whnf) | (refine callB (inP (n := v.n)) (fun hr => ?_) (fun hr => ?_) <;> conv => whnf) | (refine callK_of (ixP (l := v.s)) ?_; rintro _ rfl; conv => whnf) | (refine bcase_intro (fun hc => ?_) (fun hc => ?_) <;> conv => whnf))
  all_goals first
    | exact bool_f (fun h => by have := h.2.1; omega)
    | (refine bool_t ?_; clear g7 g6; unfold leafV okS; rw [← firstBad_iff]; first | (simp_all; done) | (simp_all; omega))
    | (refine bool_f ?_; clear g7 g6; unfold leafV okS; rw [← firstBad_iff]; first | (simp_all; done) | (simp_all; omega))

theorem vldV {v : GV} (hv : v.ok) (hk : kindP v) : PureP (findFn tab) 72 [v.av] (· = .bool (decide (leafV v))) := by
  refine pureP_of rfl rfl ?_
  (conv => whnf); repeat' (first | (refine need.mk ?_ ?_; (· (first | with_reducible rfl | omega | rfl | decide | trivial | exact ⟨rfl, rfl, by omega, by omega⟩ | exact ⟨by omega, by omega, roomy_of (by omega)⟩ | (refine ⟨rfl, rfl, ?_⟩; first | ((first | rw [lI] | rw [lS] | rw [lB] | rw [lV]); omega) | (simp; done) | (simp; omega)) | (refine ⟨rfl, ?_⟩; first | ((first | rw [lI] | rw [lS] | rw [lB] | rw [lV]); omega) | (simp; done) | (simp; omega)) | fail)); conv => whnf) | (refine pcase.mk (fun hc => ?_) (fun hc => ?_) <;> (try rw [List.length_nil] at hc) <;> first | (exfalso; omega) | (exact absurd rfl hc) | conv => whnf) | (apply wrapK_intro; (· exact wrap_i64 (by omega) (by omega)); conv => whnf) | (apply nthK_intro; (· (first | ((with_reducible first | refine nIN ?_ | refine nI ?_ | refine nSN ?_ | refine nS ?_ | refine nBN ?_ | refine nB ?_ | refine nYN ?_ | refine nY ?_ | refine nY0 ?_ | refine nVN ?_ | refine nV ?_); (first | omega | (simp; omega))) | rfl)); conv => whnf) | (apply getK_intro; (· rfl); conv => whnf) | (apply eqK_intro; (· (first | (with_reducible first | exact lI _ | exact lS _ | exact lB _ | exact uI | exact uS | exact uIS | exact uSS | exact rIN _ _ | exact rI _ _ | exact tIN | exact tI | exact tBN | exact tB | exact uB | exact rBN _ _ | exact lV _ | exact uV | exact uVS) | rfl)); conv => whnf) | ((first | apply apI | apply apS); (· first | rfl | (simp; done)); (· (first | omega | (simp; omega))); conv => whnf) | (refine fkI (fun hm => ?_) (fun _ v hm => ?_) <;> conv => whnf) | (apply msI; conv => whnf) | (refine callB (vld (v := v) hv hk) (fun hr => ?_) (fun hr => ?_) <;> conv => whnf) | (refine bcase_intro (fun hc => ?_) (fun hc => ?_) <;> conv => whnf))
  all_goals first | exact bool_t (by assumption) | exact bool_f (by assumption)

theorem plain1 {v : GV} (hv : v.ok) : PureP (findFn tab) 57 [v.av] (· = .bool (decide (leafV v))) := by
  refine pureP_of rfl rfl ?_
  (conv => whnf); repeat' (first | (refine need.mk ?_ ?_; (· (first | with_reducible rfl | omega | rfl | decide | trivial | exact ⟨rfl, rfl, by omega, by omega⟩ | exact ⟨by omega, by omega, roomy_of (by omega)⟩ | (refine ⟨rfl, rfl, ?_⟩; first | ((first | rw [lI] | rw [lS] | rw [lB] | rw [lV]); omega) | (simp; done) | (simp; omega)) | (refine ⟨rfl, ?_⟩; first | ((first | rw [lI] | rw [lS] | rw [lB] | rw [lV]); omega) | (simp; done) | (simp; omega)) | fail)); conv => whnf) | (refine pcase.mk (fun hc => ?_) (fun hc => ?_) <;> (try rw [List.length_nil] at hc) <;> first | (exfalso; omega) | (exact absurd rfl hc) | conv => whnf) | (apply wrapK_intro; (· exact wrap_i64 (by omega) (by omega)); conv => whnf) | (apply nthK_intro; (· (first | ((with_reducible first | refine nIN ?_ | refine nI ?_ | refine nSN ?_ | refine nS ?_ | refine nBN ?_ | refine nB ?_ | refine nYN ?_ | refine nY ?_ | refine nY0 ?_ | refine nVN ?_ | refine nV ?_); (first | omega | (simp; omega))) | rfl)); conv => whnf) | (apply getK_intro; (· rfl); conv => whnf) | (apply eqK_intro; (· (first | (with_reducible first | exact lI _ | exact lS _ | exact lB _ | exact uI | exact uS | exact uIS | exact uSS | exact rIN _ _ | exact rI _ _ | exact tIN | exact tI | exact tBN | exact tB | exact uB | exact rBN _ _ | exact lV _ | exact uV | exact uVS) | rfl)); conv => whnf) | ((first | apply apI | apply apS); (· first | rfl | (simp; done)); (· (first | omega | (simp; omega))); conv => whnf) | (refine fkI (fun hm => ?_) (fun _ v hm => ?_) <;> conv => whnf) | (apply msI; conv => whnf) | (refine callB (vldV (v := v) hv (by unfold kindP; omega)) (fun hr => ?_) (fun hr => ?_) <;> conv => whnf) | (refine bcase_intro (fun hc => ?_) (fun hc => ?_) <;> conv => whnf))
  all_goals first | exact bool_t (by assumption) | exact bool_f (by assumption) | exact bool_f fun h => absurd (leaf_kind h) (by unfold kindP; omega)

end AI
end Go.Proofs.YtokdbmakkoleiaaGreat
