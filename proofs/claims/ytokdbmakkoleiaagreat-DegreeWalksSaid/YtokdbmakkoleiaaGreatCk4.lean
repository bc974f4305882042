/- Looking for a node among increasing ids. -/
import Derived.Test.YtokdbmakkoleiaaGreatCk3
import Derived.Test.YtokdbmakkoleiaaGreatCmI
set_option linter.unusedVariables false
namespace Go.Proofs.YtokdbmakkoleiaaGreat
namespace AI

/-- ids that increase -/
def incr (l : List Int) : Prop := ∀ j (h : j + 1 < l.length), l[j] < l[j + 1]
noncomputable instance (l : List Int) : Decidable (incr l) := Classical.propDecidable _

theorem incr_lt {l : List Int} (h : incr l) {i : Nat} : ∀ d (hd : i + d + 1 < l.length), l[i] < l[i + d + 1]
  | 0, hd => h i hd
  | d + 1, hd => Int.lt_trans (incr_lt h d (by omega)) (h (i + d + 1) hd)

theorem incr_mono {l : List Int} (h : incr l) {i j : Nat} (hij : i < j) (hj : j < l.length) : l[i] < l[j] := by
  obtain ⟨d, rfl⟩ : ∃ d, j = i + d + 1 := ⟨j - i - 1, by omega⟩
  exact incr_lt h d hj

def nids (N : List GN) : List Int := N.map GN.id
def eids (E : List GE) : List Int := E.map GE.id
@[simp] theorem nids_len (N : List GN) : (nids N).length = N.length := by simp [nids]
@[simp] theorem eids_len (N : List GE) : (eids N).length = N.length := by simp [eids]
theorem nids_at {N : List GN} {i : Nat} (h : i < N.length) : (nids N)[i]'(by simpa using h) = (N[i]).id := by simp [nids]
theorem eids_at {N : List GE} {i : Nat} (h : i < N.length) : (eids N)[i]'(by simpa using h) = (N[i]).id := by simp [eids]
theorem nid_lt {N : List GN} (h : incr (nids N)) {i j : Nat} (hij : i < j) (hj : j < N.length) : (N[i]).id < (N[j]).id := by
  have := incr_mono h hij (by simpa using hj)
  rwa [nids_at (by omega), nids_at hj] at this

theorem has1 {n : GN} {x : Int} : PureP (findFn tab) 59 [n.av, .int .i64 x] (· = .int .i64 (cmpI n.id x)) := by
  refine pureP_of rfl rfl ?_
  (conv => whnf); repeat' (first | (refine need.mk ?_ ?_; (· (first | with_reducible rfl | omega | rfl | decide | trivial | exact ⟨rfl, rfl, by omega, by omega⟩ | exact ⟨by omega, by omega, roomy_of (by omega)⟩ | (refine ⟨rfl, rfl, ?_⟩; first | ((first | rw [lI] | rw [lS] | rw [lB] | rw [lV]); omega) | (simp; done) | (simp; omega)) | (refine ⟨rfl, ?_⟩; first | ((first | rw [lI] | rw [lS] | rw [lB] | rw [lV]); omega) | (simp; done) | (simp; omega)) | fail)); conv => whnf) | (refine pcase.mk (fun hc => ?_) (fun hc => ?_) <;> (try rw [List.length_nil] at hc) <;> first | (exfalso; omega) | (exact absurd rfl hc) | conv => whnf) | (apply wrapK_intro; (· exact wrap_i64 (by omega) (by omega)); conv => whnf) | (apply nthK_intro; (· (first | ((with_reducible first | refine nIN ?_ | refine nI ?_ | refine nSN ?_ | refine nS ?_ | refine nBN ?_ | refine nB ?_ | refine nYN ?_ | refine nY ?_ | refine nY0 ?_ | refine nVN ?_ | refine nV ?_); (first | omega | (simp; omega))) | rfl)); conv => whnf) | (apply getK_intro; (· rfl); conv => whnf) | (apply eqK_intro; (· (first | (with_reducible first | exact lI _ | exact lS _ | exact lB _ | exact uI | exact uS | exact uIS | exact uSS | exact rIN _ _ | exact rI _ _ | exact tIN | exact tI | exact tBN | exact tB | exact uB | exact rBN _ _ | exact lV _ | exact uV | exact uVS) | rfl)); conv => whnf) | ((first | apply apI | apply apS); (· first | rfl | (simp; done)); (· (first | omega | (simp; omega))); conv => whnf) | (refine fkI (fun hm => ?_) (fun _ v hm => ?_) <;> conv => whnf) | (apply msI; conv => whnf) | (refine callK_of compare ?_; rintro _ rfl; conv => whnf) | (refine bcase_intro (fun hc => ?_) (fun hc => ?_) <;> conv => whnf))
  rfl

theorem bsearch {N : List GN} {nn : Bool} {x : Int} (hN : N.length < 2^62) (hi : incr (nids N)) : PureP (findFn tab) 58 [.sl nn (vs GN.av N), .int .i64 x, .fn 59 []] (fun v => ∃ z b, v = .tup [.int .i64 z, .bool b] ∧ (b = true ↔ x ∈ nids N)) := by
  have fin : ∀ i : Nat, i ≤ N.length → (∀ k (h : k < N.length), k < i → (N[k]).id < x) → (∀ k (h : k < N.length), i ≤ k → x ≤ (N[k]).id) → (x ∈ nids N ↔ ∃ h : i < N.length, (N[i]).id = x) := by
    intro i h0 h1 h2
    constructor
    · intro h
      obtain ⟨k, hk, e⟩ := List.getElem_of_mem h
      have hk' : k < N.length := by simpa using hk
      rw [nids_at hk'] at e
      have a1 := h1 k hk'
      have : i ≤ k := by
        rcases Nat.lt_or_ge k i with h | h
        · have := a1 h; omega
        · exact h
      rcases Nat.lt_or_ge i k with h | h
      · have := nid_lt hi h hk'
        have := h2 i (by omega) (Nat.le_refl _)
        omega
      · obtain rfl : i = k := by omega
        exact ⟨hk', e⟩
    · rintro ⟨h, e⟩
      rw [← e, ← nids_at h]
      exact List.getElem_mem _
  refine pureP_of rfl rfl ?_
  (conv => whnf); repeat' (first | (refine need.mk ?_ ?_; (· (first | with_reducible rfl | omega | rfl | decide | trivial | exact ⟨rfl, rfl, by omega, by omega⟩ | exact ⟨by omega, by omega, roomy_of (by omega)⟩ | (refine ⟨rfl, rfl, ?_⟩; first | ((first | rw [lI] | rw [lS] | rw [lB] | rw [lV]); omega) | (simp; done) | (simp; omega)) | (refine ⟨rfl, ?_⟩; first | ((first | rw [lI] | rw [lS] | rw [lB] | rw [lV]); omega) | (simp; done) | (simp; omega)) | fail)); conv => whnf) | (refine pcase.mk (fun hc => ?_) (fun hc => ?_) <;> (try rw [List.length_nil] at hc) <;> first | (exfalso; omega) | (exact absurd rfl hc) | conv => whnf) | (apply wrapK_intro; (· exact wrap_i64 (by omega) (by omega)); conv => whnf) | (apply nthK_intro; (· (first | ((with_reducible first | refine nIN ?_ | refine nI ?_ | refine nSN ?_ | refine nS ?_ | refine nBN ?_ | refine nB ?_ | refine nYN ?_ | refine nY ?_ | refine nY0 ?_ | refine nVN ?_ | refine nV ?_); (first | omega | (simp; omega))) | rfl)); conv => whnf) | (apply getK_intro; (· rfl); conv => whnf) | (apply eqK_intro; (· (first | (with_reducible first | exact lI _ | exact lS _ | exact lB _ | exact uI | exact uS | exact uIS | exact uSS | exact rIN _ _ | exact rI _ _ | exact tIN | exact tI | exact tBN | exact tB | exact uB | exact rBN _ _ | exact lV _ | exact uV | exact uVS) | rfl)); conv => whnf) | ((first | apply apI | apply apS); (· first | rfl | (simp; done)); (· (first | omega | (simp; omega))); conv => whnf) | (refine fkI (fun hm => ?_) (fun _ v hm => ?_) <;> conv => whnf) | (apply msI; conv => whnf)  | (refine bcase_intro (fun hc => ?_) (fun hc => ?_) <;> conv => whnf))
  refine loop_inv (fun m env s => ∃ (i j : Nat), m = j - i ∧ i ≤ j ∧ j ≤ N.length ∧ env = [(0, .sl nn (vs GN.av N)), (1, .int .i64 x), (2, .fn 59 []), (8, .int .i64 N.length), (9, .int .i64 i), (10, .int .i64 j)] ∧ s = ⟨[], 0⟩ ∧
    (∀ k (h : k < N.length), k < i → (N[k]).id < x) ∧ (∀ k (h : k < N.length), j ≤ k → x ≤ (N[k]).id)) ?_ _ _ _ ⟨0, N.length, rfl, by omega, by omega, by simp, rfl, fun k _ h => absurd h (by omega), fun k h1 h => absurd h (by omega)⟩
  rintro _ _ _ ⟨i, j, rfl, hij, hj, rfl, rfl, h1, h2⟩
  refine ⟨rfl, ?_⟩
  (conv => whnf); repeat' (first | (refine wrapU (i + j) (by omega) (by omega) ?_; conv => whnf) | (apply eqK_intro; (· exact shrE _); conv => whnf) | (refine callK_of has1 ?_; rintro _ rfl; conv => whnf) | (refine need.mk ?_ ?_; (· (first | with_reducible rfl | omega | rfl | decide | trivial | exact ⟨rfl, rfl, by omega, by omega⟩ | exact ⟨by omega, by omega, roomy_of (by omega)⟩ | (refine ⟨rfl, rfl, ?_⟩; first | ((first | rw [lI] | rw [lS] | rw [lB] | rw [lV]); omega) | (simp; done) | (simp; omega)) | (refine ⟨rfl, ?_⟩; first | ((first | rw [lI] | rw [lS] | rw [lB] | rw [lV]); omega) | (simp; done) | (simp; omega)) | fail)); conv => whnf) | (refine pcase.mk (fun hc => ?_) (fun hc => ?_) <;> (try rw [List.length_nil] at hc) <;> first | (exfalso; omega) | (exact absurd rfl hc) | conv => whnf) | (apply wrapK_intro; (· exact wrap_i64 (by omega) (by omega)); conv => whnf) | (apply nthK_intro; (· (first | ((with_reducible first | refine nIN ?_ | refine nI ?_ | refine nSN ?_ | refine nS ?_ | refine nBN ?_ | refine nB ?_ | refine nYN ?_ | refine nY ?_ | refine nY0 ?_ | refine nVN ?_ | refine nV ?_); (first | omega | (simp; omega))) | rfl)); conv => whnf) | (apply getK_intro; (· rfl); conv => whnf) | (apply eqK_intro; (· (first | (with_reducible first | exact lI _ | exact lS _ | exact lB _ | exact uI | exact uS | exact uIS | exact uSS | exact rIN _ _ | exact rI _ _ | exact tIN | exact tI | exact tBN | exact tB | exact uB | exact rBN _ _ | exact lV _ | exact uV | exact uVS) | rfl)); conv => whnf) | ((first | apply apI | apply apS); (· first | rfl | (simp; done)); (· (first | omega | (simp; omega))); conv => whnf) | (refine fkI (fun hm => ?_) (fun _ v hm => ?_) <;> conv => whnf) | (apply msI; conv => whnf) | (refine bcase_intro (fun hc => ?_) (fun hc => ?_) <;> conv => whnf))
  · have hm := cmpI_neg.1 hc
    exact again.mk ⟨_, by omega, (i + j) / 2 + 1, j, rfl, by omega, hj, rfl, rfl, fun k hk hlt => by
      rcases Nat.lt_or_ge k ((i + j) / 2) with h | h
      · exact Int.lt_trans (nid_lt hi h (by omega)) hm
      · obtain rfl : k = (i + j) / 2 := by omega
        exact hm, h2⟩
  · have hm := mt cmpI_neg.2 hc
    exact again.mk ⟨_, by omega, i, (i + j) / 2, rfl, by omega, by omega, rfl, rfl, h1, fun k hk hle => by
      rcases Nat.lt_or_ge ((i + j) / 2) k with h | h
      · have := nid_lt hi h hk; omega
      · obtain rfl : k = (i + j) / 2 := by omega
        omega⟩
  all_goals have hf := fin i (by omega) h1 (fun k hk h => h2 k hk (by omega))
  · exact ⟨_, _, rfl, fun _ => hf.2 ⟨by omega, cmpI_zero.1 hc⟩, fun _ => rfl⟩
  · exact ⟨_, _, rfl, fun h => (Bool.noConfusion h), fun h => absurd (cmpI_zero.2 (hf.1 h).2) hc⟩
  · exact ⟨_, _, rfl, fun h => (Bool.noConfusion h), fun h => absurd (hf.1 h).1 (by omega)⟩

theorem hasP {N : List GN} {nn : Bool} {x : Int} (hN : N.length < 2^62) (hi : incr (nids N)) : PureP (findFn tab) 41 [.sl nn (vs GN.av N), .int .i64 x] (· = .bool (decide (x ∈ nids N))) := by
  refine pureP_of rfl rfl ?_
  (conv => whnf); repeat' (first | (refine need.mk ?_ ?_; (· (first | with_reducible rfl | omega | rfl | decide | trivial | exact ⟨rfl, rfl, by omega, by omega⟩ | exact ⟨by omega, by omega, roomy_of (by omega)⟩ | (refine ⟨rfl, rfl, ?_⟩; first | ((first | rw [lI] | rw [lS] | rw [lB] | rw [lV]); omega) | (simp; done) | (simp; omega)) | (refine ⟨rfl, ?_⟩; first | ((first | rw [lI] | rw [lS] | rw [lB] | rw [lV]); omega) | (simp; done) | (simp; omega)) | fail)); conv => whnf) | (refine pcase.mk (fun hc => ?_) (fun hc => ?_) <;> (try rw [List.length_nil] at hc) <;> first | (exfalso; omega) | (exact absurd rfl hc) | conv => whnf) | (apply wrapK_intro; (· exact wrap_i64 (by omega) (by omega)); conv => whnf) | (apply nthK_intro; (· (first | ((with_reducible first | refine nIN ?_ | refine nI ?_ | refine nSN ?_ | refine nS ?_ | refine nBN ?_ | refine nB ?_ | refine nYN ?_ | refine nY ?_ | refine nY0 ?_ | refine nVN ?_ | refine nV ?_); (first | omega | (simp; omega))) | rfl)); conv => whnf) | (apply getK_intro; (· rfl); conv => whnf) | (apply eqK_intro; (· (first | (with_reducible first | exact lI _ | exact lS _ | exact lB _ | exact uI | exact uS | exact uIS | exact uSS | exact rIN _ _ | exact rI _ _ | exact tIN | exact tI | exact tBN | exact tB | exact uB | exact rBN _ _ | exact lV _ | exact uV | exact uVS) | rfl)); conv => whnf) | ((first | apply apI | apply apS); (· first | rfl | (simp; done)); (· (first | omega | (simp; omega))); conv => whnf) | (refine fkI (fun hm => ?_) (fun _ v hm => ?_) <;> conv => whnf) | (apply msI; conv => whnf)  | (refine bcase_intro (fun hc => ?_) (fun hc => ?_) <;> conv => whnf))
  refine callK_of (bsearch hN hi) ?_
  rintro _ ⟨z, b, rfl, hb⟩
  (conv => whnf); repeat' (first | (refine need.mk ?_ ?_; (· (first | with_reducible rfl | omega | rfl | decide | trivial | exact ⟨rfl, rfl, by omega, by omega⟩ | exact ⟨by omega, by omega, roomy_of (by omega)⟩ | (refine ⟨rfl, rfl, ?_⟩; first | ((first | rw [lI] | rw [lS] | rw [lB] | rw [lV]); omega) | (simp; done) | (simp; omega)) | (refine ⟨rfl, ?_⟩; first | ((first | rw [lI] | rw [lS] | rw [lB] | rw [lV]); omega) | (simp; done) | (simp; omega)) | fail)); conv => whnf) | (refine pcase.mk (fun hc => ?_) (fun hc => ?_) <;> (try rw [List.length_nil] at hc) <;> first | (exfalso; omega) | (exact absurd rfl hc) | conv => whnf) | (apply wrapK_intro; (· exact wrap_i64 (by omega) (by omega)); conv => whnf) | (apply nthK_intro; (· (first | ((with_reducible first | refine nIN ?_ | refine nI ?_ | refine nSN ?_ | refine nS ?_ | refine nBN ?_ | refine nB ?_ | refine nYN ?_ | refine nY ?_ | refine nY0 ?_ | refine nVN ?_ | refine nV ?_); (first | omega | (simp; omega))) | rfl)); conv => whnf) | (apply getK_intro; (· rfl); conv => whnf) | (apply eqK_intro; (· (first | (with_reducible first | exact lI _ | exact lS _ | exact lB _ | exact uI | exact uS | exact uIS | exact uSS | exact rIN _ _ | exact rI _ _ | exact tIN | exact tI | exact tBN | exact tB | exact uB | exact rBN _ _ | exact lV _ | exact uV | exact uVS) | rfl)); conv => whnf) | ((first | apply apI | apply apS); (· first | rfl | (simp; done)); (· (first | omega | (simp; omega))); conv => whnf) | (refine fkI (fun hm => ?_) (fun _ v hm => ?_) <;> conv => whnf) | (apply msI; conv => whnf)  | (refine bcase_intro (fun hc => ?_) (fun hc => ?_) <;> conv => whnf))
  · exact bool_t (hb.1 hc)
  · exact bool_f fun h => by rw [hb.2 h] at hc; cases hc

end AI
end Go.Proofs.YtokdbmakkoleiaaGreat
