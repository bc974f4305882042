/- Sorting (slices.Sort[[]string,string]), leaving out what repeats (slices.Compact[[]string,string]). -/
import Derived.Test.YtnakgkibjlcjlaaPsD
import Derived.Test.YtnakgkibjlcjlaaPd2
set_option linter.unusedVariables false
namespace Go.Proofs.Ytnakgkibjlcjlaa
namespace AI
open Go.Sort

theorem pssort {ob0 : Obj} {g len c : Nat} {nn cl : Bool} {L : List (List UInt8)} (hl : L.length = len) (hs : len < 2^61) :
    Calls1 (findFn tab) 60 [.own 1 g 0 len] ⟨[ob0, .arr g 1 nn cl (vs .str L)], c⟩ fun out s' => ∃ c' W, out = .ok (.tup []) ∧ s' = ⟨[ob0, .arr g 1 nn cl (vs .str W)], c'⟩ ∧ W.Perm L ∧ W.Pairwise (fun x y => ltS y x = false) := by
  have hb : bitsLen len ≤ 62 := (bitsLen_le_iff len 62).2 (by omega)
  refine calls1_of rfl rfl ?_
  (conv => whnf); repeat' (first | (refine wrapN len rfl rfl (by show _ < 2^64; omega) ?_; conv => whnf) | (refine callK_of (bitsLenP (n := len) (by omega)) ?_; rintro _ rfl; conv => whnf) | (refine need.mk ?_ ?_; (· (first | with_reducible rfl | omega | rfl | decide | trivial | exact ⟨rfl, rfl, by omega, by omega⟩ | exact ⟨by omega, by omega, roomy_of (by omega)⟩ | (refine ⟨rfl, rfl, ?_⟩; first | ((first | rw [lI] | rw [lS] | rw [lB] | rw [lV]); omega) | (simp; done) | (simp; omega)) | (refine ⟨rfl, ?_⟩; first | ((first | rw [lI] | rw [lS] | rw [lB] | rw [lV]); omega) | (simp; done) | (simp; omega)) | fail)); conv => whnf) | (refine pcase.mk (fun hc => ?_) (fun hc => ?_) <;> (try rw [List.length_nil] at hc) <;> first | (exfalso; omega) | (exact absurd rfl hc) | conv => whnf) | (apply wrapK_intro; (· exact wrap_i64 (by omega) (by omega)); conv => whnf) | (apply nthK_intro; (· (first | ((with_reducible first | refine nIN ?_ | refine nI ?_ | refine nSN ?_ | refine nS ?_ | refine nBN ?_ | refine nB ?_ | refine nYN ?_ | refine nY ?_ | refine nY0 ?_ | refine nVN ?_ | refine nV ?_); (first | omega | (simp; omega))) | rfl)); conv => whnf) | (apply getK_intro; (· rfl); conv => whnf) | (apply eqK_intro; (· (first | (with_reducible first | exact lI _ | exact lS _ | exact lB _ | exact uI | exact uS | exact uIS | exact uSS | exact rIN _ _ | exact rI _ _ | exact tIN | exact tI | exact tBN | exact tB | exact uB | exact rBN _ _ | exact lV _ | exact uV | exact uVS) | rfl)); conv => whnf) | ((first | apply apI | apply apS); (· first | rfl | (simp; done)); (· (first | omega | (simp; omega))); conv => whnf) | (refine fkI (fun hm => ?_) (fun _ v hm => ?_) <;> conv => whnf) | (apply msI; conv => whnf) | (refine bcase_intro (fun hc => ?_) (fun hc => ?_) <;> conv => whnf))
  refine (pssortQ hl hs (by omega) (by omega)).mono ?_
  rintro _ _ ⟨c', W, rfl, rfl, h1, h2⟩
  conv => whnf
  apply getK_intro rfl
  (conv => whnf); repeat' (first | (refine need.mk ?_ ?_; (· (first | with_reducible rfl | omega | rfl | decide | trivial | exact ⟨rfl, rfl, by omega, by omega⟩ | exact ⟨by omega, by omega, roomy_of (by omega)⟩ | (refine ⟨rfl, rfl, ?_⟩; first | ((first | rw [lI] | rw [lS] | rw [lB] | rw [lV]); omega) | (simp; done) | (simp; omega)) | (refine ⟨rfl, ?_⟩; first | ((first | rw [lI] | rw [lS] | rw [lB] | rw [lV]); omega) | (simp; done) | (simp; omega)) | fail)); conv => whnf) | (refine pcase.mk (fun hc => ?_) (fun hc => ?_) <;> (try rw [List.length_nil] at hc) <;> first | (exfalso; omega) | (exact absurd rfl hc) | conv => whnf) | (apply wrapK_intro; (· exact wrap_i64 (by omega) (by omega)); conv => whnf) | (apply nthK_intro; (· (first | ((with_reducible first | refine nIN ?_ | refine nI ?_ | refine nSN ?_ | refine nS ?_ | refine nBN ?_ | refine nB ?_ | refine nYN ?_ | refine nY ?_ | refine nY0 ?_ | refine nVN ?_ | refine nV ?_); (first | omega | (simp; omega))) | rfl)); conv => whnf) | (apply getK_intro; (· rfl); conv => whnf) | (apply eqK_intro; (· (first | (with_reducible first | exact lI _ | exact lS _ | exact lB _ | exact uI | exact uS | exact uIS | exact uSS | exact rIN _ _ | exact rI _ _ | exact tIN | exact tI | exact tBN | exact tB | exact uB | exact rBN _ _ | exact lV _ | exact uV | exact uVS) | rfl)); conv => whnf) | ((first | apply apI | apply apS); (· first | rfl | (simp; done)); (· (first | omega | (simp; omega))); conv => whnf) | (refine fkI (fun hm => ?_) (fun _ v hm => ?_) <;> conv => whnf) | (apply msI; conv => whnf)  | (refine bcase_intro (fun hc => ?_) (fun hc => ?_) <;> conv => whnf))
  exact ⟨_, W, rfl, rfl, h1, h2⟩

end AI
end Go.Proofs.Ytnakgkibjlcjlaa
