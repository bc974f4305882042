/- The law GraphNames, about the evaluator. -/
import Derived.Test.YtnakgkibjlcjlaaDoorGnWalk
set_option linter.unusedVariables false
namespace Go.Proofs.YtnakgkibjlcjlaaDoor
namespace AI

set_option maxRecDepth 10000 in
theorem law_names : ∀ xs, likes Tryd.prog [9] xs → Calls1 (findFn tab) 3 xs ⟨[], 0⟩ fun out _ => out = .ok (.bool true) := by
  intro xs h
  match xs, h with
  | [a], h =>
    obtain ⟨⟨d, h⟩, _⟩ := h
    obtain ⟨s, rfl, hs⟩ := like_string Tryd.underlying9 h
    have hl : s.length < 2^63 := by have := maxLen_lt; omega
    refine calls1_of rfl rfl ?_
    (conv => whnf); repeat' (first | (refine need.mk ?_ ?_; (· (first | with_reducible rfl | omega | rfl | decide | trivial | exact ⟨rfl, rfl, by omega, by omega⟩ | exact ⟨by omega, by omega, roomy_of (by omega)⟩ | (refine ⟨rfl, rfl, ?_⟩; first | ((first | rw [lI] | rw [lS] | rw [lB] | rw [lV]); omega) | (simp; done) | (simp; omega)) | (refine ⟨rfl, ?_⟩; first | ((first | rw [lI] | rw [lS] | rw [lB] | rw [lV]); omega) | (simp; done) | (simp; omega)) | fail)); conv => whnf) | (refine pcase.mk (fun hc => ?_) (fun hc => ?_) <;> (try rw [List.length_nil] at hc) <;> first | (exfalso; omega) | (exact absurd rfl hc) | conv => whnf) | (apply wrapK_intro; (· exact wrap_i64 (by omega) (by omega)); conv => whnf) | (apply nthK_intro; (· (first | ((with_reducible first | refine nIN ?_ | refine nI ?_ | refine nSN ?_ | refine nS ?_ | refine nBN ?_ | refine nB ?_ | refine nYN ?_ | refine nY ?_ | refine nY0 ?_ | refine nVN ?_ | refine nV ?_); (first | omega | (simp; omega))) | rfl)); conv => whnf) | (apply getK_intro; (· rfl); conv => whnf) | (apply eqK_intro; (· (first | (with_reducible first | exact lI _ | exact lS _ | exact lB _ | exact uI | exact uS | exact uIS | exact uSS | exact rIN _ _ | exact rI _ _ | exact tIN | exact tI | exact tBN | exact tB | exact uB | exact rBN _ _ | exact lV _ | exact uV | exact uVS) | rfl)); conv => whnf) | ((first | apply apI | apply apS); (· first | rfl | (simp; done)); (· (first | omega | (simp; omega))); conv => whnf) | (refine fkI (fun hm => ?_) (fun _ v hm => ?_) <;> conv => whnf) | (apply msI; conv => whnf) | (refine callB alive' (fun _ => ?_) (fun h => absurd trivial h); conv => whnf) | (refine callB (name1 hl) (fun h1 => ?_) (fun h1 => ?_) <;> conv => whnf) | (refine callB (name2 hl) (fun h2 => ?_) (fun h2 => ?_) <;> first | (exfalso; exact absurd h1 h2) | (exfalso; exact absurd h2 h1) | (conv => whnf)) | (refine callK_of new' ?_; rintro _ rfl; conv => whnf) | (refine callK_of rnew' ?_; rintro _ rfl; conv => whnf) | (refine callB same' (fun _ => ?_) (fun h => absurd trivial h); conv => whnf) | (refine bcase_intro (fun hc => ?_) (fun hc => ?_) <;> conv => whnf))
    all_goals rfl

end AI
end Go.Proofs.YtnakgkibjlcjlaaDoor
