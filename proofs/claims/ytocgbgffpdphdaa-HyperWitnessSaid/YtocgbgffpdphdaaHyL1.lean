/- The law 'HyperParts' of the evaluator. -/
import Derived.Test.YtocgbgffpdphdaaHyB
import Derived.Test.YtocgbgffpdphdaaHyEnt
import Derived.Test.YtocgbgffpdphdaaHyLives
set_option linter.unusedVariables false
namespace Go.Proofs.Ytocgbgffpdphdaa
namespace AI

theorem lives14 : PureP (findFn tab) 14 [] (· = .bool (decide True)) := ⟨.bool true, ⟨60, lives_call⟩, rfl⟩

theorem cls_length (P : List Int) (n : Nat) (v : Int) : (cls P n v).length ≤ n := by
  unfold cls
  exact Nat.le_trans (List.length_filter_le _ _) (by simp)

theorem smE_classes {P : List Int} {n k : Nat} {out : List (Bool × List Int)} (hn : n < 2^63) (hk : k < 2^63) (h : out.map (·.2) = classes P n k) : SmE out := by
  constructor
  · have := congrArg List.length h
    rw [List.length_map] at this
    rw [this]
    unfold classes
    rw [List.length_map]
    exact Nat.lt_of_le_of_lt (List.length_filter_le _ _) (by simpa using hk)
  · intro p hp
    have : p.2 ∈ classes P n k := by rw [← h]; exact List.mem_map_of_mem hp
    unfold classes at this
    obtain ⟨v, _, hv⟩ := List.mem_map.1 this
    rw [← hv]
    exact Nat.lt_of_le_of_lt (cls_length _ _ _) hn

theorem partsR_form {n : Int} {L : List (List Int)} {v : AV} (hv : PartsR n L v) : ∃ nn out, v = .sl nn (iss out) ∧ SmE out := by
  by_cases h : Vld n L
  · obtain ⟨P, na, a, rfl, h1, h2, h3⟩ := hv.1 h
    have hn := h.1
    have hn' := h.2.1
    exact ⟨na, a, rfl, smE_classes (by omega) (by omega) h3⟩
  · rw [hv.2 h]
    exact ⟨false, [], rfl, by decide, by simp⟩

theorem ints_inj : ∀ {a b : List Int}, ints a = ints b → a = b
  | [], [], _ => rfl
  | [], _ :: _, h => by simp [ints] at h
  | _ :: _, [], h => by simp [ints] at h
  | x :: a, y :: b, h => by
    simp only [ints, List.map_cons, List.cons.injEq, AV.int.injEq, true_and] at h
    rw [h.1, ints_inj h.2]

theorem iss_inj {a b : List (Bool × List Int)} (h : iss a = iss b) : a.map (·.2) = b.map (·.2) := by
  induction a generalizing b with
  | nil => cases b with
    | nil => rfl
    | cons y b => simp [iss] at h
  | cons x a ih => cases b with
    | nil => simp [iss] at h
    | cons y b =>
      simp only [iss, List.map_cons, List.cons.injEq, AV.sl.injEq] at h
      obtain ⟨⟨_, h1⟩, h2⟩ := h
      simp only [List.map_cons, List.cons.injEq]
      refine ⟨?_, ih h2⟩
      exact ints_inj h1

theorem partsR_same {n : Int} {L : List (List Int)} {na nb : Bool} {a b : List (Bool × List Int)} (hv : PartsR n L (.sl na (iss a))) (hw : PartsR n L (.sl nb (iss b))) : a.map (·.2) = b.map (·.2) := by
  by_cases h : Vld n L
  · obtain ⟨P, na', a', e, h1, h2, h3⟩ := hv.1 h
    obtain ⟨Q, nb', b', e', k1, k2, k3⟩ := hw.1 h
    obtain rfl := lab_unique h1 h2 k1 k2
    injection e with _ e
    injection e' with _ e'
    rw [iss_inj e, iss_inj e', h3, k3]
  · have e := hv.2 h
    have e' := hw.2 h
    injection e with _ e
    injection e' with _ e'
    rw [iss_inj (b := []) e, iss_inj (b := []) e']

theorem law3 : ∀ xs, likes Try.prog 12 [24] xs → Calls1 (findFn tab) 3 xs ⟨[], 0⟩ fun out _ => out = .ok (.bool true) := by
  intro xs h
  match xs, h with
  | [a], h =>
    obtain ⟨n, ns, E, rfl, hE, _⟩ := like_hyper h.1
    refine calls1_of rfl rfl ?_
    (conv => whnf); repeat' (first | (refine need.mk ?_ ?_; (· (first | with_reducible rfl | omega | rfl | decide | trivial | exact ⟨rfl, rfl, by omega, by omega⟩ | exact ⟨by omega, by omega, roomy_of (by omega)⟩ | (refine ⟨rfl, rfl, ?_⟩; first | ((first | rw [lI] | rw [lS] | rw [lB]); omega) | (simp; done) | (simp; omega)) | (refine ⟨rfl, ?_⟩; first | ((first | rw [lI] | rw [lS] | rw [lB]); omega) | (simp; done) | (simp; omega)) | fail)); conv => whnf) | (refine pcase.mk (fun hc => ?_) (fun hc => ?_) <;> (try rw [List.length_nil] at hc) <;> first | (exfalso; omega) | (exact absurd rfl hc) | conv => whnf) | (apply wrapK_intro; (· exact wrap_i64 (by omega) (by omega)); conv => whnf) | (apply nthK_intro; (· (first | ((with_reducible first | refine nIN ?_ | refine nI ?_ | refine nSN ?_ | refine nS ?_ | refine nBN ?_ | refine nB ?_); (first | omega | (simp; omega))) | rfl)); conv => whnf) | (apply getK_intro; (· rfl); conv => whnf) | (apply eqK_intro; (· (first | (with_reducible first | exact lI _ | exact lS _ | exact lB _ | exact uI | exact uS | exact uIS | exact uSS | exact rIN _ _ | exact rI _ _ | exact tIN | exact tI | exact tBN | exact tB | exact uB | exact rBN _ _) | rfl)); conv => whnf) | ((first | apply apI | apply apS); (· first | rfl | (simp; done)); (· (first | omega | (simp; omega))); conv => whnf) | (refine fkI (fun hm => ?_) (fun _ v hm => ?_) <;> conv => whnf) | (apply msI; conv => whnf)  | (refine bcase_intro (fun hc => ?_) (fun hc => ?_) <;> conv => whnf))
    refine callB (valid9 hE) (fun h1 => ?_) (fun h1 => ?_) <;> (conv => whnf); repeat' (first | (refine need.mk ?_ ?_; (· (first | with_reducible rfl | omega | rfl | decide | trivial | exact ⟨rfl, rfl, by omega, by omega⟩ | exact ⟨by omega, by omega, roomy_of (by omega)⟩ | (refine ⟨rfl, rfl, ?_⟩; first | ((first | rw [lI] | rw [lS] | rw [lB]); omega) | (simp; done) | (simp; omega)) | (refine ⟨rfl, ?_⟩; first | ((first | rw [lI] | rw [lS] | rw [lB]); omega) | (simp; done) | (simp; omega)) | fail)); conv => whnf) | (refine pcase.mk (fun hc => ?_) (fun hc => ?_) <;> (try rw [List.length_nil] at hc) <;> first | (exfalso; omega) | (exact absurd rfl hc) | conv => whnf) | (apply wrapK_intro; (· exact wrap_i64 (by omega) (by omega)); conv => whnf) | (apply nthK_intro; (· (first | ((with_reducible first | refine nIN ?_ | refine nI ?_ | refine nSN ?_ | refine nS ?_ | refine nBN ?_ | refine nB ?_); (first | omega | (simp; omega))) | rfl)); conv => whnf) | (apply getK_intro; (· rfl); conv => whnf) | (apply eqK_intro; (· (first | (with_reducible first | exact lI _ | exact lS _ | exact lB _ | exact uI | exact uS | exact uIS | exact uSS | exact rIN _ _ | exact rI _ _ | exact tIN | exact tI | exact tBN | exact tB | exact uB | exact rBN _ _) | rfl)); conv => whnf) | ((first | apply apI | apply apS); (· first | rfl | (simp; done)); (· (first | omega | (simp; omega))); conv => whnf) | (refine fkI (fun hm => ?_) (fun _ v hm => ?_) <;> conv => whnf) | (apply msI; conv => whnf) | (refine callB (valid10 hE) (fun h2 => ?_) (fun h2 => ?_) <;> first | (exfalso; exact absurd h1 h2) | (exfalso; exact absurd h2 h1) | (conv => whnf)) | (refine bcase_intro (fun hc => ?_) (fun hc => ?_) <;> conv => whnf))
    all_goals
      refine callK_of (parts12 hE) (fun v hv => ?_)
      obtain ⟨na, oa, rfl, ha⟩ := partsR_form hv
      (conv => whnf); repeat' (first | (refine need.mk ?_ ?_; (· (first | with_reducible rfl | omega | rfl | decide | trivial | exact ⟨rfl, rfl, by omega, by omega⟩ | exact ⟨by omega, by omega, roomy_of (by omega)⟩ | (refine ⟨rfl, rfl, ?_⟩; first | ((first | rw [lI] | rw [lS] | rw [lB]); omega) | (simp; done) | (simp; omega)) | (refine ⟨rfl, ?_⟩; first | ((first | rw [lI] | rw [lS] | rw [lB]); omega) | (simp; done) | (simp; omega)) | fail)); conv => whnf) | (refine pcase.mk (fun hc => ?_) (fun hc => ?_) <;> (try rw [List.length_nil] at hc) <;> first | (exfalso; omega) | (exact absurd rfl hc) | conv => whnf) | (apply wrapK_intro; (· exact wrap_i64 (by omega) (by omega)); conv => whnf) | (apply nthK_intro; (· (first | ((with_reducible first | refine nIN ?_ | refine nI ?_ | refine nSN ?_ | refine nS ?_ | refine nBN ?_ | refine nB ?_); (first | omega | (simp; omega))) | rfl)); conv => whnf) | (apply getK_intro; (· rfl); conv => whnf) | (apply eqK_intro; (· (first | (with_reducible first | exact lI _ | exact lS _ | exact lB _ | exact uI | exact uS | exact uIS | exact uSS | exact rIN _ _ | exact rI _ _ | exact tIN | exact tI | exact tBN | exact tB | exact uB | exact rBN _ _) | rfl)); conv => whnf) | ((first | apply apI | apply apS); (· first | rfl | (simp; done)); (· (first | omega | (simp; omega))); conv => whnf) | (refine fkI (fun hm => ?_) (fun _ v hm => ?_) <;> conv => whnf) | (apply msI; conv => whnf)  | (refine bcase_intro (fun hc => ?_) (fun hc => ?_) <;> conv => whnf))
      refine callK_of (parts13 hE) (fun w hw => ?_)
      obtain ⟨nb, ob, rfl, hb⟩ := partsR_form hw
      have hs := partsR_same hv hw
      (conv => whnf); repeat' (first | (refine need.mk ?_ ?_; (· (first | with_reducible rfl | omega | rfl | decide | trivial | exact ⟨rfl, rfl, by omega, by omega⟩ | exact ⟨by omega, by omega, roomy_of (by omega)⟩ | (refine ⟨rfl, rfl, ?_⟩; first | ((first | rw [lI] | rw [lS] | rw [lB]); omega) | (simp; done) | (simp; omega)) | (refine ⟨rfl, ?_⟩; first | ((first | rw [lI] | rw [lS] | rw [lB]); omega) | (simp; done) | (simp; omega)) | fail)); conv => whnf) | (refine pcase.mk (fun hc => ?_) (fun hc => ?_) <;> (try rw [List.length_nil] at hc) <;> first | (exfalso; omega) | (exact absurd rfl hc) | conv => whnf) | (apply wrapK_intro; (· exact wrap_i64 (by omega) (by omega)); conv => whnf) | (apply nthK_intro; (· (first | ((with_reducible first | refine nIN ?_ | refine nI ?_ | refine nSN ?_ | refine nS ?_ | refine nBN ?_ | refine nB ?_); (first | omega | (simp; omega))) | rfl)); conv => whnf) | (apply getK_intro; (· rfl); conv => whnf) | (apply eqK_intro; (· (first | (with_reducible first | exact lI _ | exact lS _ | exact lB _ | exact uI | exact uS | exact uIS | exact uSS | exact rIN _ _ | exact rI _ _ | exact tIN | exact tI | exact tBN | exact tB | exact uB | exact rBN _ _) | rfl)); conv => whnf) | ((first | apply apI | apply apS); (· first | rfl | (simp; done)); (· (first | omega | (simp; omega))); conv => whnf) | (refine fkI (fun hm => ?_) (fun _ v hm => ?_) <;> conv => whnf) | (apply msI; conv => whnf)  | (refine bcase_intro (fun hc => ?_) (fun hc => ?_) <;> conv => whnf))
      refine callB (same11 ha hb) (fun _ => ?_) (fun h => absurd hs h)
      (conv => whnf); repeat' (first | (refine need.mk ?_ ?_; (· (first | with_reducible rfl | omega | rfl | decide | trivial | exact ⟨rfl, rfl, by omega, by omega⟩ | exact ⟨by omega, by omega, roomy_of (by omega)⟩ | (refine ⟨rfl, rfl, ?_⟩; first | ((first | rw [lI] | rw [lS] | rw [lB]); omega) | (simp; done) | (simp; omega)) | (refine ⟨rfl, ?_⟩; first | ((first | rw [lI] | rw [lS] | rw [lB]); omega) | (simp; done) | (simp; omega)) | fail)); conv => whnf) | (refine pcase.mk (fun hc => ?_) (fun hc => ?_) <;> (try rw [List.length_nil] at hc) <;> first | (exfalso; omega) | (exact absurd rfl hc) | conv => whnf) | (apply wrapK_intro; (· exact wrap_i64 (by omega) (by omega)); conv => whnf) | (apply nthK_intro; (· (first | ((with_reducible first | refine nIN ?_ | refine nI ?_ | refine nSN ?_ | refine nS ?_ | refine nBN ?_ | refine nB ?_); (first | omega | (simp; omega))) | rfl)); conv => whnf) | (apply getK_intro; (· rfl); conv => whnf) | (apply eqK_intro; (· (first | (with_reducible first | exact lI _ | exact lS _ | exact lB _ | exact uI | exact uS | exact uIS | exact uSS | exact rIN _ _ | exact rI _ _ | exact tIN | exact tI | exact tBN | exact tB | exact uB | exact rBN _ _) | rfl)); conv => whnf) | ((first | apply apI | apply apS); (· first | rfl | (simp; done)); (· (first | omega | (simp; omega))); conv => whnf) | (refine fkI (fun hm => ?_) (fun _ v hm => ?_) <;> conv => whnf) | (apply msI; conv => whnf)  | (refine bcase_intro (fun hc => ?_) (fun hc => ?_) <;> conv => whnf))
      refine callB lives14 (fun _ => ?_) (fun h => absurd trivial h)
      (conv => whnf); repeat' (first | (refine need.mk ?_ ?_; (· (first | with_reducible rfl | omega | rfl | decide | trivial | exact ⟨rfl, rfl, by omega, by omega⟩ | exact ⟨by omega, by omega, roomy_of (by omega)⟩ | (refine ⟨rfl, rfl, ?_⟩; first | ((first | rw [lI] | rw [lS] | rw [lB]); omega) | (simp; done) | (simp; omega)) | (refine ⟨rfl, ?_⟩; first | ((first | rw [lI] | rw [lS] | rw [lB]); omega) | (simp; done) | (simp; omega)) | fail)); conv => whnf) | (refine pcase.mk (fun hc => ?_) (fun hc => ?_) <;> (try rw [List.length_nil] at hc) <;> first | (exfalso; omega) | (exact absurd rfl hc) | conv => whnf) | (apply wrapK_intro; (· exact wrap_i64 (by omega) (by omega)); conv => whnf) | (apply nthK_intro; (· (first | ((with_reducible first | refine nIN ?_ | refine nI ?_ | refine nSN ?_ | refine nS ?_ | refine nBN ?_ | refine nB ?_); (first | omega | (simp; omega))) | rfl)); conv => whnf) | (apply getK_intro; (· rfl); conv => whnf) | (apply eqK_intro; (· (first | (with_reducible first | exact lI _ | exact lS _ | exact lB _ | exact uI | exact uS | exact uIS | exact uSS | exact rIN _ _ | exact rI _ _ | exact tIN | exact tI | exact tBN | exact tB | exact uB | exact rBN _ _) | rfl)); conv => whnf) | ((first | apply apI | apply apS); (· first | rfl | (simp; done)); (· (first | omega | (simp; omega))); conv => whnf) | (refine fkI (fun hm => ?_) (fun _ v hm => ?_) <;> conv => whnf) | (apply msI; conv => whnf)  | (refine bcase_intro (fun hc => ?_) (fun hc => ?_) <;> conv => whnf))
      rfl

end AI
end Go.Proofs.Ytocgbgffpdphdaa
