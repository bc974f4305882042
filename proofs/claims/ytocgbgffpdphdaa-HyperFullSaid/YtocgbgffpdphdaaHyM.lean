/- Sorted lists of the reference; what parts and edges have in common. -/
import Derived.Test.YtocgbgffpdphdaaHyA
import Derived.Test.YtocgbgffpdphdaaHyX
set_option linter.unusedVariables false
namespace Go.Proofs.Ytocgbgffpdphdaa
namespace AI

theorem sorted_get {l : List Int} (h : l.Pairwise (· < ·)) {i j : Nat} (hi : i < l.length) (hj : j < l.length) (hij : i < j) : l[i] < l[j] := List.pairwise_iff_getElem.1 h i j hi hj hij

theorem mem_take_lt {l : List Int} (h : l.Pairwise (· < ·)) {i : Nat} (hi : i < l.length) {y : Int} (hy : y ∈ l.take i) : y < l[i] := by
  obtain ⟨j, hj, rfl⟩ := List.mem_iff_getElem.1 hy
  rw [List.length_take] at hj
  rw [List.getElem_take]
  exact sorted_get h (by omega) hi (by omega)

theorem pairwise_snoc {r : List Int} {x : Int} (h : r.Pairwise (· < ·)) (hx : ∀ y ∈ r, y < x) : (r ++ [x]).Pairwise (· < ·) := by
  rw [List.pairwise_append]
  exact ⟨h, by simp, fun a ha b hb => by rw [List.mem_singleton] at hb; subst hb; exact hx a ha⟩

/-- what 'with' answers -/
def WithR (l : List Int) (x : Int) (r : List Int) : Prop := r.Pairwise (· < ·) ∧ (∀ y, y ∈ r ↔ y ∈ l ∨ y = x) ∧ r.length ≤ l.length + 1

theorem with44 {l : List Int} {x : Int} {nn : Bool} (hl : l.length ≤ 1000) (hs : l.Pairwise (· < ·)) :
    PureP (findFn tab) 44 [isl nn l, .int .i64 x] (fun v => ∃ b r, v = isl b r ∧ WithR l x r) := by
  refine pureP_of rfl rfl ?_
  (conv => whnf); repeat' (first | (refine need.mk ?_ ?_; (· (first | with_reducible rfl | omega | rfl | decide | trivial | exact ⟨rfl, rfl, by omega, by omega⟩ | exact ⟨by omega, by omega, roomy_of (by omega)⟩ | (refine ⟨rfl, rfl, ?_⟩; first | ((first | rw [lI] | rw [lS] | rw [lB]); omega) | (simp; done) | (simp; omega)) | (refine ⟨rfl, ?_⟩; first | ((first | rw [lI] | rw [lS] | rw [lB]); omega) | (simp; done) | (simp; omega)) | fail)); conv => whnf) | (refine pcase.mk (fun hc => ?_) (fun hc => ?_) <;> (try rw [List.length_nil] at hc) <;> first | (exfalso; omega) | (exact absurd rfl hc) | conv => whnf) | (apply wrapK_intro; (· exact wrap_i64 (by omega) (by omega)); conv => whnf) | (apply nthK_intro; (· (first | ((with_reducible first | refine nIN ?_ | refine nI ?_ | refine nSN ?_ | refine nS ?_ | refine nBN ?_ | refine nB ?_); (first | omega | (simp; omega))) | rfl)); conv => whnf) | (apply getK_intro; (· rfl); conv => whnf) | (apply eqK_intro; (· (first | (with_reducible first | exact lI _ | exact lS _ | exact lB _ | exact uI | exact uS | exact uIS | exact uSS | exact rIN _ _ | exact rI _ _ | exact tIN | exact tI | exact tBN | exact tB | exact uB | exact rBN _ _) | rfl)); conv => whnf) | ((first | apply apI | apply apS); (· first | rfl | (simp; done)); (· (first | omega | (simp; omega))); conv => whnf) | (refine fkI (fun hm => ?_) (fun _ v hm => ?_) <;> conv => whnf) | (apply msI; conv => whnf)  | (refine bcase_intro (fun hc => ?_) (fun hc => ?_) <;> conv => whnf))
  refine loop_inv (fun m env s => ∃ (i g c ll : Nat) (nr b : Bool) (r : List Int), m = l.length - i ∧ i ≤ l.length ∧ ll = r.length ∧ ll ≤ i + (if b then 1 else 0) ∧ env = [(0, isl nn l), (1, .int .i64 x), (5, .own 0 g 0 ll), (6, .bool b), (7, .int .i64 i)] ∧ s = ⟨[.arr g 1 nr true (ints r)], c⟩ ∧ r.Pairwise (· < ·) ∧ (∀ y, y ∈ r ↔ y ∈ l.take i ∨ (b = true ∧ y = x)) ∧ (b = false → ∀ y ∈ l.take i, y < x) ∧ (b = true → ∀ j (hj : j < l.length), i ≤ j → x < l[j])) ?_ _ _ _ ⟨0, _, _, _, _, false, [], rfl, by omega, rfl, by simp, rfl, rfl, by simp, by simp, by simp, by simp⟩
  rintro _ _ _ ⟨i, g, c, ll, nr, b, r, rfl, hi, rfl, hll, rfl, rfl, hr, hmem, hb0, hb1⟩
  refine ⟨rfl, ?_⟩
  by_cases hil : i < l.length
  · have hlt : ∀ y ∈ l.take i, y < l[i] := fun y hy => mem_take_lt hs hil hy
    have ht := fun y => take_mem_iff (x := y) hil
    have hrl : r.length ≤ 1001 := by cases b <;> simp at hll <;> omega
    cases b
    · have hb0' := hb0 rfl
      have hrx : ∀ y ∈ r, y < x := fun y hy => hb0' y (by have := (hmem y).1 hy; simpa using this)
      have hri : ∀ y ∈ r, y < l[i] := fun y hy => hlt y (by have := (hmem y).1 hy; simpa using this)
      simp only [Bool.false_eq_true, if_false, Nat.add_zero] at hll
      (conv => whnf); repeat' (first | (refine need.mk ?_ ?_; (· (first | with_reducible rfl | omega | rfl | decide | trivial | exact ⟨rfl, rfl, by omega, by omega⟩ | exact ⟨by omega, by omega, roomy_of (by omega)⟩ | (refine ⟨rfl, rfl, ?_⟩; first | ((first | rw [lI] | rw [lS] | rw [lB]); omega) | (simp; done) | (simp; omega)) | (refine ⟨rfl, ?_⟩; first | ((first | rw [lI] | rw [lS] | rw [lB]); omega) | (simp; done) | (simp; omega)) | fail)); conv => whnf) | (refine pcase.mk (fun hc => ?_) (fun hc => ?_) <;> (try rw [List.length_nil] at hc) <;> first | (exfalso; omega) | (exact absurd rfl hc) | conv => whnf) | (apply wrapK_intro; (· exact wrap_i64 (by omega) (by omega)); conv => whnf) | (apply nthK_intro; (· (first | ((with_reducible first | refine nIN ?_ | refine nI ?_ | refine nSN ?_ | refine nS ?_ | refine nBN ?_ | refine nB ?_); (first | omega | (simp; omega))) | rfl)); conv => whnf) | (apply getK_intro; (· rfl); conv => whnf) | (apply eqK_intro; (· (first | (with_reducible first | exact lI _ | exact lS _ | exact lB _ | exact uI | exact uS | exact uIS | exact uSS | exact rIN _ _ | exact rI _ _ | exact tIN | exact tI | exact tBN | exact tB | exact uB | exact rBN _ _) | rfl)); conv => whnf) | ((first | apply apI | apply apS); (· first | rfl | (simp; done)); (· (first | omega | (simp; omega))); conv => whnf) | (refine fkI (fun hm => ?_) (fun _ v hm => ?_) <;> conv => whnf) | (apply msI; conv => whnf)  | (refine bcase_intro (fun hc => ?_) (fun hc => ?_) <;> conv => whnf))
      · -- the same number
        refine again.mk ⟨_, by omega, i + 1, _, _, _, _, true, _, rfl, by omega, by simp, by simp; omega, rfl, rfl, pairwise_snoc hr hri, fun y => ?_, by simp, fun _ j hj hij => ?_⟩
        · rw [List.mem_append, List.mem_singleton, hmem y, ht y]
          simp only [Bool.false_eq_true, false_and, or_false, true_and]
          constructor
          · rintro (h | h); exact .inl (.inl h); exact .inl (.inr h)
          · rintro ((h | h) | h); exact .inl h; exact .inr h; exact .inr (by rw [h]; omega)
        · have := sorted_get hs hil hj (by omega); omega
      · -- behind it
        refine again.mk ⟨_, by omega, i + 1, _, _, _, _, true, _, rfl, by omega, by simp, by simp; omega, rfl, rfl, ?_, fun y => ?_, by simp, fun _ j hj hij => ?_⟩
        · exact pairwise_snoc (pairwise_snoc hr hrx) fun y hy => by
            rcases List.mem_append.1 hy with hy | hy
            · exact hri y hy
            · rw [List.mem_singleton] at hy; omega
        · rw [List.mem_append, List.mem_append, List.mem_singleton, List.mem_singleton, hmem y, ht y]
          simp only [Bool.false_eq_true, false_and, or_false, true_and]
          constructor
          · rintro ((h | h) | h); exact .inl (.inl h); exact .inr h; exact .inl (.inr h)
          · rintro ((h | h) | h); exact .inl (.inl h); exact .inr h; exact .inl (.inr h)
        · have := sorted_get hs hil hj (by omega); omega
      · refine again.mk ⟨_, by omega, i + 1, _, _, _, _, false, _, rfl, by omega, by simp, by simp; omega, rfl, rfl, pairwise_snoc hr hri, fun y => ?_, fun _ y hy => ?_, by simp⟩
        · rw [List.mem_append, List.mem_singleton, hmem y, ht y]
          simp
        · rcases (ht y).1 hy with h | h
          · exact hb0' y h
          · omega
    · have hb1' := hb1 rfl i hil (Nat.le_refl _)
      simp only [if_true] at hll
      have hri : ∀ y ∈ r, y < l[i] := fun y hy => by
        rcases (hmem y).1 hy with h | ⟨_, h⟩
        · exact hlt y h
        · omega
      have hnext : ∀ y, y ∈ r ++ [l[i]] ↔ y ∈ l.take (i + 1) ∨ (true = true ∧ y = x) := fun y => by
        rw [List.mem_append, List.mem_singleton, hmem y, ht y]
        simp only [true_and]
        constructor
        · rintro ((h | h) | h); exact .inl (.inl h); exact .inr h; exact .inl (.inr h)
        · rintro ((h | h) | h); exact .inl (.inl h); exact .inr h; exact .inl (.inr h)
      (conv => whnf); repeat' (first | (refine need.mk ?_ ?_; (· (first | with_reducible rfl | omega | rfl | decide | trivial | exact ⟨rfl, rfl, by omega, by omega⟩ | exact ⟨by omega, by omega, roomy_of (by omega)⟩ | (refine ⟨rfl, rfl, ?_⟩; first | ((first | rw [lI] | rw [lS] | rw [lB]); omega) | (simp; done) | (simp; omega)) | (refine ⟨rfl, ?_⟩; first | ((first | rw [lI] | rw [lS] | rw [lB]); omega) | (simp; done) | (simp; omega)) | fail)); conv => whnf) | (refine pcase.mk (fun hc => ?_) (fun hc => ?_) <;> (try rw [List.length_nil] at hc) <;> first | (exfalso; omega) | (exact absurd rfl hc) | conv => whnf) | (apply wrapK_intro; (· exact wrap_i64 (by omega) (by omega)); conv => whnf) | (apply nthK_intro; (· (first | ((with_reducible first | refine nIN ?_ | refine nI ?_ | refine nSN ?_ | refine nS ?_ | refine nBN ?_ | refine nB ?_); (first | omega | (simp; omega))) | rfl)); conv => whnf) | (apply getK_intro; (· rfl); conv => whnf) | (apply eqK_intro; (· (first | (with_reducible first | exact lI _ | exact lS _ | exact lB _ | exact uI | exact uS | exact uIS | exact uSS | exact rIN _ _ | exact rI _ _ | exact tIN | exact tI | exact tBN | exact tB | exact uB | exact rBN _ _) | rfl)); conv => whnf) | ((first | apply apI | apply apS); (· first | rfl | (simp; done)); (· (first | omega | (simp; omega))); conv => whnf) | (refine fkI (fun hm => ?_) (fun _ v hm => ?_) <;> conv => whnf) | (apply msI; conv => whnf)  | (refine bcase_intro (fun hc => ?_) (fun hc => ?_) <;> conv => whnf))
      all_goals exact again.mk ⟨_, by omega, i + 1, _, _, _, _, true, _, rfl, by omega, by simp, by simp; omega, rfl, rfl, pairwise_snoc hr hri, hnext, by simp, fun _ j hj hij => hb1 rfl j hj (by omega)⟩
  · obtain rfl : i = l.length := by omega
    rw [List.take_length] at hmem hb0
    have hrl : r.length ≤ 1001 := by cases b <;> simp at hll <;> omega
    cases b
    · simp only [Bool.false_eq_true, if_false, Nat.add_zero] at hll
      (conv => whnf); repeat' (first | (refine need.mk ?_ ?_; (· (first | with_reducible rfl | omega | rfl | decide | trivial | exact ⟨rfl, rfl, by omega, by omega⟩ | exact ⟨by omega, by omega, roomy_of (by omega)⟩ | (refine ⟨rfl, rfl, ?_⟩; first | ((first | rw [lI] | rw [lS] | rw [lB]); omega) | (simp; done) | (simp; omega)) | (refine ⟨rfl, ?_⟩; first | ((first | rw [lI] | rw [lS] | rw [lB]); omega) | (simp; done) | (simp; omega)) | fail)); conv => whnf) | (refine pcase.mk (fun hc => ?_) (fun hc => ?_) <;> (try rw [List.length_nil] at hc) <;> first | (exfalso; omega) | (exact absurd rfl hc) | conv => whnf) | (apply wrapK_intro; (· exact wrap_i64 (by omega) (by omega)); conv => whnf) | (apply nthK_intro; (· (first | ((with_reducible first | refine nIN ?_ | refine nI ?_ | refine nSN ?_ | refine nS ?_ | refine nBN ?_ | refine nB ?_); (first | omega | (simp; omega))) | rfl)); conv => whnf) | (apply getK_intro; (· rfl); conv => whnf) | (apply eqK_intro; (· (first | (with_reducible first | exact lI _ | exact lS _ | exact lB _ | exact uI | exact uS | exact uIS | exact uSS | exact rIN _ _ | exact rI _ _ | exact tIN | exact tI | exact tBN | exact tB | exact uB | exact rBN _ _) | rfl)); conv => whnf) | ((first | apply apI | apply apS); (· first | rfl | (simp; done)); (· (first | omega | (simp; omega))); conv => whnf) | (refine fkI (fun hm => ?_) (fun _ v hm => ?_) <;> conv => whnf) | (apply msI; conv => whnf)  | (refine bcase_intro (fun hc => ?_) (fun hc => ?_) <;> conv => whnf))
      refine ⟨_, _, rfl, pairwise_snoc hr fun y hy => hb0 rfl y (by have := (hmem y).1 hy; simpa using this), fun y => ?_, by simp; omega⟩
      rw [List.mem_append, List.mem_singleton, hmem y]; simp
    · simp only [if_true] at hll
      (conv => whnf); repeat' (first | (refine need.mk ?_ ?_; (· (first | with_reducible rfl | omega | rfl | decide | trivial | exact ⟨rfl, rfl, by omega, by omega⟩ | exact ⟨by omega, by omega, roomy_of (by omega)⟩ | (refine ⟨rfl, rfl, ?_⟩; first | ((first | rw [lI] | rw [lS] | rw [lB]); omega) | (simp; done) | (simp; omega)) | (refine ⟨rfl, ?_⟩; first | ((first | rw [lI] | rw [lS] | rw [lB]); omega) | (simp; done) | (simp; omega)) | fail)); conv => whnf) | (refine pcase.mk (fun hc => ?_) (fun hc => ?_) <;> (try rw [List.length_nil] at hc) <;> first | (exfalso; omega) | (exact absurd rfl hc) | conv => whnf) | (apply wrapK_intro; (· exact wrap_i64 (by omega) (by omega)); conv => whnf) | (apply nthK_intro; (· (first | ((with_reducible first | refine nIN ?_ | refine nI ?_ | refine nSN ?_ | refine nS ?_ | refine nBN ?_ | refine nB ?_); (first | omega | (simp; omega))) | rfl)); conv => whnf) | (apply getK_intro; (· rfl); conv => whnf) | (apply eqK_intro; (· (first | (with_reducible first | exact lI _ | exact lS _ | exact lB _ | exact uI | exact uS | exact uIS | exact uSS | exact rIN _ _ | exact rI _ _ | exact tIN | exact tI | exact tBN | exact tB | exact uB | exact rBN _ _) | rfl)); conv => whnf) | ((first | apply apI | apply apS); (· first | rfl | (simp; done)); (· (first | omega | (simp; omega))); conv => whnf) | (refine fkI (fun hm => ?_) (fun _ v hm => ?_) <;> conv => whnf) | (apply msI; conv => whnf)  | (refine bcase_intro (fun hc => ?_) (fun hc => ?_) <;> conv => whnf))
      exact ⟨_, _, rfl, hr, fun y => by rw [hmem y]; simp, by omega⟩

theorem of37 {l : List Int} {nn : Bool} (hl : l.length ≤ 900) :
    PureP (findFn tab) 37 [isl nn l] (fun v => ∃ b r, v = isl b r ∧ r.Pairwise (· < ·) ∧ (∀ y, y ∈ r ↔ y ∈ l) ∧ r.length ≤ l.length) := by
  refine pureP_of rfl rfl ?_
  (conv => whnf); repeat' (first | (refine need.mk ?_ ?_; (· (first | with_reducible rfl | omega | rfl | decide | trivial | exact ⟨rfl, rfl, by omega, by omega⟩ | exact ⟨by omega, by omega, roomy_of (by omega)⟩ | (refine ⟨rfl, rfl, ?_⟩; first | ((first | rw [lI] | rw [lS] | rw [lB]); omega) | (simp; done) | (simp; omega)) | (refine ⟨rfl, ?_⟩; first | ((first | rw [lI] | rw [lS] | rw [lB]); omega) | (simp; done) | (simp; omega)) | fail)); conv => whnf) | (refine pcase.mk (fun hc => ?_) (fun hc => ?_) <;> (try rw [List.length_nil] at hc) <;> first | (exfalso; omega) | (exact absurd rfl hc) | conv => whnf) | (apply wrapK_intro; (· exact wrap_i64 (by omega) (by omega)); conv => whnf) | (apply nthK_intro; (· (first | ((with_reducible first | refine nIN ?_ | refine nI ?_ | refine nSN ?_ | refine nS ?_ | refine nBN ?_ | refine nB ?_); (first | omega | (simp; omega))) | rfl)); conv => whnf) | (apply getK_intro; (· rfl); conv => whnf) | (apply eqK_intro; (· (first | (with_reducible first | exact lI _ | exact lS _ | exact lB _ | exact uI | exact uS | exact uIS | exact uSS | exact rIN _ _ | exact rI _ _ | exact tIN | exact tI | exact tBN | exact tB | exact uB | exact rBN _ _) | rfl)); conv => whnf) | ((first | apply apI | apply apS); (· first | rfl | (simp; done)); (· (first | omega | (simp; omega))); conv => whnf) | (refine fkI (fun hm => ?_) (fun _ v hm => ?_) <;> conv => whnf) | (apply msI; conv => whnf)  | (refine bcase_intro (fun hc => ?_) (fun hc => ?_) <;> conv => whnf))
  refine loop_inv (fun m env s => ∃ (i : Nat) (b : Bool) (r : List Int), m = l.length - i ∧ i ≤ l.length ∧ r.length ≤ i ∧ env = [(0, isl nn l), (3, isl b r), (4, .int .i64 i)] ∧ s = ⟨[], 0⟩ ∧ r.Pairwise (· < ·) ∧ ∀ y, y ∈ r ↔ y ∈ l.take i) ?_ _ _ _ ⟨0, false, [], rfl, by omega, by simp, rfl, rfl, by simp, by simp⟩
  rintro _ _ _ ⟨i, b, r, rfl, hi, hrl, rfl, rfl, hr, hmem⟩
  refine ⟨rfl, ?_⟩
  (conv => whnf); repeat' (first | (refine need.mk ?_ ?_; (· (first | with_reducible rfl | omega | rfl | decide | trivial | exact ⟨rfl, rfl, by omega, by omega⟩ | exact ⟨by omega, by omega, roomy_of (by omega)⟩ | (refine ⟨rfl, rfl, ?_⟩; first | ((first | rw [lI] | rw [lS] | rw [lB]); omega) | (simp; done) | (simp; omega)) | (refine ⟨rfl, ?_⟩; first | ((first | rw [lI] | rw [lS] | rw [lB]); omega) | (simp; done) | (simp; omega)) | fail)); conv => whnf) | (refine pcase.mk (fun hc => ?_) (fun hc => ?_) <;> (try rw [List.length_nil] at hc) <;> first | (exfalso; omega) | (exact absurd rfl hc) | conv => whnf) | (apply wrapK_intro; (· exact wrap_i64 (by omega) (by omega)); conv => whnf) | (apply nthK_intro; (· (first | ((with_reducible first | refine nIN ?_ | refine nI ?_ | refine nSN ?_ | refine nS ?_ | refine nBN ?_ | refine nB ?_); (first | omega | (simp; omega))) | rfl)); conv => whnf) | (apply getK_intro; (· rfl); conv => whnf) | (apply eqK_intro; (· (first | (with_reducible first | exact lI _ | exact lS _ | exact lB _ | exact uI | exact uS | exact uIS | exact uSS | exact rIN _ _ | exact rI _ _ | exact tIN | exact tI | exact tBN | exact tB | exact uB | exact rBN _ _) | rfl)); conv => whnf) | ((first | apply apI | apply apS); (· first | rfl | (simp; done)); (· (first | omega | (simp; omega))); conv => whnf) | (refine fkI (fun hm => ?_) (fun _ v hm => ?_) <;> conv => whnf) | (apply msI; conv => whnf)  | (refine bcase_intro (fun hc => ?_) (fun hc => ?_) <;> conv => whnf))
  · refine callK_of (with44 (by omega) hr) ?_
    rintro _ ⟨b', r', rfl, h1, h2, h3⟩
    (conv => whnf); repeat' (first | (refine need.mk ?_ ?_; (· (first | with_reducible rfl | omega | rfl | decide | trivial | exact ⟨rfl, rfl, by omega, by omega⟩ | exact ⟨by omega, by omega, roomy_of (by omega)⟩ | (refine ⟨rfl, rfl, ?_⟩; first | ((first | rw [lI] | rw [lS] | rw [lB]); omega) | (simp; done) | (simp; omega)) | (refine ⟨rfl, ?_⟩; first | ((first | rw [lI] | rw [lS] | rw [lB]); omega) | (simp; done) | (simp; omega)) | fail)); conv => whnf) | (refine pcase.mk (fun hc => ?_) (fun hc => ?_) <;> (try rw [List.length_nil] at hc) <;> first | (exfalso; omega) | (exact absurd rfl hc) | conv => whnf) | (apply wrapK_intro; (· exact wrap_i64 (by omega) (by omega)); conv => whnf) | (apply nthK_intro; (· (first | ((with_reducible first | refine nIN ?_ | refine nI ?_ | refine nSN ?_ | refine nS ?_ | refine nBN ?_ | refine nB ?_); (first | omega | (simp; omega))) | rfl)); conv => whnf) | (apply getK_intro; (· rfl); conv => whnf) | (apply eqK_intro; (· (first | (with_reducible first | exact lI _ | exact lS _ | exact lB _ | exact uI | exact uS | exact uIS | exact uSS | exact rIN _ _ | exact rI _ _ | exact tIN | exact tI | exact tBN | exact tB | exact uB | exact rBN _ _) | rfl)); conv => whnf) | ((first | apply apI | apply apS); (· first | rfl | (simp; done)); (· (first | omega | (simp; omega))); conv => whnf) | (refine fkI (fun hm => ?_) (fun _ v hm => ?_) <;> conv => whnf) | (apply msI; conv => whnf)  | (refine bcase_intro (fun hc => ?_) (fun hc => ?_) <;> conv => whnf))
    exact again.mk ⟨_, by omega, i + 1, b', r', rfl, by omega, by omega, rfl, rfl, h1, fun y => by rw [h2 y, hmem y, take_mem_iff (by omega)]⟩
  · obtain rfl : i = l.length := by omega
    rw [List.take_length] at hmem
    exact ⟨b, r, rfl, hr, hmem, hrl⟩

theorem meet25 {l e : List Int} {na nb : Bool} (hl : l.length ≤ 900) (he : e.length < 2^63) (hs : l.Pairwise (· < ·)) :
    PureP (findFn tab) 25 [isl na l, isl nb e] (fun v => ∃ b, v = isl b (l.filter fun x => decide (x ∈ e))) := by
  refine pureP_of rfl rfl ?_
  (conv => whnf); repeat' (first | (refine need.mk ?_ ?_; (· (first | with_reducible rfl | omega | rfl | decide | trivial | exact ⟨rfl, rfl, by omega, by omega⟩ | exact ⟨by omega, by omega, roomy_of (by omega)⟩ | (refine ⟨rfl, rfl, ?_⟩; first | ((first | rw [lI] | rw [lS] | rw [lB]); omega) | (simp; done) | (simp; omega)) | (refine ⟨rfl, ?_⟩; first | ((first | rw [lI] | rw [lS] | rw [lB]); omega) | (simp; done) | (simp; omega)) | fail)); conv => whnf) | (refine pcase.mk (fun hc => ?_) (fun hc => ?_) <;> (try rw [List.length_nil] at hc) <;> first | (exfalso; omega) | (exact absurd rfl hc) | conv => whnf) | (apply wrapK_intro; (· exact wrap_i64 (by omega) (by omega)); conv => whnf) | (apply nthK_intro; (· (first | ((with_reducible first | refine nIN ?_ | refine nI ?_ | refine nSN ?_ | refine nS ?_ | refine nBN ?_ | refine nB ?_); (first | omega | (simp; omega))) | rfl)); conv => whnf) | (apply getK_intro; (· rfl); conv => whnf) | (apply eqK_intro; (· (first | (with_reducible first | exact lI _ | exact lS _ | exact lB _ | exact uI | exact uS | exact uIS | exact uSS | exact rIN _ _ | exact rI _ _ | exact tIN | exact tI | exact tBN | exact tB | exact uB | exact rBN _ _) | rfl)); conv => whnf) | ((first | apply apI | apply apS); (· first | rfl | (simp; done)); (· (first | omega | (simp; omega))); conv => whnf) | (refine fkI (fun hm => ?_) (fun _ v hm => ?_) <;> conv => whnf) | (apply msI; conv => whnf)  | (refine bcase_intro (fun hc => ?_) (fun hc => ?_) <;> conv => whnf))
  refine callK_of (of37 hl) ?_
  rintro _ ⟨b, r, rfl, h1, h2, h3⟩
  obtain rfl := srt_ext h1 hs (fun x hx => (h2 x).1 hx) (fun x hx => (h2 x).2 hx)
  (conv => whnf); repeat' (first | (refine need.mk ?_ ?_; (· (first | with_reducible rfl | omega | rfl | decide | trivial | exact ⟨rfl, rfl, by omega, by omega⟩ | exact ⟨by omega, by omega, roomy_of (by omega)⟩ | (refine ⟨rfl, rfl, ?_⟩; first | ((first | rw [lI] | rw [lS] | rw [lB]); omega) | (simp; done) | (simp; omega)) | (refine ⟨rfl, ?_⟩; first | ((first | rw [lI] | rw [lS] | rw [lB]); omega) | (simp; done) | (simp; omega)) | fail)); conv => whnf) | (refine pcase.mk (fun hc => ?_) (fun hc => ?_) <;> (try rw [List.length_nil] at hc) <;> first | (exfalso; omega) | (exact absurd rfl hc) | conv => whnf) | (apply wrapK_intro; (· exact wrap_i64 (by omega) (by omega)); conv => whnf) | (apply nthK_intro; (· (first | ((with_reducible first | refine nIN ?_ | refine nI ?_ | refine nSN ?_ | refine nS ?_ | refine nBN ?_ | refine nB ?_); (first | omega | (simp; omega))) | rfl)); conv => whnf) | (apply getK_intro; (· rfl); conv => whnf) | (apply eqK_intro; (· (first | (with_reducible first | exact lI _ | exact lS _ | exact lB _ | exact uI | exact uS | exact uIS | exact uSS | exact rIN _ _ | exact rI _ _ | exact tIN | exact tI | exact tBN | exact tB | exact uB | exact rBN _ _) | rfl)); conv => whnf) | ((first | apply apI | apply apS); (· first | rfl | (simp; done)); (· (first | omega | (simp; omega))); conv => whnf) | (refine fkI (fun hm => ?_) (fun _ v hm => ?_) <;> conv => whnf) | (apply msI; conv => whnf)  | (refine bcase_intro (fun hc => ?_) (fun hc => ?_) <;> conv => whnf))
  refine loop_inv (fun m env s => ∃ (i g c ll : Nat) (nr : Bool) (q : List Int), m = r.length - i ∧ i ≤ r.length ∧ ll = q.length ∧ ll ≤ i ∧ env = [(1, isl nb e), (5, .own 0 g 0 ll), (6, isl b r), (7, .int .i64 i)] ∧ s = ⟨[.arr g 1 nr true (ints q)], c⟩ ∧ q = (r.take i).filter fun x => decide (x ∈ e)) ?_ _ _ _ ⟨0, _, _, _, _, [], rfl, by omega, rfl, by simp, rfl, rfl, by simp⟩
  rintro _ _ _ ⟨i, g, c, ll, nr, q, rfl, hi, rfl, hll, rfl, rfl, hq⟩
  refine ⟨rfl, ?_⟩
  (conv => whnf); repeat' (first | (refine need.mk ?_ ?_; (· (first | with_reducible rfl | omega | rfl | decide | trivial | exact ⟨rfl, rfl, by omega, by omega⟩ | exact ⟨by omega, by omega, roomy_of (by omega)⟩ | (refine ⟨rfl, rfl, ?_⟩; first | ((first | rw [lI] | rw [lS] | rw [lB]); omega) | (simp; done) | (simp; omega)) | (refine ⟨rfl, ?_⟩; first | ((first | rw [lI] | rw [lS] | rw [lB]); omega) | (simp; done) | (simp; omega)) | fail)); conv => whnf) | (refine pcase.mk (fun hc => ?_) (fun hc => ?_) <;> (try rw [List.length_nil] at hc) <;> first | (exfalso; omega) | (exact absurd rfl hc) | conv => whnf) | (apply wrapK_intro; (· exact wrap_i64 (by omega) (by omega)); conv => whnf) | (apply nthK_intro; (· (first | ((with_reducible first | refine nIN ?_ | refine nI ?_ | refine nSN ?_ | refine nS ?_ | refine nBN ?_ | refine nB ?_); (first | omega | (simp; omega))) | rfl)); conv => whnf) | (apply getK_intro; (· rfl); conv => whnf) | (apply eqK_intro; (· (first | (with_reducible first | exact lI _ | exact lS _ | exact lB _ | exact uI | exact uS | exact uIS | exact uSS | exact rIN _ _ | exact rI _ _ | exact tIN | exact tI | exact tBN | exact tB | exact uB | exact rBN _ _) | rfl)); conv => whnf) | ((first | apply apI | apply apS); (· first | rfl | (simp; done)); (· (first | omega | (simp; omega))); conv => whnf) | (refine fkI (fun hm => ?_) (fun _ v hm => ?_) <;> conv => whnf) | (apply msI; conv => whnf) | (refine callB (has38 he) (fun hc => ?_) (fun hc => ?_) <;> conv => whnf) | (refine bcase_intro (fun hc => ?_) (fun hc => ?_) <;> conv => whnf))
  · exact again.mk ⟨_, by omega, i + 1, _, _, _, _, _, rfl, by omega, by simp, by omega, rfl, rfl, by
      rw [List.take_succ_eq_append_getElem (by omega), List.filter_append, List.filter_cons, if_pos (by rw [decide_eq_true_eq]; exact hc), hq]; rfl⟩
  · exact again.mk ⟨_, by omega, i + 1, _, _, _, _, _, rfl, by omega, rfl, by omega, rfl, rfl, by
      rw [List.take_succ_eq_append_getElem (by omega), List.filter_append, List.filter_cons, if_neg (by rw [decide_eq_true_eq]; exact hc), hq]; simp⟩
  · obtain rfl : i = r.length := by omega
    rw [List.take_length] at hq
    subst hq
    exact ⟨_, rfl⟩

end AI
end Go.Proofs.Ytocgbgffpdphdaa
