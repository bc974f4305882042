/- Ears: the walk of the program's ear, in the store of its caller. -/
import Derived.Test.YtocgbgffpdphdaaHyF
set_option linter.unusedVariables false
namespace Go.Proofs.Ytocgbgffpdphdaa
namespace AI

/-- the store of a forest that is being built -/
abbrev stT (n : Int) (ns : Bool) (E : List (Bool × List Int)) (gg gp gf : Nat) (G : List Bool) (P : List Int) : List Obj :=
  [.arr 0 2 true true [.agg [.int .i64 n, .sl ns (iss E)]], .arr gg 1 true true (bools G), .arr gp 1 true true (ints P), .arr gf 3 true false [.agg [.sl ns (iss E), .own 1 gg 0 E.length, .own 2 gp 0 E.length]]]

theorem ear42 {n : Int} {E : List (Bool × List Int)} {ns : Bool} {G : List Bool} {P : List Int} {e gg gp gf c0 : Nat} (hE : SmE E) (hs : ∀ p ∈ E, p.2.length ≤ 1000) (hG : G.length = E.length) (he : e < E.length) :
    Calls1 (findFn tab) 42 [.ref 3 gf 0 0, .int .i64 e] ⟨stT n ns E gg gp gf G P, c0⟩ fun out s' => ∃ p b c' ex, out = .ok (.tup [.int .i64 p, .bool b]) ∧ s' = ⟨stT n ns E gg gp gf G P ++ ex, c'⟩ ∧ ((b = true ∧ IsEar (E.map (·.2)) G e p) ∨ (b = false ∧ NoEar (E.map (·.2)) G e)) := by
  have hE0 := hE.1
  have hes := hE.get he
  have hes' := hs _ (List.getElem_mem he)
  have hne := nthL_snds' he
  refine calls1_of rfl rfl ?_
  (conv => whnf); repeat' (first | (refine need.mk ?_ ?_; (· (first | with_reducible rfl | omega | rfl | decide | trivial | exact ⟨rfl, rfl, by omega, by omega⟩ | exact ⟨by omega, by omega, roomy_of (by omega)⟩ | (refine ⟨rfl, rfl, ?_⟩; first | ((first | rw [lI] | rw [lS] | rw [lB]); omega) | (simp; done) | (simp; omega)) | (refine ⟨rfl, ?_⟩; first | ((first | rw [lI] | rw [lS] | rw [lB]); omega) | (simp; done) | (simp; omega)) | fail)); conv => whnf) | (refine pcase.mk (fun hc => ?_) (fun hc => ?_) <;> (try rw [List.length_nil] at hc) <;> first | (exfalso; omega) | (exact absurd rfl hc) | conv => whnf) | (apply wrapK_intro; (· exact wrap_i64 (by omega) (by omega)); conv => whnf) | (apply nthK_intro; (· (first | ((with_reducible first | refine nIN ?_ | refine nI ?_ | refine nSN ?_ | refine nS ?_ | refine nBN ?_ | refine nB ?_); (first | omega | (simp; omega))) | rfl)); conv => whnf) | (apply getK_intro; (· rfl); conv => whnf) | (apply eqK_intro; (· (first | (with_reducible first | exact lI _ | exact lS _ | exact lB _ | exact uI | exact uS | exact uIS | exact uSS | exact rIN _ _ | exact rI _ _ | exact tIN | exact tI | exact tBN | exact tB | exact uB | exact rBN _ _) | rfl)); conv => whnf) | ((first | apply apI | apply apS); (· first | rfl | (simp; done)); (· (first | omega | (simp; omega))); conv => whnf) | (refine fkI (fun hm => ?_) (fun _ v hm => ?_) <;> conv => whnf) | (apply msI; conv => whnf)  | (refine bcase_intro (fun hc => ?_) (fun hc => ?_) <;> conv => whnf))
  refine loop_inv (fun m env s => ∃ (k g c ll : Nat) (nn : Bool) (l : List Int), m = (E[e]).2.length - k ∧ k ≤ (E[e]).2.length ∧ ll = l.length ∧ ll ≤ k ∧ env = [(0, .ref 3 gf 0 0), (1, .int .i64 e), (6, .own 4 g 0 ll), (19, isl (E[e]).1 (E[e]).2), (20, .int .i64 (E[e]).2.length), (21, .int .i64 k)] ∧ s = ⟨stT n ns E gg gp gf G P ++ [.arr g 1 nn true (ints l)], c⟩ ∧ ∀ x, x ∈ l ↔ x ∈ (E[e]).2.take k ∧ ∃ j, live (E.map (·.2)) G e j ∧ x ∈ nthL (E.map (·.2)) j) ?_ _ _ _ ⟨0, _, _, _, _, [], rfl, by omega, rfl, by simp, by simp, rfl, by simp⟩
  rintro _ _ _ ⟨k, g, c, ll, nn, l, rfl, hk, rfl, hll, rfl, rfl, hl⟩
  refine ⟨rfl, ?_⟩
  by_cases hkl : k < (E[e]).2.length
  · (conv => whnf); repeat' (first | (refine need.mk ?_ ?_; (· (first | with_reducible rfl | omega | rfl | decide | trivial | exact ⟨rfl, rfl, by omega, by omega⟩ | exact ⟨by omega, by omega, roomy_of (by omega)⟩ | (refine ⟨rfl, rfl, ?_⟩; first | ((first | rw [lI] | rw [lS] | rw [lB]); omega) | (simp; done) | (simp; omega)) | (refine ⟨rfl, ?_⟩; first | ((first | rw [lI] | rw [lS] | rw [lB]); omega) | (simp; done) | (simp; omega)) | fail)); conv => whnf) | (refine pcase.mk (fun hc => ?_) (fun hc => ?_) <;> (try rw [List.length_nil] at hc) <;> first | (exfalso; omega) | (exact absurd rfl hc) | conv => whnf) | (apply wrapK_intro; (· exact wrap_i64 (by omega) (by omega)); conv => whnf) | (apply nthK_intro; (· (first | ((with_reducible first | refine nIN ?_ | refine nI ?_ | refine nSN ?_ | refine nS ?_ | refine nBN ?_ | refine nB ?_); (first | omega | (simp; omega))) | rfl)); conv => whnf) | (apply getK_intro; (· rfl); conv => whnf) | (apply eqK_intro; (· (first | (with_reducible first | exact lI _ | exact lS _ | exact lB _ | exact uI | exact uS | exact uIS | exact uSS | exact rIN _ _ | exact rI _ _ | exact tIN | exact tI | exact tBN | exact tB | exact uB | exact rBN _ _) | rfl)); conv => whnf) | ((first | apply apI | apply apS); (· first | rfl | (simp; done)); (· (first | omega | (simp; omega))); conv => whnf) | (refine fkI (fun hm => ?_) (fun _ v hm => ?_) <;> conv => whnf) | (apply msI; conv => whnf)  | (refine bcase_intro (fun hc => ?_) (fun hc => ?_) <;> conv => whnf))
    refine loop_inv (fun m env s => ∃ (i : Nat), m = E.length - i ∧ i ≤ E.length ∧ env = [(0, .ref 3 gf 0 0), (1, .int .i64 e), (6, .own 4 g 0 l.length), (8, .int .i64 (E[e]).2[k]), (19, isl (E[e]).1 (E[e]).2), (20, .int .i64 (E[e]).2.length), (21, .int .i64 k), (28, .sl ns (iss E)), (29, .int .i64 E.length), (30, .int .i64 i)] ∧ s = ⟨stT n ns E gg gp gf G P ++ [.arr g 1 nn true (ints l)], c⟩ ∧ ∀ j < i, ¬ (live (E.map (·.2)) G e j ∧ (E[e]).2[k] ∈ nthL (E.map (·.2)) j)) ?_ _ _ _ ⟨0, rfl, by omega, by simp, rfl, fun j hj => by omega⟩
    rintro _ _ _ ⟨i, rfl, hi, rfl, rfl, hno⟩
    refine ⟨rfl, ?_⟩
    have hnext : ¬ (live (E.map (·.2)) G e i ∧ (E[e]).2[k] ∈ nthL (E.map (·.2)) i) → ∀ j < i + 1, ¬ (live (E.map (·.2)) G e j ∧ (E[e]).2[k] ∈ nthL (E.map (·.2)) j) := fun h j hj => by
      rcases Nat.lt_or_ge j i with h1 | h1
      · exact hno j h1
      · obtain rfl : j = i := by omega
        exact h
    by_cases hil : i < E.length
    · have his := hE.get hil
      have hni := nthL_snds' hil
      have hiG : i < G.length := by omega
      (conv => whnf); repeat' (first | (refine need.mk ?_ ?_; (· (first | with_reducible rfl | omega | rfl | decide | trivial | exact ⟨rfl, rfl, by omega, by omega⟩ | exact ⟨by omega, by omega, roomy_of (by omega)⟩ | (refine ⟨rfl, rfl, ?_⟩; first | ((first | rw [lI] | rw [lS] | rw [lB]); omega) | (simp; done) | (simp; omega)) | (refine ⟨rfl, ?_⟩; first | ((first | rw [lI] | rw [lS] | rw [lB]); omega) | (simp; done) | (simp; omega)) | fail)); conv => whnf) | (refine pcase.mk (fun hc => ?_) (fun hc => ?_) <;> (try rw [List.length_nil] at hc) <;> first | (exfalso; omega) | (exact absurd rfl hc) | conv => whnf) | (apply wrapK_intro; (· exact wrap_i64 (by omega) (by omega)); conv => whnf) | (apply nthK_intro; (· (first | ((with_reducible first | refine nIN ?_ | refine nI ?_ | refine nSN ?_ | refine nS ?_ | refine nBN ?_ | refine nB ?_); (first | omega | (simp; omega))) | rfl)); conv => whnf) | (apply getK_intro; (· rfl); conv => whnf) | (apply eqK_intro; (· (first | (with_reducible first | exact lI _ | exact lS _ | exact lB _ | exact uI | exact uS | exact uIS | exact uSS | exact rIN _ _ | exact rI _ _ | exact tIN | exact tI | exact tBN | exact tB | exact uB | exact rBN _ _) | rfl)); conv => whnf) | ((first | apply apI | apply apS); (· first | rfl | (simp; done)); (· (first | omega | (simp; omega))); conv => whnf) | (refine fkI (fun hm => ?_) (fun _ v hm => ?_) <;> conv => whnf) | (apply msI; conv => whnf) | (refine callB (cont34 his) (fun hc => ?_) (fun hc => ?_) <;> conv => whnf) | (refine bcase_intro (fun hc => ?_) (fun hc => ?_) <;> conv => whnf))
      · exact again.mk ⟨_, by omega, i + 1, rfl, by omega, rfl, rfl, hnext fun h => absurd (by omega) h.1.2.1⟩
      · have := on_get hiG hc
        exact again.mk ⟨_, by omega, i + 1, rfl, by omega, rfl, rfl, hnext fun h => by rw [h.1.2.2] at this; cases this⟩
      · exact again.mk ⟨_, by omega, k + 1, _, _, _, _, _, rfl, by omega, by simp, by omega, rfl, rfl, grow_all hkl hl fun y => by
          rw [List.mem_append, List.mem_singleton]
          constructor
          · rintro (h | h)
            · exact .inl h
            · exact .inr ⟨h, i, ⟨by simpa using hil, by omega, on_get hiG (by assumption)⟩, by rw [hni]; assumption⟩
          · rintro (h | ⟨h, _⟩)
            · exact .inl h
            · exact .inr h⟩
      · exact again.mk ⟨_, by omega, i + 1, rfl, by omega, rfl, rfl, hnext fun h => absurd h.2 (by rw [hni]; assumption)⟩
    · (conv => whnf); repeat' (first | (refine need.mk ?_ ?_; (· (first | with_reducible rfl | omega | rfl | decide | trivial | exact ⟨rfl, rfl, by omega, by omega⟩ | exact ⟨by omega, by omega, roomy_of (by omega)⟩ | (refine ⟨rfl, rfl, ?_⟩; first | ((first | rw [lI] | rw [lS] | rw [lB]); omega) | (simp; done) | (simp; omega)) | (refine ⟨rfl, ?_⟩; first | ((first | rw [lI] | rw [lS] | rw [lB]); omega) | (simp; done) | (simp; omega)) | fail)); conv => whnf) | (refine pcase.mk (fun hc => ?_) (fun hc => ?_) <;> (try rw [List.length_nil] at hc) <;> first | (exfalso; omega) | (exact absurd rfl hc) | conv => whnf) | (apply wrapK_intro; (· exact wrap_i64 (by omega) (by omega)); conv => whnf) | (apply nthK_intro; (· (first | ((with_reducible first | refine nIN ?_ | refine nI ?_ | refine nSN ?_ | refine nS ?_ | refine nBN ?_ | refine nB ?_); (first | omega | (simp; omega))) | rfl)); conv => whnf) | (apply getK_intro; (· rfl); conv => whnf) | (apply eqK_intro; (· (first | (with_reducible first | exact lI _ | exact lS _ | exact lB _ | exact uI | exact uS | exact uIS | exact uSS | exact rIN _ _ | exact rI _ _ | exact tIN | exact tI | exact tBN | exact tB | exact uB | exact rBN _ _) | rfl)); conv => whnf) | ((first | apply apI | apply apS); (· first | rfl | (simp; done)); (· (first | omega | (simp; omega))); conv => whnf) | (refine fkI (fun hm => ?_) (fun _ v hm => ?_) <;> conv => whnf) | (apply msI; conv => whnf)  | (refine bcase_intro (fun hc => ?_) (fun hc => ?_) <;> conv => whnf))
      obtain rfl : i = E.length := by omega
      exact again.mk ⟨_, by omega, k + 1, _, _, _, _, _, rfl, by omega, rfl, by omega, rfl, rfl, grow_all hkl hl fun y =>
        ⟨.inl, fun h => h.elim id fun ⟨_, j, h2⟩ => absurd h2 (hno j (by have := h2.1.1; simpa using this))⟩⟩
  · rw [List.take_of_length_le (by omega)] at hl
    have hcom : ∀ x, x ∈ l ↔ com (E.map (·.2)) G e x := fun x => by rw [hl x]; unfold com; rw [hne]
    (conv => whnf); repeat' (first | (refine need.mk ?_ ?_; (· (first | with_reducible rfl | omega | rfl | decide | trivial | exact ⟨rfl, rfl, by omega, by omega⟩ | exact ⟨by omega, by omega, roomy_of (by omega)⟩ | (refine ⟨rfl, rfl, ?_⟩; first | ((first | rw [lI] | rw [lS] | rw [lB]); omega) | (simp; done) | (simp; omega)) | (refine ⟨rfl, ?_⟩; first | ((first | rw [lI] | rw [lS] | rw [lB]); omega) | (simp; done) | (simp; omega)) | fail)); conv => whnf) | (refine pcase.mk (fun hc => ?_) (fun hc => ?_) <;> (try rw [List.length_nil] at hc) <;> first | (exfalso; omega) | (exact absurd rfl hc) | conv => whnf) | (apply wrapK_intro; (· exact wrap_i64 (by omega) (by omega)); conv => whnf) | (apply nthK_intro; (· (first | ((with_reducible first | refine nIN ?_ | refine nI ?_ | refine nSN ?_ | refine nS ?_ | refine nBN ?_ | refine nB ?_); (first | omega | (simp; omega))) | rfl)); conv => whnf) | (apply getK_intro; (· rfl); conv => whnf) | (apply eqK_intro; (· (first | (with_reducible first | exact lI _ | exact lS _ | exact lB _ | exact uI | exact uS | exact uIS | exact uSS | exact rIN _ _ | exact rI _ _ | exact tIN | exact tI | exact tBN | exact tB | exact uB | exact rBN _ _) | rfl)); conv => whnf) | ((first | apply apI | apply apS); (· first | rfl | (simp; done)); (· (first | omega | (simp; omega))); conv => whnf) | (refine fkI (fun hm => ?_) (fun _ v hm => ?_) <;> conv => whnf) | (apply msI; conv => whnf)  | (refine bcase_intro (fun hc => ?_) (fun hc => ?_) <;> conv => whnf))
    · refine ⟨-1, true, _, _, rfl, rfl, .inl ⟨rfl, .inl ⟨rfl, fun x hx => ?_⟩⟩⟩
      have := (hcom x).2 hx
      rw [List.eq_nil_of_length_eq_zero (l := l) (by omega)] at this
      simp at this
    · have hex : ∃ x, com (E.map (·.2)) G e x := by
        obtain ⟨x, hx⟩ := List.exists_mem_of_length_pos (l := l) (by omega)
        exact ⟨x, (hcom x).1 hx⟩
      refine loop_inv (fun m env s => ∃ (i : Nat), m = E.length - i ∧ i ≤ E.length ∧ env = [(0, .ref 3 gf 0 0), (1, .int .i64 e), (6, .own 4 g 0 l.length), (65, .sl ns (iss E)), (66, .int .i64 E.length), (67, .int .i64 i)] ∧ s = ⟨stT n ns E gg gp gf G P ++ [.arr g 1 nn true (ints l)], c⟩ ∧ ∀ j < i, ¬ tak (E.map (·.2)) G e j) ?_ _ _ _ ⟨0, rfl, by omega, by simp, rfl, fun j hj => by omega⟩
      rintro _ _ _ ⟨i, rfl, hi, rfl, rfl, hno⟩
      refine ⟨rfl, ?_⟩
      by_cases hil : i < E.length
      · have his := hE.get hil
        have hni := nthL_snds' hil
        have hiG : i < G.length := by omega
        have hnext : ¬ tak (E.map (·.2)) G e i → ∀ j < i + 1, ¬ tak (E.map (·.2)) G e j := fun h j hj => by
          rcases Nat.lt_or_ge j i with h1 | h1
          · exact hno j h1
          · obtain rfl : j = i := by omega
            exact h
        (conv => whnf); repeat' (first | (refine need.mk ?_ ?_; (· (first | with_reducible rfl | omega | rfl | decide | trivial | exact ⟨rfl, rfl, by omega, by omega⟩ | exact ⟨by omega, by omega, roomy_of (by omega)⟩ | (refine ⟨rfl, rfl, ?_⟩; first | ((first | rw [lI] | rw [lS] | rw [lB]); omega) | (simp; done) | (simp; omega)) | (refine ⟨rfl, ?_⟩; first | ((first | rw [lI] | rw [lS] | rw [lB]); omega) | (simp; done) | (simp; omega)) | fail)); conv => whnf) | (refine pcase.mk (fun hc => ?_) (fun hc => ?_) <;> (try rw [List.length_nil] at hc) <;> first | (exfalso; omega) | (exact absurd rfl hc) | conv => whnf) | (apply wrapK_intro; (· exact wrap_i64 (by omega) (by omega)); conv => whnf) | (apply nthK_intro; (· (first | ((with_reducible first | refine nIN ?_ | refine nI ?_ | refine nSN ?_ | refine nS ?_ | refine nBN ?_ | refine nB ?_); (first | omega | (simp; omega))) | rfl)); conv => whnf) | (apply getK_intro; (· rfl); conv => whnf) | (apply eqK_intro; (· (first | (with_reducible first | exact lI _ | exact lS _ | exact lB _ | exact uI | exact uS | exact uIS | exact uSS | exact rIN _ _ | exact rI _ _ | exact tIN | exact tI | exact tBN | exact tB | exact uB | exact rBN _ _) | rfl)); conv => whnf) | ((first | apply apI | apply apS); (· first | rfl | (simp; done)); (· (first | omega | (simp; omega))); conv => whnf) | (refine fkI (fun hm => ?_) (fun _ v hm => ?_) <;> conv => whnf) | (apply msI; conv => whnf) | (refine callB (within39 (a := l) (by omega) his) (fun hc => ?_) (fun hc => ?_) <;> conv => whnf) | (refine bcase_intro (fun hc => ?_) (fun hc => ?_) <;> conv => whnf))
        · exact again.mk ⟨_, by omega, i + 1, rfl, by omega, rfl, rfl, hnext fun h => absurd (by omega) h.1.2.1⟩
        · have := on_get hiG hc
          exact again.mk ⟨_, by omega, i + 1, rfl, by omega, rfl, rfl, hnext fun h => by rw [h.1.2.2] at this; cases this⟩
        · refine ⟨_, true, _, _, rfl, rfl, .inl ⟨rfl, .inr ⟨i, rfl, hex, ⟨⟨by simpa using hil, by omega, on_get hiG (by assumption)⟩, fun x hx => ?_⟩, hno⟩⟩⟩
          rw [hni]; exact hc x ((hcom x).2 hx)
        · exact again.mk ⟨_, by omega, i + 1, rfl, by omega, rfl, rfl, hnext fun h => hc fun x hx => by rw [← hni]; exact h.2 x ((hcom x).1 hx)⟩
      · (conv => whnf); repeat' (first | (refine need.mk ?_ ?_; (· (first | with_reducible rfl | omega | rfl | decide | trivial | exact ⟨rfl, rfl, by omega, by omega⟩ | exact ⟨by omega, by omega, roomy_of (by omega)⟩ | (refine ⟨rfl, rfl, ?_⟩; first | ((first | rw [lI] | rw [lS] | rw [lB]); omega) | (simp; done) | (simp; omega)) | (refine ⟨rfl, ?_⟩; first | ((first | rw [lI] | rw [lS] | rw [lB]); omega) | (simp; done) | (simp; omega)) | fail)); conv => whnf) | (refine pcase.mk (fun hc => ?_) (fun hc => ?_) <;> (try rw [List.length_nil] at hc) <;> first | (exfalso; omega) | (exact absurd rfl hc) | conv => whnf) | (apply wrapK_intro; (· exact wrap_i64 (by omega) (by omega)); conv => whnf) | (apply nthK_intro; (· (first | ((with_reducible first | refine nIN ?_ | refine nI ?_ | refine nSN ?_ | refine nS ?_ | refine nBN ?_ | refine nB ?_); (first | omega | (simp; omega))) | rfl)); conv => whnf) | (apply getK_intro; (· rfl); conv => whnf) | (apply eqK_intro; (· (first | (with_reducible first | exact lI _ | exact lS _ | exact lB _ | exact uI | exact uS | exact uIS | exact uSS | exact rIN _ _ | exact rI _ _ | exact tIN | exact tI | exact tBN | exact tB | exact uB | exact rBN _ _) | rfl)); conv => whnf) | ((first | apply apI | apply apS); (· first | rfl | (simp; done)); (· (first | omega | (simp; omega))); conv => whnf) | (refine fkI (fun hm => ?_) (fun _ v hm => ?_) <;> conv => whnf) | (apply msI; conv => whnf)  | (refine bcase_intro (fun hc => ?_) (fun hc => ?_) <;> conv => whnf))
        obtain rfl : i = E.length := by omega
        exact ⟨0, false, _, _, rfl, rfl, .inr ⟨rfl, hex, fun k hk => hno k (by have := hk.1.1; simpa using this) hk⟩⟩

end AI
end Go.Proofs.Ytocgbgffpdphdaa
