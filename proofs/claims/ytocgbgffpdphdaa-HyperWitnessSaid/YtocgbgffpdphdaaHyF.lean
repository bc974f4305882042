/- Ears: the walks. -/
import Derived.Test.YtocgbgffpdphdaaHyD
import Derived.Test.YtocgbgffpdphdaaHyT
set_option linter.unusedVariables false
namespace Go.Proofs.Ytocgbgffpdphdaa
namespace AI

theorem nthL_snds' {E : List (Bool × List Int)} {i : Nat} (h : i < E.length) : nthL (E.map (·.2)) i = (E[i]).2 := by
  rw [nthL_eq (by simpa using h)]; simp

theorem live_lt {L : List (List Int)} {G : List Bool} {i k : Nat} (h : live L G i k) : k < L.length := h.1

theorem grow_keep {l l' : List Int} {x : Int} {p : Nat → Prop} {i : Nat} (h : ∀ y, y ∈ l' ↔ y ∈ l ∨ (y = x ∧ ∃ j < i, p j)) (hn : p i → x ∈ l') : ∀ y, y ∈ l' ↔ y ∈ l ∨ (y = x ∧ ∃ j < i + 1, p j) := by
  intro y
  constructor
  · intro hy
    rcases (h y).1 hy with h1 | ⟨h1, j, h2, h3⟩
    · exact .inl h1
    · exact .inr ⟨h1, j, by omega, h3⟩
  · rintro (h1 | ⟨rfl, j, h2, h3⟩)
    · exact (h y).2 (.inl h1)
    · rcases Nat.lt_or_ge j i with hj | hj
      · exact (h y).2 (.inr ⟨rfl, j, hj, h3⟩)
      · obtain rfl : j = i := by omega
        exact hn h3

theorem grow_add {l l' : List Int} {x : Int} {p : Nat → Prop} {i : Nat} (h : ∀ y, y ∈ l' ↔ y ∈ l ∨ (y = x ∧ ∃ j < i, p j)) (hp : p i) : ∀ y, y ∈ l' ++ [x] ↔ y ∈ l ∨ (y = x ∧ ∃ j < i + 1, p j) := by
  intro y
  rw [List.mem_append, List.mem_singleton, h y]
  constructor
  · rintro ((h1 | ⟨h1, j, h2, h3⟩) | h1)
    · exact .inl h1
    · exact .inr ⟨h1, j, by omega, h3⟩
    · exact .inr ⟨h1, i, by omega, hp⟩
  · rintro (h1 | ⟨h1, _⟩)
    · exact .inl (.inl h1)
    · exact .inr h1

theorem grow_all {e l l' : List Int} {k : Nat} (hk : k < e.length) {q : Int → Prop} (h : ∀ x, x ∈ l ↔ x ∈ e.take k ∧ q x) (h' : ∀ y, y ∈ l' ↔ y ∈ l ∨ (y = e[k] ∧ q e[k])) : ∀ x, x ∈ l' ↔ x ∈ e.take (k + 1) ∧ q x := by
  intro x
  rw [h' x, h x, take_mem_iff hk]
  constructor
  · rintro (⟨h1, h2⟩ | ⟨rfl, h2⟩)
    · exact ⟨.inl h1, h2⟩
    · exact ⟨.inr rfl, h2⟩
  · rintro ⟨h1 | rfl, h2⟩
    · exact .inl ⟨h1, h2⟩
    · exact .inr ⟨rfl, h2⟩

theorem on_get {G : List Bool} {i : Nat} {b : Bool} (h : i < G.length) (hc : G[i] = b) : on G i = b := by rw [on_eq h, hc]

theorem ear32 {n : Int} {E : List (Bool × List Int)} {ns gb : Bool} {G : List Bool} {e : Nat} (hE : SmE E) (hs : ∀ p ∈ E, p.2.length ≤ 1000) (hG : G.length = E.length) (he : e < E.length) :
    PureP (findFn tab) 32 [.agg [.int .i64 n, .sl ns (iss E)], .sl gb (bools G), .int .i64 e] (fun v => ∃ p, v = .int .i64 p ∧ (IsEar (E.map (·.2)) G e p ∨ (p = -2 ∧ NoEar (E.map (·.2)) G e))) := by
  have hE0 := hE.1
  have hes := hE.get he
  have hes' := hs _ (List.getElem_mem he)
  have hne := nthL_snds' he
  refine pureP_of rfl rfl ?_
  (conv => whnf); repeat' (first | (refine need.mk ?_ ?_; (· (first | with_reducible rfl | omega | rfl | decide | trivial | exact ⟨rfl, rfl, by omega, by omega⟩ | exact ⟨by omega, by omega, roomy_of (by omega)⟩ | (refine ⟨rfl, rfl, ?_⟩; first | ((first | rw [lI] | rw [lS] | rw [lB]); omega) | (simp; done) | (simp; omega)) | (refine ⟨rfl, ?_⟩; first | ((first | rw [lI] | rw [lS] | rw [lB]); omega) | (simp; done) | (simp; omega)) | fail)); conv => whnf) | (refine pcase.mk (fun hc => ?_) (fun hc => ?_) <;> (try rw [List.length_nil] at hc) <;> first | (exfalso; omega) | (exact absurd rfl hc) | conv => whnf) | (apply wrapK_intro; (· exact wrap_i64 (by omega) (by omega)); conv => whnf) | (apply nthK_intro; (· (first | ((with_reducible first | refine nIN ?_ | refine nI ?_ | refine nSN ?_ | refine nS ?_ | refine nBN ?_ | refine nB ?_); (first | omega | (simp; omega))) | rfl)); conv => whnf) | (apply getK_intro; (· rfl); conv => whnf) | (apply eqK_intro; (· (first | (with_reducible first | exact lI _ | exact lS _ | exact lB _ | exact uI | exact uS | exact uIS | exact uSS | exact rIN _ _ | exact rI _ _ | exact tIN | exact tI | exact tBN | exact tB | exact uB | exact rBN _ _) | rfl)); conv => whnf) | ((first | apply apI | apply apS); (· first | rfl | (simp; done)); (· (first | omega | (simp; omega))); conv => whnf) | (refine fkI (fun hm => ?_) (fun _ v hm => ?_) <;> conv => whnf) | (apply msI; conv => whnf)  | (refine bcase_intro (fun hc => ?_) (fun hc => ?_) <;> conv => whnf))
  refine loop_inv (fun m env s => ∃ (k g c ll : Nat) (nn : Bool) (l : List Int), m = (E[e]).2.length - k ∧ k ≤ (E[e]).2.length ∧ ll = l.length ∧ ll ≤ k ∧ env = [(1, .sl gb (bools G)), (2, .int .i64 e), (3, .ref 0 0 0 0), (7, .own 1 g 0 ll), (8, .int .i64 k)] ∧ s = ⟨[.arr 0 2 true true [.agg [.int .i64 n, .sl ns (iss E)]], .arr g 1 nn true (ints l)], c⟩ ∧ ∀ x, x ∈ l ↔ x ∈ (E[e]).2.take k ∧ ∃ j, live (E.map (·.2)) G e j ∧ x ∈ nthL (E.map (·.2)) j) ?_ _ _ _ ⟨0, _, _, _, _, [], rfl, by omega, rfl, by simp, rfl, rfl, by simp⟩
  rintro _ _ _ ⟨k, g, c, ll, nn, l, rfl, hk, rfl, hll, rfl, rfl, hl⟩
  refine ⟨rfl, ?_⟩
  by_cases hkl : k < (E[e]).2.length
  · (conv => whnf); repeat' (first | (refine need.mk ?_ ?_; (· (first | with_reducible rfl | omega | rfl | decide | trivial | exact ⟨rfl, rfl, by omega, by omega⟩ | exact ⟨by omega, by omega, roomy_of (by omega)⟩ | (refine ⟨rfl, rfl, ?_⟩; first | ((first | rw [lI] | rw [lS] | rw [lB]); omega) | (simp; done) | (simp; omega)) | (refine ⟨rfl, ?_⟩; first | ((first | rw [lI] | rw [lS] | rw [lB]); omega) | (simp; done) | (simp; omega)) | fail)); conv => whnf) | (refine pcase.mk (fun hc => ?_) (fun hc => ?_) <;> (try rw [List.length_nil] at hc) <;> first | (exfalso; omega) | (exact absurd rfl hc) | conv => whnf) | (apply wrapK_intro; (· exact wrap_i64 (by omega) (by omega)); conv => whnf) | (apply nthK_intro; (· (first | ((with_reducible first | refine nIN ?_ | refine nI ?_ | refine nSN ?_ | refine nS ?_ | refine nBN ?_ | refine nB ?_); (first | omega | (simp; omega))) | rfl)); conv => whnf) | (apply getK_intro; (· rfl); conv => whnf) | (apply eqK_intro; (· (first | (with_reducible first | exact lI _ | exact lS _ | exact lB _ | exact uI | exact uS | exact uIS | exact uSS | exact rIN _ _ | exact rI _ _ | exact tIN | exact tI | exact tBN | exact tB | exact uB | exact rBN _ _) | rfl)); conv => whnf) | ((first | apply apI | apply apS); (· first | rfl | (simp; done)); (· (first | omega | (simp; omega))); conv => whnf) | (refine fkI (fun hm => ?_) (fun _ v hm => ?_) <;> conv => whnf) | (apply msI; conv => whnf)  | (refine bcase_intro (fun hc => ?_) (fun hc => ?_) <;> conv => whnf))
    refine loop_inv (fun m env s => ∃ (i g c ll : Nat) (nn : Bool) (l' : List Int), m = E.length - i ∧ i ≤ E.length ∧ ll = l'.length ∧ (ll ≤ k ∨ (E[e]).2[k] ∈ l' ∧ ll ≤ k + 1) ∧ env = [(1, .sl gb (bools G)), (2, .int .i64 e), (3, .ref 0 0 0 0), (7, .own 1 g 0 ll), (8, .int .i64 k), (9, .int .i64 i)] ∧ s = ⟨[.arr 0 2 true true [.agg [.int .i64 n, .sl ns (iss E)]], .arr g 1 nn true (ints l')], c⟩ ∧ ∀ x, x ∈ l' ↔ x ∈ l ∨ (x = (E[e]).2[k] ∧ ∃ j < i, live (E.map (·.2)) G e j ∧ (E[e]).2[k] ∈ nthL (E.map (·.2)) j)) ?_ _ _ _ ⟨0, _, _, _, _, l, rfl, by omega, rfl, .inl hll, rfl, rfl, by simp⟩
    rintro _ _ _ ⟨i, g, c, ll, nn, l', rfl, hi, rfl, hll', rfl, rfl, hl'⟩
    refine ⟨rfl, ?_⟩
    by_cases hil : i < E.length
    · have his := hE.get hil
      have hni := nthL_snds' hil
      have hiG : i < G.length := by omega
      (conv => whnf); repeat' (first | (refine need.mk ?_ ?_; (· (first | with_reducible rfl | omega | rfl | decide | trivial | exact ⟨rfl, rfl, by omega, by omega⟩ | exact ⟨by omega, by omega, roomy_of (by omega)⟩ | (refine ⟨rfl, rfl, ?_⟩; first | ((first | rw [lI] | rw [lS] | rw [lB]); omega) | (simp; done) | (simp; omega)) | (refine ⟨rfl, ?_⟩; first | ((first | rw [lI] | rw [lS] | rw [lB]); omega) | (simp; done) | (simp; omega)) | fail)); conv => whnf) | (refine pcase.mk (fun hc => ?_) (fun hc => ?_) <;> (try rw [List.length_nil] at hc) <;> first | (exfalso; omega) | (exact absurd rfl hc) | conv => whnf) | (apply wrapK_intro; (· exact wrap_i64 (by omega) (by omega)); conv => whnf) | (apply nthK_intro; (· (first | ((with_reducible first | refine nIN ?_ | refine nI ?_ | refine nSN ?_ | refine nS ?_ | refine nBN ?_ | refine nB ?_); (first | omega | (simp; omega))) | rfl)); conv => whnf) | (apply getK_intro; (· rfl); conv => whnf) | (apply eqK_intro; (· (first | (with_reducible first | exact lI _ | exact lS _ | exact lB _ | exact uI | exact uS | exact uIS | exact uSS | exact rIN _ _ | exact rI _ _ | exact tIN | exact tI | exact tBN | exact tB | exact uB | exact rBN _ _) | rfl)); conv => whnf) | ((first | apply apI | apply apS); (· first | rfl | (simp; done)); (· (first | omega | (simp; omega))); conv => whnf) | (refine fkI (fun hm => ?_) (fun _ v hm => ?_) <;> conv => whnf) | (apply msI; conv => whnf) | (refine callB (has36 his) (fun hc => ?_) (fun hc => ?_) <;> conv => whnf) | (refine callB (has36 (l := l') (by omega)) (fun hc => ?_) (fun hc => ?_) <;> conv => whnf) | (refine bcase_intro (fun hc => ?_) (fun hc => ?_) <;> conv => whnf))
      · exact again.mk ⟨_, by omega, i + 1, _, _, _, _, _, rfl, by omega, rfl, hll', rfl, rfl, grow_keep hl' fun h => absurd (by omega) h.1.2.1⟩
      · have := on_get hiG hc
        exact again.mk ⟨_, by omega, i + 1, _, _, _, _, _, rfl, by omega, rfl, hll', rfl, rfl, grow_keep hl' fun h => by rw [h.1.2.2] at this; cases this⟩
      · exact again.mk ⟨_, by omega, i + 1, _, _, _, _, _, rfl, by omega, rfl, hll', rfl, rfl, grow_keep hl' fun _ => by assumption⟩
      · have hnl : ¬ l'.length ≤ k → False := fun h => by rcases hll' with h1 | ⟨h1, _⟩; exact h h1; contradiction
        have hnl' : l'.length ≤ k := Classical.not_not.1 hnl
        exact again.mk ⟨_, by omega, i + 1, _, _, _, _, _, rfl, by omega, by simp, .inr ⟨by simp, by omega⟩, rfl, rfl, grow_add hl' ⟨⟨by simpa using hil, by omega, on_get hiG (by assumption)⟩, by rw [hni]; assumption⟩⟩
      · exact again.mk ⟨_, by omega, i + 1, _, _, _, _, _, rfl, by omega, rfl, hll', rfl, rfl, grow_keep hl' fun h => absurd h.2 (by rw [hni]; assumption)⟩
    · (conv => whnf); repeat' (first | (refine need.mk ?_ ?_; (· (first | with_reducible rfl | omega | rfl | decide | trivial | exact ⟨rfl, rfl, by omega, by omega⟩ | exact ⟨by omega, by omega, roomy_of (by omega)⟩ | (refine ⟨rfl, rfl, ?_⟩; first | ((first | rw [lI] | rw [lS] | rw [lB]); omega) | (simp; done) | (simp; omega)) | (refine ⟨rfl, ?_⟩; first | ((first | rw [lI] | rw [lS] | rw [lB]); omega) | (simp; done) | (simp; omega)) | fail)); conv => whnf) | (refine pcase.mk (fun hc => ?_) (fun hc => ?_) <;> (try rw [List.length_nil] at hc) <;> first | (exfalso; omega) | (exact absurd rfl hc) | conv => whnf) | (apply wrapK_intro; (· exact wrap_i64 (by omega) (by omega)); conv => whnf) | (apply nthK_intro; (· (first | ((with_reducible first | refine nIN ?_ | refine nI ?_ | refine nSN ?_ | refine nS ?_ | refine nBN ?_ | refine nB ?_); (first | omega | (simp; omega))) | rfl)); conv => whnf) | (apply getK_intro; (· rfl); conv => whnf) | (apply eqK_intro; (· (first | (with_reducible first | exact lI _ | exact lS _ | exact lB _ | exact uI | exact uS | exact uIS | exact uSS | exact rIN _ _ | exact rI _ _ | exact tIN | exact tI | exact tBN | exact tB | exact uB | exact rBN _ _) | rfl)); conv => whnf) | ((first | apply apI | apply apS); (· first | rfl | (simp; done)); (· (first | omega | (simp; omega))); conv => whnf) | (refine fkI (fun hm => ?_) (fun _ v hm => ?_) <;> conv => whnf) | (apply msI; conv => whnf)  | (refine bcase_intro (fun hc => ?_) (fun hc => ?_) <;> conv => whnf))
      obtain rfl : i = E.length := by omega
      exact again.mk ⟨_, by omega, k + 1, _, _, _, _, _, rfl, by omega, rfl, by omega, rfl, rfl, grow_all hkl hl fun y => by
        rw [hl' y]
        constructor
        · rintro (h | ⟨h, j, _, h2⟩)
          · exact .inl h
          · exact .inr ⟨h, j, h2⟩
        · rintro (h | ⟨h, j, h2⟩)
          · exact .inl h
          · exact .inr ⟨h, j, by have := h2.1.1; simpa using this, h2⟩⟩
  · rw [List.take_of_length_le (by omega)] at hl
    have hcom : ∀ x, x ∈ l ↔ com (E.map (·.2)) G e x := fun x => by rw [hl x]; unfold com; rw [hne]
    (conv => whnf); repeat' (first | (refine need.mk ?_ ?_; (· (first | with_reducible rfl | omega | rfl | decide | trivial | exact ⟨rfl, rfl, by omega, by omega⟩ | exact ⟨by omega, by omega, roomy_of (by omega)⟩ | (refine ⟨rfl, rfl, ?_⟩; first | ((first | rw [lI] | rw [lS] | rw [lB]); omega) | (simp; done) | (simp; omega)) | (refine ⟨rfl, ?_⟩; first | ((first | rw [lI] | rw [lS] | rw [lB]); omega) | (simp; done) | (simp; omega)) | fail)); conv => whnf) | (refine pcase.mk (fun hc => ?_) (fun hc => ?_) <;> (try rw [List.length_nil] at hc) <;> first | (exfalso; omega) | (exact absurd rfl hc) | conv => whnf) | (apply wrapK_intro; (· exact wrap_i64 (by omega) (by omega)); conv => whnf) | (apply nthK_intro; (· (first | ((with_reducible first | refine nIN ?_ | refine nI ?_ | refine nSN ?_ | refine nS ?_ | refine nBN ?_ | refine nB ?_); (first | omega | (simp; omega))) | rfl)); conv => whnf) | (apply getK_intro; (· rfl); conv => whnf) | (apply eqK_intro; (· (first | (with_reducible first | exact lI _ | exact lS _ | exact lB _ | exact uI | exact uS | exact uIS | exact uSS | exact rIN _ _ | exact rI _ _ | exact tIN | exact tI | exact tBN | exact tB | exact uB | exact rBN _ _) | rfl)); conv => whnf) | ((first | apply apI | apply apS); (· first | rfl | (simp; done)); (· (first | omega | (simp; omega))); conv => whnf) | (refine fkI (fun hm => ?_) (fun _ v hm => ?_) <;> conv => whnf) | (apply msI; conv => whnf)  | (refine bcase_intro (fun hc => ?_) (fun hc => ?_) <;> conv => whnf))
    · refine ⟨-1, rfl, .inl (.inl ⟨rfl, fun x hx => ?_⟩)⟩
      have := (hcom x).2 hx
      rw [List.eq_nil_of_length_eq_zero (l := l) (by omega)] at this
      simp at this
    · have hex : ∃ x, com (E.map (·.2)) G e x := by
        obtain ⟨x, hx⟩ := List.exists_mem_of_length_pos (l := l) (by omega)
        exact ⟨x, (hcom x).1 hx⟩
      refine loop_inv (fun m env s => ∃ (i : Nat), m = E.length - i ∧ i ≤ E.length ∧ env = [(1, .sl gb (bools G)), (2, .int .i64 e), (3, .ref 0 0 0 0), (7, .own 1 g 0 l.length), (10, .int .i64 i)] ∧ s = ⟨[.arr 0 2 true true [.agg [.int .i64 n, .sl ns (iss E)]], .arr g 1 nn true (ints l)], c⟩ ∧ ∀ j < i, ¬ tak (E.map (·.2)) G e j) ?_ _ _ _ ⟨0, rfl, by omega, rfl, rfl, fun j hj => by omega⟩
      rintro _ _ _ ⟨i, rfl, hi, rfl, rfl, hno⟩
      refine ⟨rfl, ?_⟩
      by_cases hil : i < E.length
      · have his := hE.get hil
        have hni := nthL_snds' hil
        have hiG : i < G.length := by omega
        have hnext : ¬ tak (E.map (·.2)) G e i → ∀ j < i + 1, ¬ tak (E.map (·.2)) G e j := fun h j hj => by
          rcases Nat.lt_or_ge j i with h1 | h1
          · exact hno j h1
          · obtain rfl : j = i := by omega
            exact h
        (conv => whnf); repeat' (first | (refine need.mk ?_ ?_; (· (first | with_reducible rfl | omega | rfl | decide | trivial | exact ⟨rfl, rfl, by omega, by omega⟩ | exact ⟨by omega, by omega, roomy_of (by omega)⟩ | (refine ⟨rfl, rfl, ?_⟩; first | ((first | rw [lI] | rw [lS] | rw [lB]); omega) | (simp; done) | (simp; omega)) | (refine ⟨rfl, ?_⟩; first | ((first | rw [lI] | rw [lS] | rw [lB]); omega) | (simp; done) | (simp; omega)) | fail)); conv => whnf) | (refine pcase.mk (fun hc => ?_) (fun hc => ?_) <;> (try rw [List.length_nil] at hc) <;> first | (exfalso; omega) | (exact absurd rfl hc) | conv => whnf) | (apply wrapK_intro; (· exact wrap_i64 (by omega) (by omega)); conv => whnf) | (apply nthK_intro; (· (first | ((with_reducible first | refine nIN ?_ | refine nI ?_ | refine nSN ?_ | refine nS ?_ | refine nBN ?_ | refine nB ?_); (first | omega | (simp; omega))) | rfl)); conv => whnf) | (apply getK_intro; (· rfl); conv => whnf) | (apply eqK_intro; (· (first | (with_reducible first | exact lI _ | exact lS _ | exact lB _ | exact uI | exact uS | exact uIS | exact uSS | exact rIN _ _ | exact rI _ _ | exact tIN | exact tI | exact tBN | exact tB | exact uB | exact rBN _ _) | rfl)); conv => whnf) | ((first | apply apI | apply apS); (· first | rfl | (simp; done)); (· (first | omega | (simp; omega))); conv => whnf) | (refine fkI (fun hm => ?_) (fun _ v hm => ?_) <;> conv => whnf) | (apply msI; conv => whnf) | (refine callB (within41 (a := l) (by omega) his) (fun hc => ?_) (fun hc => ?_) <;> conv => whnf) | (refine bcase_intro (fun hc => ?_) (fun hc => ?_) <;> conv => whnf))
        · exact again.mk ⟨_, by omega, i + 1, rfl, by omega, rfl, rfl, hnext fun h => absurd (by omega) h.1.2.1⟩
        · have := on_get hiG hc
          exact again.mk ⟨_, by omega, i + 1, rfl, by omega, rfl, rfl, hnext fun h => by rw [h.1.2.2] at this; cases this⟩
        · refine ⟨_, rfl, .inl (.inr ⟨i, rfl, hex, ⟨⟨by simpa using hil, by omega, on_get hiG (by assumption)⟩, fun x hx => ?_⟩, hno⟩)⟩
          rw [hni]; exact hc x ((hcom x).2 hx)
        · exact again.mk ⟨_, by omega, i + 1, rfl, by omega, rfl, rfl, hnext fun h => hc fun x hx => by rw [← hni]; exact h.2 x ((hcom x).1 hx)⟩
      · (conv => whnf); repeat' (first | (refine need.mk ?_ ?_; (· (first | with_reducible rfl | omega | rfl | decide | trivial | exact ⟨rfl, rfl, by omega, by omega⟩ | exact ⟨by omega, by omega, roomy_of (by omega)⟩ | (refine ⟨rfl, rfl, ?_⟩; first | ((first | rw [lI] | rw [lS] | rw [lB]); omega) | (simp; done) | (simp; omega)) | (refine ⟨rfl, ?_⟩; first | ((first | rw [lI] | rw [lS] | rw [lB]); omega) | (simp; done) | (simp; omega)) | fail)); conv => whnf) | (refine pcase.mk (fun hc => ?_) (fun hc => ?_) <;> (try rw [List.length_nil] at hc) <;> first | (exfalso; omega) | (exact absurd rfl hc) | conv => whnf) | (apply wrapK_intro; (· exact wrap_i64 (by omega) (by omega)); conv => whnf) | (apply nthK_intro; (· (first | ((with_reducible first | refine nIN ?_ | refine nI ?_ | refine nSN ?_ | refine nS ?_ | refine nBN ?_ | refine nB ?_); (first | omega | (simp; omega))) | rfl)); conv => whnf) | (apply getK_intro; (· rfl); conv => whnf) | (apply eqK_intro; (· (first | (with_reducible first | exact lI _ | exact lS _ | exact lB _ | exact uI | exact uS | exact uIS | exact uSS | exact rIN _ _ | exact rI _ _ | exact tIN | exact tI | exact tBN | exact tB | exact uB | exact rBN _ _) | rfl)); conv => whnf) | ((first | apply apI | apply apS); (· first | rfl | (simp; done)); (· (first | omega | (simp; omega))); conv => whnf) | (refine fkI (fun hm => ?_) (fun _ v hm => ?_) <;> conv => whnf) | (apply msI; conv => whnf)  | (refine bcase_intro (fun hc => ?_) (fun hc => ?_) <;> conv => whnf))
        obtain rfl : i = E.length := by omega
        exact ⟨-2, rfl, .inr ⟨rfl, hex, fun k hk => hno k (by have := hk.1.1; simpa using this) hk⟩⟩

end AI
end Go.Proofs.Ytocgbgffpdphdaa
