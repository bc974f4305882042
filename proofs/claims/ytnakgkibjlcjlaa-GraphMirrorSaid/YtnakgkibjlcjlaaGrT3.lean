/- The steps at a node: the reference's. -/
import Derived.Test.YtnakgkibjlcjlaaGrT2
set_option linter.unusedVariables false
namespace Go.Proofs.Ytnakgkibjlcjlaa
namespace AI

theorem refB0 {g : GG} {types : List (List UInt8)} {tn : Bool} (ht : types.length < 2^63) {id dir : Int} {i c go n : Nat} {nn : Bool} {W : List Adj} (hi : i < g.edges.length) (hl : g.edges.length ≤ 100) {Q : AExit → Env → Sto → Prop}
    (hs : stepOf g.edges[i] id dir = none)
    (hQ : ∀ c', Q .normal [(1, .int .i64 id), (2, .sl tn (vs .str types)), (3, .int .i64 dir), (4, .ref 0 0 0 0), (9, .own 1 go 0 n), (10, .int .i64 (i + 1))] ⟨[.arr 0 4 true true [g.av], .arr go 3 nn true (vs Adj.av W)], c'⟩) :
    vC (findFn tab) l12_1_b [(1, .int .i64 id), (2, .sl tn (vs .str types)), (3, .int .i64 dir), (4, .ref 0 0 0 0), (9, .own 1 go 0 n), (10, .int .i64 i)] ⟨[.arr 0 4 true true [g.av], .arr go 3 nn true (vs Adj.av W)], c⟩ Q := by
  (conv => whnf); repeat' (first | (refine callB (hasType2 (e := g.edges[i]) ht) (fun hc => ?_) (fun hc => ?_) <;> conv => whnf) | (refine callK_of (step2 (e := g.edges[i])) ?_; rintro _ rfl; rw [hs]; conv => whnf) | (refine need.mk ?_ ?_; (· (first | with_reducible rfl | omega | rfl | decide | trivial | exact ⟨rfl, rfl, by omega, by omega⟩ | exact ⟨by omega, by omega, roomy_of (by omega)⟩ | (refine ⟨rfl, rfl, ?_⟩; first | ((first | rw [lI] | rw [lS] | rw [lB] | rw [lV]); omega) | (simp; done) | (simp; omega)) | (refine ⟨rfl, ?_⟩; first | ((first | rw [lI] | rw [lS] | rw [lB] | rw [lV]); omega) | (simp; done) | (simp; omega)) | fail)); conv => whnf) | (refine pcase.mk (fun hc => ?_) (fun hc => ?_) <;> (try rw [List.length_nil] at hc) <;> first | (exfalso; omega) | (exact absurd rfl hc) | conv => whnf) | (apply wrapK_intro; (· exact wrap_i64 (by omega) (by omega)); conv => whnf) | (apply nthK_intro; (· (first | ((with_reducible first | refine nIN ?_ | refine nI ?_ | refine nSN ?_ | refine nS ?_ | refine nBN ?_ | refine nB ?_ | refine nYN ?_ | refine nY ?_ | refine nY0 ?_ | refine nVN ?_ | refine nV ?_); (first | omega | (simp; omega))) | rfl)); conv => whnf) | (apply getK_intro; (· rfl); conv => whnf) | (apply eqK_intro; (· (first | (with_reducible first | exact lI _ | exact lS _ | exact lB _ | exact uI | exact uS | exact uIS | exact uSS | exact rIN _ _ | exact rI _ _ | exact tIN | exact tI | exact tBN | exact tB | exact uB | exact rBN _ _ | exact lV _ | exact uV | exact uVS) | rfl)); conv => whnf) | ((first | apply apI | apply apS); (· first | rfl | (simp; done)); (· (first | omega | (simp; omega))); conv => whnf) | (refine fkI (fun hm => ?_) (fun _ v hm => ?_) <;> conv => whnf) | (apply msI; conv => whnf) | (refine bcase_intro (fun hc => ?_) (fun hc => ?_) <;> conv => whnf))
  exact hQ _

theorem refB1 {g : GG} {types : List (List UInt8)} {tn : Bool} (ht : types.length < 2^63) {id dir : Int} {i c go n : Nat} {nn : Bool} {W : List Adj} (hi : i < g.edges.length) (hl : g.edges.length ≤ 100) {Q : AExit → Env → Sto → Prop} {a : Adj}
    (hs : stepOf g.edges[i] id dir = some a) (hn : n = W.length) (hW : W.length ≤ i) (sW : Srt W)
    (hQ : ∀ c' go' n' nn' W', n' = W'.length → (¬ HT types g.edges[i] ∧ W' = W ∨ HT types g.edges[i] ∧ Srt W' ∧ W'.Perm (W ++ [a])) → Q .normal [(1, .int .i64 id), (2, .sl tn (vs .str types)), (3, .int .i64 dir), (4, .ref 0 0 0 0), (9, .own 1 go' 0 n'), (10, .int .i64 (i + 1))] ⟨[.arr 0 4 true true [g.av], .arr go' 3 nn' true (vs Adj.av W')], c'⟩) :
    vC (findFn tab) l12_1_b [(1, .int .i64 id), (2, .sl tn (vs .str types)), (3, .int .i64 dir), (4, .ref 0 0 0 0), (9, .own 1 go 0 n), (10, .int .i64 i)] ⟨[.arr 0 4 true true [g.av], .arr go 3 nn true (vs Adj.av W)], c⟩ Q := by
  (conv => whnf); repeat' (first | (refine callB (hasType2 (e := g.edges[i]) ht) (fun hc => ?_) (fun hc => ?_) <;> conv => whnf) | (refine callK_of (step2 (e := g.edges[i])) ?_; rintro _ rfl; rw [hs]; conv => whnf) | (refine apA (x := a) hn (by omega) ?_; conv => whnf) | (refine need.mk ?_ ?_; (· (first | with_reducible rfl | omega | rfl | decide | trivial | exact ⟨rfl, rfl, by omega, by omega⟩ | exact ⟨by omega, by omega, roomy_of (by omega)⟩ | (refine ⟨rfl, rfl, ?_⟩; first | ((first | rw [lI] | rw [lS] | rw [lB] | rw [lV]); omega) | (simp; done) | (simp; omega)) | (refine ⟨rfl, ?_⟩; first | ((first | rw [lI] | rw [lS] | rw [lB] | rw [lV]); omega) | (simp; done) | (simp; omega)) | fail)); conv => whnf) | (refine pcase.mk (fun hc => ?_) (fun hc => ?_) <;> (try rw [List.length_nil] at hc) <;> first | (exfalso; omega) | (exact absurd rfl hc) | conv => whnf) | (apply wrapK_intro; (· exact wrap_i64 (by omega) (by omega)); conv => whnf) | (apply nthK_intro; (· (first | ((with_reducible first | refine nIN ?_ | refine nI ?_ | refine nSN ?_ | refine nS ?_ | refine nBN ?_ | refine nB ?_ | refine nYN ?_ | refine nY ?_ | refine nY0 ?_ | refine nVN ?_ | refine nV ?_); (first | omega | (simp; omega))) | rfl)); conv => whnf) | (apply getK_intro; (· rfl); conv => whnf) | (apply eqK_intro; (· (first | (with_reducible first | exact lI _ | exact lS _ | exact lB _ | exact uI | exact uS | exact uIS | exact uSS | exact rIN _ _ | exact rI _ _ | exact tIN | exact tI | exact tBN | exact tB | exact uB | exact rBN _ _ | exact lV _ | exact uV | exact uVS) | rfl)); conv => whnf) | ((first | apply apI | apply apS); (· first | rfl | (simp; done)); (· (first | omega | (simp; omega))); conv => whnf) | (refine fkI (fun hm => ?_) (fun _ v hm => ?_) <;> conv => whnf) | (apply msI; conv => whnf) | (refine bcase_intro (fun hc => ?_) (fun hc => ?_) <;> conv => whnf))
  · refine sinkI (x := a) rfl (by rw [hn]) rfl (by omega) sW ?_
    intro t z y hz ht' hst
    (conv => whnf); repeat' (first | (apply nthK_intro; (· exact nA t (by omega) (by simp only [List.length_append, List.length_cons, List.length_take, List.length_drop]; omega)); conv => whnf) | (apply eqK_intro; (· exact tA (t) (by omega)); conv => whnf) | (refine need.mk ?_ ?_; (· (first | with_reducible rfl | omega | rfl | decide | trivial | exact ⟨rfl, rfl, by omega, by omega⟩ | exact ⟨by omega, by omega, roomy_of (by omega)⟩ | (refine ⟨rfl, rfl, ?_⟩; first | ((first | rw [lI] | rw [lS] | rw [lB] | rw [lV]); omega) | (simp; done) | (simp; omega)) | (refine ⟨rfl, ?_⟩; first | ((first | rw [lI] | rw [lS] | rw [lB] | rw [lV]); omega) | (simp; done) | (simp; omega)) | fail)); conv => whnf) | (refine pcase.mk (fun hc => ?_) (fun hc => ?_) <;> (try rw [List.length_nil] at hc) <;> first | (exfalso; omega) | (exact absurd rfl hc) | conv => whnf) | (apply wrapK_intro; (· exact wrap_i64 (by omega) (by omega)); conv => whnf) | (apply nthK_intro; (· (first | ((with_reducible first | refine nIN ?_ | refine nI ?_ | refine nSN ?_ | refine nS ?_ | refine nBN ?_ | refine nB ?_ | refine nYN ?_ | refine nY ?_ | refine nY0 ?_ | refine nVN ?_ | refine nV ?_); (first | omega | (simp; omega))) | rfl)); conv => whnf) | (apply getK_intro; (· rfl); conv => whnf) | (apply eqK_intro; (· (first | (with_reducible first | exact lI _ | exact lS _ | exact lB _ | exact uI | exact uS | exact uIS | exact uSS | exact rIN _ _ | exact rI _ _ | exact tIN | exact tI | exact tBN | exact tB | exact uB | exact rBN _ _ | exact lV _ | exact uV | exact uVS) | rfl)); conv => whnf) | ((first | apply apI | apply apS); (· first | rfl | (simp; done)); (· (first | omega | (simp; omega))); conv => whnf) | (refine fkI (fun hm => ?_) (fun _ v hm => ?_) <;> conv => whnf) | (apply msI; conv => whnf) | (refine bcase_intro (fun hc => ?_) (fun hc => ?_) <;> conv => whnf))
    refine hQ _ _ _ _ ((W.take t ++ y :: W.drop t).set t a) ?_ (Or.inr ⟨by assumption, ?_, ?_⟩)
    · simp only [List.length_set, List.length_append, List.length_cons, List.length_take, List.length_drop]; omega
    · rw [set_mid ht']; exact hst
    · rw [set_mid ht']
      refine List.perm_middle.trans ?_
      rw [List.take_append_drop]
      exact List.perm_append_comm (l₁ := [a]) (l₂ := W)
  · exact hQ _ _ _ _ W hn (Or.inl ⟨by assumption, rfl⟩)

theorem stepsR {g : GG} (hg : g.ok) (hE : g.edges.length ≤ 100) {types : List (List UInt8)} {tn : Bool} (ht : types.length < 2^63) {id dir : Int} :
    PureP (findFn tab) 12 [g.av, .int .i64 id, .sl tn (vs .str types), .int .i64 dir] (fun v => ∃ nn W, v = .sl nn (vs Adj.av W) ∧ W.Perm (outs types id dir g.edges) ∧ Srt W) := by
  refine pureP_of rfl rfl ?_
  (conv => whnf); repeat' (first | (refine need.mk ?_ ?_; (· (first | with_reducible rfl | omega | rfl | decide | trivial | exact ⟨rfl, rfl, by omega, by omega⟩ | exact ⟨by omega, by omega, roomy_of (by omega)⟩ | (refine ⟨rfl, rfl, ?_⟩; first | ((first | rw [lI] | rw [lS] | rw [lB] | rw [lV]); omega) | (simp; done) | (simp; omega)) | (refine ⟨rfl, ?_⟩; first | ((first | rw [lI] | rw [lS] | rw [lB] | rw [lV]); omega) | (simp; done) | (simp; omega)) | fail)); conv => whnf) | (refine pcase.mk (fun hc => ?_) (fun hc => ?_) <;> (try rw [List.length_nil] at hc) <;> first | (exfalso; omega) | (exact absurd rfl hc) | conv => whnf) | (apply wrapK_intro; (· exact wrap_i64 (by omega) (by omega)); conv => whnf) | (apply nthK_intro; (· (first | ((with_reducible first | refine nIN ?_ | refine nI ?_ | refine nSN ?_ | refine nS ?_ | refine nBN ?_ | refine nB ?_ | refine nYN ?_ | refine nY ?_ | refine nY0 ?_ | refine nVN ?_ | refine nV ?_); (first | omega | (simp; omega))) | rfl)); conv => whnf) | (apply getK_intro; (· rfl); conv => whnf) | (apply eqK_intro; (· (first | (with_reducible first | exact lI _ | exact lS _ | exact lB _ | exact uI | exact uS | exact uIS | exact uSS | exact rIN _ _ | exact rI _ _ | exact tIN | exact tI | exact tBN | exact tB | exact uB | exact rBN _ _ | exact lV _ | exact uV | exact uVS) | rfl)); conv => whnf) | ((first | apply apI | apply apS); (· first | rfl | (simp; done)); (· (first | omega | (simp; omega))); conv => whnf) | (refine fkI (fun hm => ?_) (fun _ v hm => ?_) <;> conv => whnf) | (apply msI; conv => whnf)  | (refine bcase_intro (fun hc => ?_) (fun hc => ?_) <;> conv => whnf))
  refine loop_inv (fun m env s => ∃ (i c go n : Nat) (nn : Bool) (W : List Adj), m = g.edges.length - i ∧ i ≤ g.edges.length ∧ n = W.length ∧ W.Perm (outs types id dir (g.edges.take i)) ∧ Srt W ∧ env = [(1, .int .i64 id), (2, .sl tn (vs .str types)), (3, .int .i64 dir), (4, .ref 0 0 0 0), (9, .own 1 go 0 n), (10, .int .i64 i)] ∧ s = ⟨[.arr 0 4 true true [g.av], .arr go 3 nn true (vs Adj.av W)], c⟩) ?_ _ _ _ ⟨0, _, _, _, _, [], rfl, by omega, rfl, by simp [outs], List.Pairwise.nil, rfl, rfl⟩
  rintro _ _ _ ⟨i, c, go, n, nn, W, rfl, hi, hn, hp, sW, rfl, rfl⟩
  refine ⟨rfl, ?_⟩
  have hWl : W.length ≤ i := by
    have := @outs_len types id dir (g.edges.take i)
    rw [← hp.length_eq] at this
    rw [List.length_take] at this; omega
  by_cases hlt : i < g.edges.length
  · have ho := @outs_take types id dir g.edges i hlt
    cases hs : stepOf g.edges[i] id dir with
    | none =>
      refine refB0 ht hlt hE hs ?_
      intro c'
      have e : outOf types id dir g.edges[i] = none := by unfold outOf; rw [hs]; split <;> rfl
      rw [e] at ho
      exact again.mk ⟨_, by omega, i + 1, _, _, _, _, W, rfl, by omega, hn, by rw [ho]; simpa using hp, sW, rfl, rfl⟩
    | some a =>
      refine refB1 ht hlt hE hs hn hWl sW ?_
      intro c' go' n' nn' W' h1 h2
      rcases h2 with ⟨h2, rfl⟩ | ⟨h2, h3, h4⟩
      · have e : outOf types id dir g.edges[i] = none := by unfold outOf; rw [if_neg h2]
        rw [e] at ho
        exact again.mk ⟨_, by omega, i + 1, _, _, _, _, W', rfl, by omega, h1, by rw [ho]; simpa using hp, sW, rfl, rfl⟩
      · have e : outOf types id dir g.edges[i] = some a := by unfold outOf; rw [if_pos h2, hs]
        rw [e] at ho
        exact again.mk ⟨_, by omega, i + 1, _, _, _, _, W', rfl, by omega, h1, by rw [ho]; exact h4.trans (List.Perm.append_right _ hp), h3, rfl, rfl⟩
  · rw [List.take_of_length_le (by omega)] at hp
    (conv => whnf); repeat' (first | (refine need.mk ?_ ?_; (· (first | with_reducible rfl | omega | rfl | decide | trivial | exact ⟨rfl, rfl, by omega, by omega⟩ | exact ⟨by omega, by omega, roomy_of (by omega)⟩ | (refine ⟨rfl, rfl, ?_⟩; first | ((first | rw [lI] | rw [lS] | rw [lB] | rw [lV]); omega) | (simp; done) | (simp; omega)) | (refine ⟨rfl, ?_⟩; first | ((first | rw [lI] | rw [lS] | rw [lB] | rw [lV]); omega) | (simp; done) | (simp; omega)) | fail)); conv => whnf) | (refine pcase.mk (fun hc => ?_) (fun hc => ?_) <;> (try rw [List.length_nil] at hc) <;> first | (exfalso; omega) | (exact absurd rfl hc) | conv => whnf) | (apply wrapK_intro; (· exact wrap_i64 (by omega) (by omega)); conv => whnf) | (apply nthK_intro; (· (first | ((with_reducible first | refine nIN ?_ | refine nI ?_ | refine nSN ?_ | refine nS ?_ | refine nBN ?_ | refine nB ?_ | refine nYN ?_ | refine nY ?_ | refine nY0 ?_ | refine nVN ?_ | refine nV ?_); (first | omega | (simp; omega))) | rfl)); conv => whnf) | (apply getK_intro; (· rfl); conv => whnf) | (apply eqK_intro; (· (first | (with_reducible first | exact lI _ | exact lS _ | exact lB _ | exact uI | exact uS | exact uIS | exact uSS | exact rIN _ _ | exact rI _ _ | exact tIN | exact tI | exact tBN | exact tB | exact uB | exact rBN _ _ | exact lV _ | exact uV | exact uVS) | rfl)); conv => whnf) | ((first | apply apI | apply apS); (· first | rfl | (simp; done)); (· (first | omega | (simp; omega))); conv => whnf) | (refine fkI (fun hm => ?_) (fun _ v hm => ?_) <;> conv => whnf) | (apply msI; conv => whnf)  | (refine bcase_intro (fun hc => ?_) (fun hc => ?_) <;> conv => whnf))
    subst hn
    exact ⟨nn, W, by rw [uV], hp, sW⟩

/-- one sorted list -/
theorem srt_unique : ∀ {W1 W2 : List Adj}, W1.Perm W2 → Srt W1 → Srt W2 → (∀ x ∈ W1, ∀ y ∈ W1, le x y → le y x → x = y) → W1 = W2
  | [], W2, hp, _, _, _ => (List.nil_perm.1 hp).symm
  | a :: l, [], hp, _, _, _ => absurd (List.perm_nil.1 hp) (by simp)
  | a :: l, b :: l2, hp, h1, h2, h => by
    have h1' := List.pairwise_cons.1 h1
    have h2' := List.pairwise_cons.1 h2
    have hab : a = b := by
      have ha : a ∈ b :: l2 := hp.mem_iff.1 (List.mem_cons_self ..)
      have hb : b ∈ a :: l := hp.mem_iff.2 (List.mem_cons_self ..)
      rcases List.mem_cons.1 ha with e | ha
      · exact e
      rcases List.mem_cons.1 hb with e | hb'
      · exact e.symm
      exact h a (List.mem_cons_self ..) b hb (h1'.1 b hb') (h2'.1 a ha)
    subst hab
    rw [srt_unique (List.Perm.cons_inv hp) h1'.2 h2'.2 fun x hx y hy => h x (List.mem_cons_of_mem _ hx) y (List.mem_cons_of_mem _ hy)]

theorem stepOf_fr {e : GE} {id dir : Int} {a : Adj} (h : stepOf e id dir = some a) : a.fr = id := by
  unfold stepOf at h
  split at h
  · cases h; rfl
  · split at h
    · cases h; rfl
    · cases h

theorem outs_fr {types : List (List UInt8)} {id dir : Int} {E : List GE} : ∀ a ∈ outs types id dir E, a.fr = id := by
  intro a ha
  unfold outs at ha
  obtain ⟨e, _, h⟩ := List.mem_filterMap.1 ha
  unfold outOf at h
  split at h
  · exact stepOf_fr h
  · cases h

theorem steps_eq {types : List (List UInt8)} {id dir : Int} {E : List GE} {W1 W2 : List Adj} (h1 : W1.Perm (outs types id dir E)) (h2 : W2.Perm (outs types id dir E)) (s1 : Srt W1) (s2 : Srt W2) : W1 = W2 := by
  refine srt_unique (h1.trans h2.symm) s1 s2 fun x hx y hy h3 h4 => ?_
  have e1 := outs_fr x (h1.mem_iff.1 hx)
  have e2 := outs_fr y (h1.mem_iff.1 hy)
  unfold le lt at h3 h4
  cases x; cases y
  simp only at *
  have : ∀ {a b c a' b' c' : Int}, a = a' → b = b' → c = c' → Adj.mk a b c = Adj.mk a' b' c' := by rintro _ _ _ _ _ _ rfl rfl rfl; rfl
  exact this (by omega) (by omega) (by omega)

end AI
end Go.Proofs.Ytnakgkibjlcjlaa
