/- The stable sort of entries: the whole. -/
import Derived.Test.YtnakgkibjlcjlaaGrS5
set_option linter.unusedVariables false
namespace Go.Proofs.Ytnakgkibjlcjlaa
namespace AI

/-- sorted blocks of a size; the last one may be shorter -/
inductive Ch (S : Nat) : List Adj → Prop
  | last {l : List Adj} (h : l.length ≤ S) (s : Srt l) : Ch S l
  | cons {b l : List Adj} (h : b.length = S) (s : Srt b) (t : Ch S l) : Ch S (b ++ l)
/-- sorted full blocks -/
inductive Full (S : Nat) : List Adj → Prop
  | nil : Full S []
  | cons {b l : List Adj} (h : b.length = S) (s : Srt b) (t : Full S l) : Full S (b ++ l)

theorem Full.app {S : Nat} {W R : List Adj} (h : Full S W) (hr : Ch S R) : Ch S (W ++ R) := by
  induction h with
  | nil => exact hr
  | cons h s t ih => rw [List.append_assoc]; exact .cons h s ih
theorem Full.snoc {S : Nat} {W b : List Adj} (h : Full S W) (hb : b.length = S) (sb : Srt b) : Full S (W ++ b) := by
  induction h with
  | nil => have := Full.cons hb sb .nil; rw [List.append_nil] at this; exact this
  | cons h s t ih => rw [List.append_assoc]; exact .cons h s ih
theorem ch_nil (S : Nat) : Ch S [] := .last (Nat.zero_le _) List.Pairwise.nil
theorem ch_small {S : Nat} {R : List Adj} (h : Ch S R) (hl : R.length ≤ S) : Srt R := by
  cases h with
  | last h s => exact s
  | @cons b l h s t =>
    have : l = [] := List.length_eq_zero_iff.1 (by rw [List.length_append] at hl; omega)
    rw [this, List.append_nil]; exact s
theorem ch_one {S : Nat} {R : List Adj} (h : Ch S R) (hl : S < R.length) : ∃ b R', R = b ++ R' ∧ b.length = S ∧ Srt b ∧ Ch S R' := by
  cases h with
  | last h s => omega
  | @cons b l h s t => exact ⟨b, l, rfl, h, s, t⟩
theorem ch_two {S : Nat} {R : List Adj} (h0 : 0 < S) (h : Ch S R) (hl : 2 * S ≤ R.length) : ∃ b1 b2 R', R = b1 ++ (b2 ++ R') ∧ b1.length = S ∧ b2.length = S ∧ Srt b1 ∧ Srt b2 ∧ Ch S R' := by
  obtain ⟨b1, R1, rfl, h1, s1, t1⟩ := ch_one h (by omega)
  rw [List.length_append] at hl
  by_cases hs : S < R1.length
  · obtain ⟨b2, R2, rfl, h2, s2, t2⟩ := ch_one t1 hs
    exact ⟨b1, b2, R2, rfl, h1, h2, s1, s2, t2⟩
  · exact ⟨b1, R1, [], by rw [List.append_nil], h1, by omega, s1, ch_small t1 (by omega), ch_nil S⟩

/-- one round of merging -/
theorem mergeI {ob0 : Obj} {g len c S : Nat} {nn cl : Bool} {L : List Adj} {a b : Int} {Q : AExit → Env → Sto → Prop} (hl : len = L.length) (hs : len < 2^60) (h0 : 0 < S) (hS : S < len) (hc : Ch S L) (ha : a = 0) (hb : b = 2 * S)
    (hQ : ∀ (c : Nat) (a b : Int) (W R : List Adj), Full (2 * S) W → Ch S R → R.length < 2 * S → (W ++ R).Perm L → a = W.length → Q (.exit 4) [(0, .own 1 g 0 len), (1, .int .i64 len), (2, .fn 37 []), (6, .int .i64 S), (7, .int .i64 a), (8, .int .i64 b), (35, .bool false)] ⟨[ob0, .arr g 3 nn cl (vs Adj.av (W ++ R))], c⟩) :
    Run (findFn tab) (.loop l65_1_h l65_1_b) [(0, .own 1 g 0 len), (1, .int .i64 len), (2, .fn 37 []), (6, .int .i64 S), (7, .int .i64 a), (8, .int .i64 b)] ⟨[ob0, .arr g 3 nn cl (vs Adj.av L)], c⟩ Q := by
  refine loop_inv (fun m env s => ∃ (c : Nat) (a b : Int) (W R L' : List Adj), m = R.length ∧ L' = W ++ R ∧ Full (2 * S) W ∧ Ch S R ∧ L'.Perm L ∧ a = W.length ∧ b = W.length + 2 * S ∧ env = [(0, .own 1 g 0 len), (1, .int .i64 len), (2, .fn 37 []), (6, .int .i64 S), (7, .int .i64 a), (8, .int .i64 b)] ∧ s = ⟨[ob0, .arr g 3 nn cl (vs Adj.av L')], c⟩) ?_ _ _ _ ⟨c, _, _, [], L, L, rfl, rfl, .nil, hc, List.Perm.refl _, by rw [ha]; rfl, by rw [hb]; simp, rfl, rfl⟩
  clear ha hb hc
  rintro _ _ _ ⟨c, a, b, W, R, L', rfl, hL', hW, hR, hp, ha, hb, rfl, rfl⟩
  refine ⟨rfl, ?_⟩
  have hll : len = W.length + R.length := by rw [hl, ← hp.length_eq, hL', List.length_append]
  (conv => whnf); repeat' (first | (refine need.mk ?_ ?_; (· (first | with_reducible rfl | omega | rfl | decide | trivial | exact ⟨rfl, rfl, by omega, by omega⟩ | exact ⟨by omega, by omega, roomy_of (by omega)⟩ | (refine ⟨rfl, rfl, ?_⟩; first | ((first | rw [lI] | rw [lS] | rw [lB] | rw [lV]); omega) | (simp; done) | (simp; omega)) | (refine ⟨rfl, ?_⟩; first | ((first | rw [lI] | rw [lS] | rw [lB] | rw [lV]); omega) | (simp; done) | (simp; omega)) | fail)); conv => whnf) | (refine pcase.mk (fun hc => ?_) (fun hc => ?_) <;> (try rw [List.length_nil] at hc) <;> first | (exfalso; omega) | (exact absurd rfl hc) | conv => whnf) | (apply wrapK_intro; (· exact wrap_i64 (by omega) (by omega)); conv => whnf) | (apply nthK_intro; (· (first | ((with_reducible first | refine nIN ?_ | refine nI ?_ | refine nSN ?_ | refine nS ?_ | refine nBN ?_ | refine nB ?_ | refine nYN ?_ | refine nY ?_ | refine nY0 ?_ | refine nVN ?_ | refine nV ?_); (first | omega | (simp; omega))) | rfl)); conv => whnf) | (apply getK_intro; (· rfl); conv => whnf) | (apply eqK_intro; (· (first | (with_reducible first | exact lI _ | exact lS _ | exact lB _ | exact uI | exact uS | exact uIS | exact uSS | exact rIN _ _ | exact rI _ _ | exact tIN | exact tI | exact tBN | exact tB | exact uB | exact rBN _ _ | exact lV _ | exact uV | exact uVS) | rfl)); conv => whnf) | ((first | apply apI | apply apS); (· first | rfl | (simp; done)); (· (first | omega | (simp; omega))); conv => whnf) | (refine fkI (fun hm => ?_) (fun _ v hm => ?_) <;> conv => whnf) | (apply msI; conv => whnf)  | (refine bcase_intro (fun hc => ?_) (fun hc => ?_) <;> conv => whnf))
  · obtain ⟨b1, b2, R', rfl, e1, e2, s1, s2, hR'⟩ := ch_two h0 hR (by omega)
    simp only [List.length_append] at hll
    subst hL'
    refine (symM (by omega) (b1.length + b2.length + 1) W b1 b2 R' c _ _ _ (by omega) (by simp only [List.length_append]; omega) ha (by omega) (by omega) (by omega) (by omega) s1 s2).mono ?_
    rintro _ _ ⟨c', B, rfl, rfl, h1, h2⟩
    conv => whnf
    apply getK_intro rfl
    (conv => whnf); repeat' (first | (refine need.mk ?_ ?_; (· (first | with_reducible rfl | omega | rfl | decide | trivial | exact ⟨rfl, rfl, by omega, by omega⟩ | exact ⟨by omega, by omega, roomy_of (by omega)⟩ | (refine ⟨rfl, rfl, ?_⟩; first | ((first | rw [lI] | rw [lS] | rw [lB] | rw [lV]); omega) | (simp; done) | (simp; omega)) | (refine ⟨rfl, ?_⟩; first | ((first | rw [lI] | rw [lS] | rw [lB] | rw [lV]); omega) | (simp; done) | (simp; omega)) | fail)); conv => whnf) | (refine pcase.mk (fun hc => ?_) (fun hc => ?_) <;> (try rw [List.length_nil] at hc) <;> first | (exfalso; omega) | (exact absurd rfl hc) | conv => whnf) | (apply wrapK_intro; (· exact wrap_i64 (by omega) (by omega)); conv => whnf) | (apply nthK_intro; (· (first | ((with_reducible first | refine nIN ?_ | refine nI ?_ | refine nSN ?_ | refine nS ?_ | refine nBN ?_ | refine nB ?_ | refine nYN ?_ | refine nY ?_ | refine nY0 ?_ | refine nVN ?_ | refine nV ?_); (first | omega | (simp; omega))) | rfl)); conv => whnf) | (apply getK_intro; (· rfl); conv => whnf) | (apply eqK_intro; (· (first | (with_reducible first | exact lI _ | exact lS _ | exact lB _ | exact uI | exact uS | exact uIS | exact uSS | exact rIN _ _ | exact rI _ _ | exact tIN | exact tI | exact tBN | exact tB | exact uB | exact rBN _ _ | exact lV _ | exact uV | exact uVS) | rfl)); conv => whnf) | ((first | apply apI | apply apS); (· first | rfl | (simp; done)); (· (first | omega | (simp; omega))); conv => whnf) | (refine fkI (fun hm => ?_) (fun _ v hm => ?_) <;> conv => whnf) | (apply msI; conv => whnf)  | (refine bcase_intro (fun hc => ?_) (fun hc => ?_) <;> conv => whnf))
    have hB : B.length = 2 * S := by rw [h1.length_eq, List.length_append]; omega
    refine again.mk ⟨_, by simp only [List.length_append]; omega, c', _, _, W ++ B, R', _, rfl, by simp only [List.append_assoc], hW.snoc hB h2, hR', ?_, by simp only [List.length_append]; omega, by simp only [List.length_append]; omega, rfl, rfl⟩
    refine List.Perm.trans ?_ hp
    exact List.Perm.append_left _ (by rw [← List.append_assoc b1]; exact List.Perm.append_right _ h1)
  · subst hL'
    exact hQ c a b W R hW hR (by omega) hp ha

/-- all rounds -/
theorem mergeO {ob0 : Obj} {g len c S : Nat} {nn cl : Bool} {L L0 : List Adj} {z : Int} {K : AOut → Sto → Prop} (hl : len = L.length) (hs : len < 2^60) (h0 : 0 < S) (hc : Ch S L) (hz : z = S) (hz2 : S < 2^62) (hp0 : L.Perm L0)
    (hK : ∀ c' W, W.Perm L0 → Srt W → K (.ok (.tup [])) ⟨[ob0, .arr g 3 nn cl (vs Adj.av W)], c'⟩) :
    Run (findFn tab) (.loop l65_2_h l65_2_b) [(0, .own 1 g 0 len), (1, .int .i64 len), (2, .fn 37 []), (6, .int .i64 z)] ⟨[ob0, .arr g 3 nn cl (vs Adj.av L)], c⟩ (vBlk 2 (vRes a65 K)) := by
  refine loop_inv (fun m env s => ∃ (c S : Nat) (z : Int) (L : List Adj), m = len - S ∧ z = S ∧ 0 < S ∧ S < 2^62 ∧ len = L.length ∧ Ch S L ∧ L.Perm L0 ∧ env = [(0, .own 1 g 0 len), (1, .int .i64 len), (2, .fn 37 []), (6, .int .i64 z)] ∧ s = ⟨[ob0, .arr g 3 nn cl (vs Adj.av L)], c⟩) ?_ _ _ _ ⟨c, S, _, L, rfl, hz, h0, hz2, hl, hc, hp0, rfl, rfl⟩
  clear hz hz2 hl hc hp0 h0
  rintro _ _ _ ⟨c, S, z, L, rfl, rfl, h0, hz2, hl, hCh, hp0, rfl, rfl⟩
  refine ⟨rfl, ?_⟩
  (conv => whnf); repeat' (first | (refine need.mk ?_ ?_; (· (first | with_reducible rfl | omega | rfl | decide | trivial | exact ⟨rfl, rfl, by omega, by omega⟩ | exact ⟨by omega, by omega, roomy_of (by omega)⟩ | (refine ⟨rfl, rfl, ?_⟩; first | ((first | rw [lI] | rw [lS] | rw [lB] | rw [lV]); omega) | (simp; done) | (simp; omega)) | (refine ⟨rfl, ?_⟩; first | ((first | rw [lI] | rw [lS] | rw [lB] | rw [lV]); omega) | (simp; done) | (simp; omega)) | fail)); conv => whnf) | (refine pcase.mk (fun hc => ?_) (fun hc => ?_) <;> (try rw [List.length_nil] at hc) <;> first | (exfalso; omega) | (exact absurd rfl hc) | conv => whnf) | (apply wrapK_intro; (· exact wrap_i64 (by omega) (by omega)); conv => whnf) | (apply nthK_intro; (· (first | ((with_reducible first | refine nIN ?_ | refine nI ?_ | refine nSN ?_ | refine nS ?_ | refine nBN ?_ | refine nB ?_ | refine nYN ?_ | refine nY ?_ | refine nY0 ?_ | refine nVN ?_ | refine nV ?_); (first | omega | (simp; omega))) | rfl)); conv => whnf) | (apply getK_intro; (· rfl); conv => whnf) | (apply eqK_intro; (· (first | (with_reducible first | exact lI _ | exact lS _ | exact lB _ | exact uI | exact uS | exact uIS | exact uSS | exact rIN _ _ | exact rI _ _ | exact tIN | exact tI | exact tBN | exact tB | exact uB | exact rBN _ _ | exact lV _ | exact uV | exact uVS) | rfl)); conv => whnf) | ((first | apply apI | apply apS); (· first | rfl | (simp; done)); (· (first | omega | (simp; omega))); conv => whnf) | (refine fkI (fun hm => ?_) (fun _ v hm => ?_) <;> conv => whnf) | (apply msI; conv => whnf)  | (refine bcase_intro (fun hc => ?_) (fun hc => ?_) <;> conv => whnf))
  · refine mergeI hl hs h0 (by omega) hCh rfl rfl ?_
    intro c a b W R hW hR hlt hp ha
    have hll : len = W.length + R.length := by rw [hl, ← hp.length_eq, List.length_append]
    have hwf : ∀ (B : List Adj), B.Perm R → Srt B → Ch (2 * S) (W ++ B) ∧ (W ++ B).Perm L0 ∧ len = (W ++ B).length := by
      intro B h1 h2
      have hbl := h1.length_eq
      exact ⟨hW.app (.last (by omega) h2), (List.Perm.append_left _ h1).trans (hp.trans hp0), by rw [List.length_append]; omega⟩
    (conv => whnf); repeat' (first | (refine need.mk ?_ ?_; (· (first | with_reducible rfl | omega | rfl | decide | trivial | exact ⟨rfl, rfl, by omega, by omega⟩ | exact ⟨by omega, by omega, roomy_of (by omega)⟩ | (refine ⟨rfl, rfl, ?_⟩; first | ((first | rw [lI] | rw [lS] | rw [lB] | rw [lV]); omega) | (simp; done) | (simp; omega)) | (refine ⟨rfl, ?_⟩; first | ((first | rw [lI] | rw [lS] | rw [lB] | rw [lV]); omega) | (simp; done) | (simp; omega)) | fail)); conv => whnf) | (refine pcase.mk (fun hc => ?_) (fun hc => ?_) <;> (try rw [List.length_nil] at hc) <;> first | (exfalso; omega) | (exact absurd rfl hc) | conv => whnf) | (apply wrapK_intro; (· exact wrap_i64 (by omega) (by omega)); conv => whnf) | (apply nthK_intro; (· (first | ((with_reducible first | refine nIN ?_ | refine nI ?_ | refine nSN ?_ | refine nS ?_ | refine nBN ?_ | refine nB ?_ | refine nYN ?_ | refine nY ?_ | refine nY0 ?_ | refine nVN ?_ | refine nV ?_); (first | omega | (simp; omega))) | rfl)); conv => whnf) | (apply getK_intro; (· rfl); conv => whnf) | (apply eqK_intro; (· (first | (with_reducible first | exact lI _ | exact lS _ | exact lB _ | exact uI | exact uS | exact uIS | exact uSS | exact rIN _ _ | exact rI _ _ | exact tIN | exact tI | exact tBN | exact tB | exact uB | exact rBN _ _ | exact lV _ | exact uV | exact uVS) | rfl)); conv => whnf) | ((first | apply apI | apply apS); (· first | rfl | (simp; done)); (· (first | omega | (simp; omega))); conv => whnf) | (refine fkI (fun hm => ?_) (fun _ v hm => ?_) <;> conv => whnf) | (apply msI; conv => whnf)  | (refine bcase_intro (fun hc => ?_) (fun hc => ?_) <;> conv => whnf))
    · obtain ⟨b1, R', rfl, e1, s1, hR'⟩ := ch_one hR (by omega)
      simp only [List.length_append] at hll hlt
      refine (symM (by omega) (b1.length + R'.length + 1) W b1 R' [] c _ _ _ (by omega) (by simp only [List.length_append, List.length_nil]; omega) ha (by omega) (by omega) (by omega) (by omega) s1 (ch_small hR' (by omega))).mono' (by rw [List.append_nil]) ?_
      rintro _ _ ⟨c', B, rfl, rfl, h1, h2⟩
      conv => whnf
      apply getK_intro rfl
      (conv => whnf); repeat' (first | (refine need.mk ?_ ?_; (· (first | with_reducible rfl | omega | rfl | decide | trivial | exact ⟨rfl, rfl, by omega, by omega⟩ | exact ⟨by omega, by omega, roomy_of (by omega)⟩ | (refine ⟨rfl, rfl, ?_⟩; first | ((first | rw [lI] | rw [lS] | rw [lB] | rw [lV]); omega) | (simp; done) | (simp; omega)) | (refine ⟨rfl, ?_⟩; first | ((first | rw [lI] | rw [lS] | rw [lB] | rw [lV]); omega) | (simp; done) | (simp; omega)) | fail)); conv => whnf) | (refine pcase.mk (fun hc => ?_) (fun hc => ?_) <;> (try rw [List.length_nil] at hc) <;> first | (exfalso; omega) | (exact absurd rfl hc) | conv => whnf) | (apply wrapK_intro; (· exact wrap_i64 (by omega) (by omega)); conv => whnf) | (apply nthK_intro; (· (first | ((with_reducible first | refine nIN ?_ | refine nI ?_ | refine nSN ?_ | refine nS ?_ | refine nBN ?_ | refine nB ?_ | refine nYN ?_ | refine nY ?_ | refine nY0 ?_ | refine nVN ?_ | refine nV ?_); (first | omega | (simp; omega))) | rfl)); conv => whnf) | (apply getK_intro; (· rfl); conv => whnf) | (apply eqK_intro; (· (first | (with_reducible first | exact lI _ | exact lS _ | exact lB _ | exact uI | exact uS | exact uIS | exact uSS | exact rIN _ _ | exact rI _ _ | exact tIN | exact tI | exact tBN | exact tB | exact uB | exact rBN _ _ | exact lV _ | exact uV | exact uVS) | rfl)); conv => whnf) | ((first | apply apI | apply apS); (· first | rfl | (simp; done)); (· (first | omega | (simp; omega))); conv => whnf) | (refine fkI (fun hm => ?_) (fun _ v hm => ?_) <;> conv => whnf) | (apply msI; conv => whnf)  | (refine bcase_intro (fun hc => ?_) (fun hc => ?_) <;> conv => whnf))
      obtain ⟨w1, w2, w3⟩ := hwf B h1 h2
      exact again.mk ⟨_, by omega, _, 2 * S, _, W ++ B, rfl, by omega, by omega, by omega, w3, w1, w2, rfl, by rw [List.append_nil]; rfl⟩
    · obtain ⟨w1, w2, w3⟩ := hwf R (List.Perm.refl _) (ch_small hR (by omega))
      exact again.mk ⟨_, by omega, _, 2 * S, _, W ++ R, rfl, by omega, by omega, by omega, w3, w1, w2, rfl, rfl⟩
  · exact hK _ _ hp0 (ch_small hCh (by omega))

theorem stableQ {ob0 : Obj} {g len c : Nat} {nn cl : Bool} {L : List Adj} (hl : len = L.length) (hs : len < 2^60) :
    Calls1 (findFn tab) 65 [.own 1 g 0 len, .int .i64 len, .fn 37 []] ⟨[ob0, .arr g 3 nn cl (vs Adj.av L)], c⟩ fun out s' => ∃ c' W, out = .ok (.tup []) ∧ s' = ⟨[ob0, .arr g 3 nn cl (vs Adj.av W)], c'⟩ ∧ W.Perm L ∧ Srt W := by
  refine calls1_of rfl rfl ?_
  (conv => whnf); repeat' (first | (refine need.mk ?_ ?_; (· (first | with_reducible rfl | omega | rfl | decide | trivial | exact ⟨rfl, rfl, by omega, by omega⟩ | exact ⟨by omega, by omega, roomy_of (by omega)⟩ | (refine ⟨rfl, rfl, ?_⟩; first | ((first | rw [lI] | rw [lS] | rw [lB] | rw [lV]); omega) | (simp; done) | (simp; omega)) | (refine ⟨rfl, ?_⟩; first | ((first | rw [lI] | rw [lS] | rw [lB] | rw [lV]); omega) | (simp; done) | (simp; omega)) | fail)); conv => whnf) | (refine pcase.mk (fun hc => ?_) (fun hc => ?_) <;> (try rw [List.length_nil] at hc) <;> first | (exfalso; omega) | (exact absurd rfl hc) | conv => whnf) | (apply wrapK_intro; (· exact wrap_i64 (by omega) (by omega)); conv => whnf) | (apply nthK_intro; (· (first | ((with_reducible first | refine nIN ?_ | refine nI ?_ | refine nSN ?_ | refine nS ?_ | refine nBN ?_ | refine nB ?_ | refine nYN ?_ | refine nY ?_ | refine nY0 ?_ | refine nVN ?_ | refine nV ?_); (first | omega | (simp; omega))) | rfl)); conv => whnf) | (apply getK_intro; (· rfl); conv => whnf) | (apply eqK_intro; (· (first | (with_reducible first | exact lI _ | exact lS _ | exact lB _ | exact uI | exact uS | exact uIS | exact uSS | exact rIN _ _ | exact rI _ _ | exact tIN | exact tI | exact tBN | exact tB | exact uB | exact rBN _ _ | exact lV _ | exact uV | exact uVS) | rfl)); conv => whnf) | ((first | apply apI | apply apS); (· first | rfl | (simp; done)); (· (first | omega | (simp; omega))); conv => whnf) | (refine fkI (fun hm => ?_) (fun _ v hm => ?_) <;> conv => whnf) | (apply msI; conv => whnf)  | (refine bcase_intro (fun hc => ?_) (fun hc => ?_) <;> conv => whnf))
  refine loop_inv (fun m env s => ∃ (c : Nat) (a b : Int) (W R L' : List Adj), m = R.length ∧ L' = W ++ R ∧ Full 20 W ∧ L'.Perm L ∧ a = W.length ∧ b = W.length + 20 ∧ env = [(0, .own 1 g 0 len), (1, .int .i64 len), (2, .fn 37 []), (6, .int .i64 20), (7, .int .i64 a), (8, .int .i64 b)] ∧ s = ⟨[ob0, .arr g 3 nn cl (vs Adj.av L')], c⟩) ?_ _ _ _ ⟨c, _, _, [], L, L, rfl, rfl, .nil, List.Perm.refl _, by simp, by simp, rfl, rfl⟩
  rintro _ _ _ ⟨c, a, b, W, R, L', rfl, hL', hW, hp, ha, hb, rfl, rfl⟩
  refine ⟨rfl, ?_⟩
  have hll : len = W.length + R.length := by rw [hl, ← hp.length_eq, hL', List.length_append]
  (conv => whnf); repeat' (first | (refine need.mk ?_ ?_; (· (first | with_reducible rfl | omega | rfl | decide | trivial | exact ⟨rfl, rfl, by omega, by omega⟩ | exact ⟨by omega, by omega, roomy_of (by omega)⟩ | (refine ⟨rfl, rfl, ?_⟩; first | ((first | rw [lI] | rw [lS] | rw [lB] | rw [lV]); omega) | (simp; done) | (simp; omega)) | (refine ⟨rfl, ?_⟩; first | ((first | rw [lI] | rw [lS] | rw [lB] | rw [lV]); omega) | (simp; done) | (simp; omega)) | fail)); conv => whnf) | (refine pcase.mk (fun hc => ?_) (fun hc => ?_) <;> (try rw [List.length_nil] at hc) <;> first | (exfalso; omega) | (exact absurd rfl hc) | conv => whnf) | (apply wrapK_intro; (· exact wrap_i64 (by omega) (by omega)); conv => whnf) | (apply nthK_intro; (· (first | ((with_reducible first | refine nIN ?_ | refine nI ?_ | refine nSN ?_ | refine nS ?_ | refine nBN ?_ | refine nB ?_ | refine nYN ?_ | refine nY ?_ | refine nY0 ?_ | refine nVN ?_ | refine nV ?_); (first | omega | (simp; omega))) | rfl)); conv => whnf) | (apply getK_intro; (· rfl); conv => whnf) | (apply eqK_intro; (· (first | (with_reducible first | exact lI _ | exact lS _ | exact lB _ | exact uI | exact uS | exact uIS | exact uSS | exact rIN _ _ | exact rI _ _ | exact tIN | exact tI | exact tBN | exact tB | exact uB | exact rBN _ _ | exact lV _ | exact uV | exact uVS) | rfl)); conv => whnf) | ((first | apply apI | apply apS); (· first | rfl | (simp; done)); (· (first | omega | (simp; omega))); conv => whnf) | (refine fkI (fun hm => ?_) (fun _ v hm => ?_) <;> conv => whnf) | (apply msI; conv => whnf)  | (refine bcase_intro (fun hc => ?_) (fun hc => ?_) <;> conv => whnf))
  · obtain ⟨B, R', rfl, e1⟩ : ∃ B R', R = B ++ R' ∧ B.length = 20 := ⟨R.take 20, R.drop 20, (List.take_append_drop 20 R).symm, by rw [List.length_take]; omega⟩
    refine (insQ (A := W) (X := B) (Z := R') hL' (by rw [hl, hp.length_eq]) (by omega) ha (by omega)).mono ?_
    rintro _ _ ⟨c', B', rfl, rfl, h1, h2⟩
    (conv => whnf); repeat' (first | (refine need.mk ?_ ?_; (· (first | with_reducible rfl | omega | rfl | decide | trivial | exact ⟨rfl, rfl, by omega, by omega⟩ | exact ⟨by omega, by omega, roomy_of (by omega)⟩ | (refine ⟨rfl, rfl, ?_⟩; first | ((first | rw [lI] | rw [lS] | rw [lB] | rw [lV]); omega) | (simp; done) | (simp; omega)) | (refine ⟨rfl, ?_⟩; first | ((first | rw [lI] | rw [lS] | rw [lB] | rw [lV]); omega) | (simp; done) | (simp; omega)) | fail)); conv => whnf) | (refine pcase.mk (fun hc => ?_) (fun hc => ?_) <;> (try rw [List.length_nil] at hc) <;> first | (exfalso; omega) | (exact absurd rfl hc) | conv => whnf) | (apply wrapK_intro; (· exact wrap_i64 (by omega) (by omega)); conv => whnf) | (apply nthK_intro; (· (first | ((with_reducible first | refine nIN ?_ | refine nI ?_ | refine nSN ?_ | refine nS ?_ | refine nBN ?_ | refine nB ?_ | refine nYN ?_ | refine nY ?_ | refine nY0 ?_ | refine nVN ?_ | refine nV ?_); (first | omega | (simp; omega))) | rfl)); conv => whnf) | (apply getK_intro; (· rfl); conv => whnf) | (apply eqK_intro; (· (first | (with_reducible first | exact lI _ | exact lS _ | exact lB _ | exact uI | exact uS | exact uIS | exact uSS | exact rIN _ _ | exact rI _ _ | exact tIN | exact tI | exact tBN | exact tB | exact uB | exact rBN _ _ | exact lV _ | exact uV | exact uVS) | rfl)); conv => whnf) | ((first | apply apI | apply apS); (· first | rfl | (simp; done)); (· (first | omega | (simp; omega))); conv => whnf) | (refine fkI (fun hm => ?_) (fun _ v hm => ?_) <;> conv => whnf) | (apply msI; conv => whnf)  | (refine bcase_intro (fun hc => ?_) (fun hc => ?_) <;> conv => whnf))
    have hb' := h1.length_eq
    refine again.mk ⟨_, by simp only [List.length_append]; omega, c', _, _, W ++ B', R', _, rfl, by simp only [List.append_assoc], hW.snoc (by omega) h2, ?_, by simp only [List.length_append]; omega, by simp only [List.length_append]; omega, rfl, rfl⟩
    refine List.Perm.trans ?_ hp
    rw [hL']
    exact List.Perm.append_left _ (List.Perm.append_right _ h1)
  · refine (insQ (A := W) (X := R) (Z := []) (by rw [hL', List.append_nil]) (by rw [hl, hp.length_eq]) (by omega) ha (by omega)).mono ?_
    rintro _ _ ⟨c', B', rfl, rfl, h1, h2⟩
    (conv => whnf); repeat' (first | (refine need.mk ?_ ?_; (· (first | with_reducible rfl | omega | rfl | decide | trivial | exact ⟨rfl, rfl, by omega, by omega⟩ | exact ⟨by omega, by omega, roomy_of (by omega)⟩ | (refine ⟨rfl, rfl, ?_⟩; first | ((first | rw [lI] | rw [lS] | rw [lB] | rw [lV]); omega) | (simp; done) | (simp; omega)) | (refine ⟨rfl, ?_⟩; first | ((first | rw [lI] | rw [lS] | rw [lB] | rw [lV]); omega) | (simp; done) | (simp; omega)) | fail)); conv => whnf) | (refine pcase.mk (fun hc => ?_) (fun hc => ?_) <;> (try rw [List.length_nil] at hc) <;> first | (exfalso; omega) | (exact absurd rfl hc) | conv => whnf) | (apply wrapK_intro; (· exact wrap_i64 (by omega) (by omega)); conv => whnf) | (apply nthK_intro; (· (first | ((with_reducible first | refine nIN ?_ | refine nI ?_ | refine nSN ?_ | refine nS ?_ | refine nBN ?_ | refine nB ?_ | refine nYN ?_ | refine nY ?_ | refine nY0 ?_ | refine nVN ?_ | refine nV ?_); (first | omega | (simp; omega))) | rfl)); conv => whnf) | (apply getK_intro; (· rfl); conv => whnf) | (apply eqK_intro; (· (first | (with_reducible first | exact lI _ | exact lS _ | exact lB _ | exact uI | exact uS | exact uIS | exact uSS | exact rIN _ _ | exact rI _ _ | exact tIN | exact tI | exact tBN | exact tB | exact uB | exact rBN _ _ | exact lV _ | exact uV | exact uVS) | rfl)); conv => whnf) | ((first | apply apI | apply apS); (· first | rfl | (simp; done)); (· (first | omega | (simp; omega))); conv => whnf) | (refine fkI (fun hm => ?_) (fun _ v hm => ?_) <;> conv => whnf) | (apply msI; conv => whnf)  | (refine bcase_intro (fun hc => ?_) (fun hc => ?_) <;> conv => whnf))
    have hb' := h1.length_eq
    refine mergeO (S := 20) (L := W ++ (B' ++ [])) (L0 := L) (by simp only [List.length_append, List.length_nil]; omega) hs (by omega) (hW.app (.last (by simp only [List.length_append, List.length_nil]; omega) (by rw [List.append_nil]; exact h2))) rfl (by omega) ?_ ?_
    · refine List.Perm.trans ?_ hp
      rw [hL', List.append_nil]
      exact List.Perm.append_left _ h1
    · intro c' W' h3 h4
      exact ⟨c', W', rfl, rfl, h3, h4⟩

end AI
end Go.Proofs.Ytnakgkibjlcjlaa
