/- The stable sort of entries: insertion sort, and the whole. -/
import Derived.Test.YtnakgkibjlcjlaaGrS4
set_option linter.unusedVariables false
namespace Go.Proofs.Ytnakgkibjlcjlaa
namespace AI

theorem gAt {A Y Z : List Adj} {h : Nat} (hh : h < Y.length) : (A ++ (Y ++ Z)).getD (A.length + h) A0 = Y.getD h A0 := by
  simp only [List.getD]
  rw [List.getElem?_append_right (by omega), Nat.add_sub_cancel_left, List.getElem?_append_left hh]
theorem gTk {W : List Adj} {t h : Nat} (hh : h < t) : (W.take t).getD h A0 = W.getD h A0 := by
  simp only [List.getD]
  rw [List.getElem?_take_of_lt hh]

theorem srt_one (X : List Adj) : Srt (X.take 1) := by
  cases X with
  | nil => exact List.Pairwise.nil
  | cons a l => exact List.pairwise_singleton _ _

/-- the inner loop -/
theorem insI {ob0 : Obj} {g len c : Nat} {nn cl : Bool} {A W Z L : List Adj} {x : Adj} {a b i j : Int} {Q : AExit → Env → Sto → Prop} (hL : L = A ++ (W ++ (x :: Z))) (hl : len = L.length) (hs : len < 2^61) (sw : Srt W) (ha : a = A.length) (hj : j = A.length + W.length)
    (hQ : ∀ (c t : Nat) (z : Int), t ≤ W.length → Srt (W.take t ++ x :: W.drop t) → Q (.exit 2) [(0, .own 1 g 0 len), (1, .int .i64 a), (2, .int .i64 b), (3, .fn 37 []), (8, .int .i64 i), (9, .int .i64 z), (34, .bool false)] ⟨[ob0, .arr g 3 nn cl (vs Adj.av (A ++ (W.take t ++ (x :: (W.drop t ++ Z)))))], c⟩) :
    Run (findFn tab) (.loop l88_0_h l88_0_b) [(0, .own 1 g 0 len), (1, .int .i64 a), (2, .int .i64 b), (3, .fn 37 []), (8, .int .i64 i), (9, .int .i64 j)] ⟨[ob0, .arr g 3 nn cl (vs Adj.av L)], c⟩ Q := by
  have hll : len = A.length + (W.length + (Z.length + 1)) := by rw [hl, hL]; simp only [List.length_append, List.length_cons]
  refine loop_inv (fun k env s => ∃ (t c : Nat) (z : Int) (L' : List Adj), k = t + 1 ∧ t ≤ W.length ∧ z = A.length + t ∧ L' = A ++ (W.take t ++ (x :: (W.drop t ++ Z))) ∧ (∀ v ∈ W.drop t, lt x v) ∧ env = [(0, .own 1 g 0 len), (1, .int .i64 a), (2, .int .i64 b), (3, .fn 37 []), (8, .int .i64 i), (9, .int .i64 z)] ∧ s = ⟨[ob0, .arr g 3 nn cl (vs Adj.av L')], c⟩) ?_ _ _ _ ⟨W.length, _, _, _, rfl, Nat.le_refl _, hj, by rw [hL, List.take_length, List.drop_length]; rfl, by simp, rfl, rfl⟩
  clear hL
  rintro _ _ _ ⟨t, c, z, L', rfl, k1, k2, hL', k3, rfl, rfl⟩
  refine ⟨rfl, ?_⟩
  have hll' : L'.length = len := by rw [hL']; simp only [List.length_append, List.length_cons, List.length_take, List.length_drop]; omega
  have e1 : 0 < t → L'.getD (A.length + (t - 1) + 1) A0 = x := by
    intro h0
    have := gAt (A := A ++ W.take t) (Y := [x]) (Z := W.drop t ++ Z) (h := 0) (by simp)
    rw [hL', show A.length + (t - 1) + 1 = (A ++ W.take t).length + 0 by simp only [List.length_append, List.length_take]; omega]
    rw [List.append_assoc] at this
    exact this
  have e2 : 0 < t → L'.getD (A.length + (t - 1)) A0 = W.getD (t - 1) A0 := by
    intro h0
    rw [hL', gAt (by simp only [List.length_take]; omega), gTk (by omega)]
  (conv => whnf); repeat' (first | (apply nthK_intro; (· first | exact nA (A.length + (t - 1) + 1) (by omega) (by first | omega | (simp; omega))); conv => whnf) | (apply nthK_intro; (· first | exact nA (A.length + (t - 1)) (by omega) (by first | omega | (simp; omega))); conv => whnf) | (apply eqK_intro; (· exact tA (A.length + (t - 1) + 1) (by omega)); conv => whnf) | (apply eqK_intro; (· exact tA (A.length + (t - 1)) (by omega)); conv => whnf) | (refine callK_of steps1 ?_; rintro _ rfl; conv => whnf) | (refine need.mk ?_ ?_; (· (first | with_reducible rfl | omega | rfl | decide | trivial | exact ⟨rfl, rfl, by omega, by omega⟩ | exact ⟨by omega, by omega, roomy_of (by omega)⟩ | (refine ⟨rfl, rfl, ?_⟩; first | ((first | rw [lI] | rw [lS] | rw [lB] | rw [lV]); omega) | (simp; done) | (simp; omega)) | (refine ⟨rfl, ?_⟩; first | ((first | rw [lI] | rw [lS] | rw [lB] | rw [lV]); omega) | (simp; done) | (simp; omega)) | fail)); conv => whnf) | (refine pcase.mk (fun hc => ?_) (fun hc => ?_) <;> (try rw [List.length_nil] at hc) <;> first | (exfalso; omega) | (exact absurd rfl hc) | conv => whnf) | (apply wrapK_intro; (· exact wrap_i64 (by omega) (by omega)); conv => whnf) | (apply nthK_intro; (· (first | ((with_reducible first | refine nIN ?_ | refine nI ?_ | refine nSN ?_ | refine nS ?_ | refine nBN ?_ | refine nB ?_ | refine nYN ?_ | refine nY ?_ | refine nY0 ?_ | refine nVN ?_ | refine nV ?_); (first | omega | (simp; omega))) | rfl)); conv => whnf) | (apply getK_intro; (· rfl); conv => whnf) | (apply eqK_intro; (· (first | (with_reducible first | exact lI _ | exact lS _ | exact lB _ | exact uI | exact uS | exact uIS | exact uSS | exact rIN _ _ | exact rI _ _ | exact tIN | exact tI | exact tBN | exact tB | exact uB | exact rBN _ _ | exact lV _ | exact uV | exact uVS) | rfl)); conv => whnf) | ((first | apply apI | apply apS); (· first | rfl | (simp; done)); (· (first | omega | (simp; omega))); conv => whnf) | (refine fkI (fun hm => ?_) (fun _ v hm => ?_) <;> conv => whnf) | (apply msI; conv => whnf) | (refine bcase_intro (fun hc => ?_) (fun hc => ?_) <;> conv => whnf))
  · rw [e1 (by omega), e2 (by omega)] at hc
    refine again.mk ⟨_, by omega, t - 1, _, _, _, rfl, by omega, by omega, by rw [← shift_down1 (by omega) k1 rfl rfl, ← hL']; rfl, fun v hv => ?_, rfl, rfl⟩
    exact lt_of_lt_le (cmpA_lt.1 hc) (drop_ge sw (by omega) v hv)
  · rw [e1 (by omega), e2 (by omega)] at hc
    subst hL'
    refine hQ c t z k1 (srt_mid (sw.take _) (sw.drop _) (fun u hu => ?_) (fun v hv => lt_le (k3 v hv)))
    obtain ⟨t, rfl⟩ : ∃ t', t = t' + 1 := ⟨t - 1, by omega⟩
    exact le_trans (take_le sw (by omega) u hu) (fun h => hc (cmpA_lt.2 h))
  · obtain rfl : t = 0 := by omega
    subst hL'
    exact hQ c 0 z k1 (srt_mid (sw.take _) (sw.drop _) (fun u hu => by simp at hu) (fun v hv => lt_le (k3 v hv)))

/-- insertion sort -/
theorem insQ {ob0 : Obj} {g len c : Nat} {nn cl : Bool} {A X Z L : List Adj} {a b : Int} (hL : L = A ++ (X ++ Z)) (hl : len = L.length) (hs : len < 2^61) (ha : a = A.length) (hb : b = A.length + X.length) :
    Calls1 (findFn tab) 88 [.own 1 g 0 len, .int .i64 a, .int .i64 b, .fn 37 []] ⟨[ob0, .arr g 3 nn cl (vs Adj.av L)], c⟩ fun out s' => ∃ c' W, out = .ok (.tup []) ∧ s' = ⟨[ob0, .arr g 3 nn cl (vs Adj.av (A ++ (W ++ Z)))], c'⟩ ∧ W.Perm X ∧ Srt W := by
  have hll : len = A.length + (X.length + Z.length) := by rw [hl, hL]; simp only [List.length_append]
  refine calls1_of rfl rfl ?_
  (conv => whnf); repeat' (first | (refine need.mk ?_ ?_; (· (first | with_reducible rfl | omega | rfl | decide | trivial | exact ⟨rfl, rfl, by omega, by omega⟩ | exact ⟨by omega, by omega, roomy_of (by omega)⟩ | (refine ⟨rfl, rfl, ?_⟩; first | ((first | rw [lI] | rw [lS] | rw [lB] | rw [lV]); omega) | (simp; done) | (simp; omega)) | (refine ⟨rfl, ?_⟩; first | ((first | rw [lI] | rw [lS] | rw [lB] | rw [lV]); omega) | (simp; done) | (simp; omega)) | fail)); conv => whnf) | (refine pcase.mk (fun hc => ?_) (fun hc => ?_) <;> (try rw [List.length_nil] at hc) <;> first | (exfalso; omega) | (exact absurd rfl hc) | conv => whnf) | (apply wrapK_intro; (· exact wrap_i64 (by omega) (by omega)); conv => whnf) | (apply nthK_intro; (· (first | ((with_reducible first | refine nIN ?_ | refine nI ?_ | refine nSN ?_ | refine nS ?_ | refine nBN ?_ | refine nB ?_ | refine nYN ?_ | refine nY ?_ | refine nY0 ?_ | refine nVN ?_ | refine nV ?_); (first | omega | (simp; omega))) | rfl)); conv => whnf) | (apply getK_intro; (· rfl); conv => whnf) | (apply eqK_intro; (· (first | (with_reducible first | exact lI _ | exact lS _ | exact lB _ | exact uI | exact uS | exact uIS | exact uSS | exact rIN _ _ | exact rI _ _ | exact tIN | exact tI | exact tBN | exact tB | exact uB | exact rBN _ _ | exact lV _ | exact uV | exact uVS) | rfl)); conv => whnf) | ((first | apply apI | apply apS); (· first | rfl | (simp; done)); (· (first | omega | (simp; omega))); conv => whnf) | (refine fkI (fun hm => ?_) (fun _ v hm => ?_) <;> conv => whnf) | (apply msI; conv => whnf)  | (refine bcase_intro (fun hc => ?_) (fun hc => ?_) <;> conv => whnf))
  refine loop_inv (fun m env s => ∃ (k c : Nat) (i : Int) (W L : List Adj), m = X.length - k ∧ 1 ≤ k ∧ (k ≤ X.length ∨ k = 1) ∧ i = A.length + k ∧ W.Perm (X.take k) ∧ Srt W ∧ L = A ++ (W ++ (X.drop k ++ Z)) ∧ env = [(0, .own 1 g 0 len), (1, .int .i64 a), (2, .int .i64 b), (3, .fn 37 []), (8, .int .i64 i)] ∧ s = ⟨[ob0, .arr g 3 nn cl (vs Adj.av L)], c⟩) ?_ _ _ _ ⟨1, c, _, X.take 1, _, rfl, by omega, by omega, by omega, List.Perm.refl _, srt_one X, by rw [hL]; conv => lhs; rw [← List.take_append_drop 1 X, List.append_assoc], rfl, rfl⟩
  clear hL hl
  rintro _ _ _ ⟨k, c, i, W, L, rfl, k1, k2, hi, hp, hw, hL, rfl, rfl⟩
  refine ⟨rfl, ?_⟩
  (conv => whnf); repeat' (first | (refine need.mk ?_ ?_; (· (first | with_reducible rfl | omega | rfl | decide | trivial | exact ⟨rfl, rfl, by omega, by omega⟩ | exact ⟨by omega, by omega, roomy_of (by omega)⟩ | (refine ⟨rfl, rfl, ?_⟩; first | ((first | rw [lI] | rw [lS] | rw [lB] | rw [lV]); omega) | (simp; done) | (simp; omega)) | (refine ⟨rfl, ?_⟩; first | ((first | rw [lI] | rw [lS] | rw [lB] | rw [lV]); omega) | (simp; done) | (simp; omega)) | fail)); conv => whnf) | (refine pcase.mk (fun hc => ?_) (fun hc => ?_) <;> (try rw [List.length_nil] at hc) <;> first | (exfalso; omega) | (exact absurd rfl hc) | conv => whnf) | (apply wrapK_intro; (· exact wrap_i64 (by omega) (by omega)); conv => whnf) | (apply nthK_intro; (· (first | ((with_reducible first | refine nIN ?_ | refine nI ?_ | refine nSN ?_ | refine nS ?_ | refine nBN ?_ | refine nB ?_ | refine nYN ?_ | refine nY ?_ | refine nY0 ?_ | refine nVN ?_ | refine nV ?_); (first | omega | (simp; omega))) | rfl)); conv => whnf) | (apply getK_intro; (· rfl); conv => whnf) | (apply eqK_intro; (· (first | (with_reducible first | exact lI _ | exact lS _ | exact lB _ | exact uI | exact uS | exact uIS | exact uSS | exact rIN _ _ | exact rI _ _ | exact tIN | exact tI | exact tBN | exact tB | exact uB | exact rBN _ _ | exact lV _ | exact uV | exact uVS) | rfl)); conv => whnf) | ((first | apply apI | apply apS); (· first | rfl | (simp; done)); (· (first | omega | (simp; omega))); conv => whnf) | (refine fkI (fun hm => ?_) (fun _ v hm => ?_) <;> conv => whnf) | (apply msI; conv => whnf)  | (refine bcase_intro (fun hc => ?_) (fun hc => ?_) <;> conv => whnf))
  · have hk : k < X.length := by omega
    have hwl : W.length = k := by rw [hp.length_eq, List.length_take]; omega
    rw [List.drop_eq_getElem_cons hk] at hL
    refine insI (x := X[k]) (Z := X.drop (k + 1) ++ Z) hL (by rw [hL]; simp only [List.length_append, List.length_cons, List.length_drop]; omega) hs hw ha (by omega) ?_
    intro c' t z ht hst
    (conv => whnf); repeat' (first | (refine need.mk ?_ ?_; (· (first | with_reducible rfl | omega | rfl | decide | trivial | exact ⟨rfl, rfl, by omega, by omega⟩ | exact ⟨by omega, by omega, roomy_of (by omega)⟩ | (refine ⟨rfl, rfl, ?_⟩; first | ((first | rw [lI] | rw [lS] | rw [lB] | rw [lV]); omega) | (simp; done) | (simp; omega)) | (refine ⟨rfl, ?_⟩; first | ((first | rw [lI] | rw [lS] | rw [lB] | rw [lV]); omega) | (simp; done) | (simp; omega)) | fail)); conv => whnf) | (refine pcase.mk (fun hc => ?_) (fun hc => ?_) <;> (try rw [List.length_nil] at hc) <;> first | (exfalso; omega) | (exact absurd rfl hc) | conv => whnf) | (apply wrapK_intro; (· exact wrap_i64 (by omega) (by omega)); conv => whnf) | (apply nthK_intro; (· (first | ((with_reducible first | refine nIN ?_ | refine nI ?_ | refine nSN ?_ | refine nS ?_ | refine nBN ?_ | refine nB ?_ | refine nYN ?_ | refine nY ?_ | refine nY0 ?_ | refine nVN ?_ | refine nV ?_); (first | omega | (simp; omega))) | rfl)); conv => whnf) | (apply getK_intro; (· rfl); conv => whnf) | (apply eqK_intro; (· (first | (with_reducible first | exact lI _ | exact lS _ | exact lB _ | exact uI | exact uS | exact uIS | exact uSS | exact rIN _ _ | exact rI _ _ | exact tIN | exact tI | exact tBN | exact tB | exact uB | exact rBN _ _ | exact lV _ | exact uV | exact uVS) | rfl)); conv => whnf) | ((first | apply apI | apply apS); (· first | rfl | (simp; done)); (· (first | omega | (simp; omega))); conv => whnf) | (refine fkI (fun hm => ?_) (fun _ v hm => ?_) <;> conv => whnf) | (apply msI; conv => whnf)  | (refine bcase_intro (fun hc => ?_) (fun hc => ?_) <;> conv => whnf))
    refine again.mk ⟨_, by omega, k + 1, _, _, W.take t ++ X[k] :: W.drop t, _, rfl, by omega, by omega, by omega, ?_, hst, by simp only [List.append_assoc, List.cons_append], rfl, rfl⟩
    refine List.perm_middle.trans ?_
    rw [List.take_append_drop, List.take_succ_eq_append_getElem hk]
    exact (List.Perm.cons _ hp).trans (List.perm_append_comm (l₁ := [X[k]]) (l₂ := X.take k))
  · rw [List.take_of_length_le (by omega)] at hp
    rw [List.drop_of_length_le (by omega)] at hL
    subst hL
    exact ⟨_, W, rfl, rfl, hp, hw⟩

end AI
end Go.Proofs.Ytnakgkibjlcjlaa
