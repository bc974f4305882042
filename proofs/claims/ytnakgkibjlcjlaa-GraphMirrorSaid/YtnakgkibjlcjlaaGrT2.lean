/- The steps at a node: the reference's. -/
import Derived.Test.YtnakgkibjlcjlaaGrT
set_option linter.unusedVariables false
namespace Go.Proofs.Ytnakgkibjlcjlaa
namespace AI

theorem set_mid {W : List Adj} {y w : Adj} {t : Nat} (ht : t ≤ W.length) : (W.take t ++ y :: W.drop t).set t w = W.take t ++ w :: W.drop t := by
  rw [List.set_append_right _ _ (by rw [List.length_take]; omega), List.length_take, Nat.min_eq_left ht, Nat.sub_self, List.set_cons_zero]
theorem get_mid {W : List Adj} {y : Adj} {t : Nat} (h0 : 0 < t) (ht : t ≤ W.length) : (W.take t ++ y :: W.drop t).getD (t - 1) A0 = W.getD (t - 1) A0 := by
  have : (W.take t ++ y :: W.drop t).getD (t - 1) A0 = (W.take t).getD (t - 1) A0 := by
    simp only [List.getD]
    rw [List.getElem?_append_left (by rw [List.length_take]; omega)]
  rw [this, gTk (by omega)]
theorem down_mid {W : List Adj} {t : Nat} (h0 : 0 < t) (ht : t ≤ W.length) : W.take t ++ W.getD (t - 1) A0 :: W.drop t = W.take (t - 1) ++ W.getD (t - 1) A0 :: W.drop (t - 1) := by
  obtain ⟨t, rfl⟩ : ∃ t', t = t' + 1 := ⟨t - 1, by omega⟩
  have hlt : t < W.length := by omega
  have e : W.getD t A0 = W[t] := by simp [hlt]
  rw [Nat.add_sub_cancel, e, List.drop_eq_getElem_cons hlt, List.take_succ_eq_append_getElem hlt, List.append_assoc]
  rfl

/-- sinking a new entry -/
theorem sinkI {g : GG} {len c go : Nat} {nn : Bool} {W L : List Adj} {x : Adj} {id dir ii z : Int} {types : List (List UInt8)} {tn : Bool} {gx : Nat} {Q : AExit → Env → Sto → Prop} (hL : L = W ++ [x]) (hz : z = W.length) (hl : len = W.length + 1) (hs : len < 2^61) (sw : Srt W)
    (hQ : ∀ (t : Nat) (z : Int) (y : Adj), z = t → t ≤ W.length → Srt (W.take t ++ x :: W.drop t) → Q (.exit 2) [(1, .int .i64 id), (2, .sl tn (vs .str types)), (3, .int .i64 dir), (4, .ref 0 0 0 0), (9, .own 1 go 0 len), (10, .int .i64 ii), (11, .ref 2 gx 0 0), (13, .int .i64 z), (84, .bool false)] ⟨[.arr 0 4 true true [g.av], .arr go 3 nn true (vs Adj.av (W.take t ++ y :: W.drop t)), .arr gx 3 true true [x.av]], c⟩) :
    Run (findFn tab) (.loop l12_0_h l12_0_b) [(1, .int .i64 id), (2, .sl tn (vs .str types)), (3, .int .i64 dir), (4, .ref 0 0 0 0), (9, .own 1 go 0 len), (10, .int .i64 ii), (11, .ref 2 gx 0 0), (13, .int .i64 z)] ⟨[.arr 0 4 true true [g.av], .arr go 3 nn true (vs Adj.av (L)), .arr gx 3 true true [x.av]], c⟩ Q := by
  refine loop_inv (fun k env s => ∃ (t : Nat) (z : Int) (y : Adj) (L' : List Adj), k = t + 1 ∧ z = t ∧ t ≤ W.length ∧ L' = W.take t ++ y :: W.drop t ∧ (∀ v ∈ W.drop t, lt x v) ∧ env = [(1, .int .i64 id), (2, .sl tn (vs .str types)), (3, .int .i64 dir), (4, .ref 0 0 0 0), (9, .own 1 go 0 len), (10, .int .i64 ii), (11, .ref 2 gx 0 0), (13, .int .i64 z)] ∧ s = ⟨[.arr 0 4 true true [g.av], .arr go 3 nn true (vs Adj.av (L')), .arr gx 3 true true [x.av]], c⟩) ?_ _ _ _ ⟨W.length, z, x, L, rfl, hz, Nat.le_refl _, by rw [hL]; simp, by simp, rfl, rfl⟩
  clear hz
  rintro _ _ _ ⟨t, z, y, L', rfl, hz, k1, hL', k5, rfl, rfl⟩
  refine ⟨rfl, ?_⟩
  have hl' : L'.length = len := by rw [hL']; simp only [List.length_append, List.length_cons, List.length_take, List.length_drop]; omega
  have e2 : 0 < t → L'.getD (t - 1) A0 = W.getD (t - 1) A0 := fun h0 => by rw [hL']; exact get_mid h0 k1
  (conv => whnf); repeat' (first | (apply nthK_intro; (· first | exact nA (t - 1) (by omega) (by omega) | exact nA t (by omega) (by omega)); conv => whnf) | (apply eqK_intro; (· exact tA (t) (by omega)); conv => whnf) | (refine need.mk ?_ ?_; (· (first | with_reducible rfl | omega | rfl | decide | trivial | exact ⟨rfl, rfl, by omega, by omega⟩ | exact ⟨by omega, by omega, roomy_of (by omega)⟩ | (refine ⟨rfl, rfl, ?_⟩; first | ((first | rw [lI] | rw [lS] | rw [lB] | rw [lV]); omega) | (simp; done) | (simp; omega)) | (refine ⟨rfl, ?_⟩; first | ((first | rw [lI] | rw [lS] | rw [lB] | rw [lV]); omega) | (simp; done) | (simp; omega)) | fail)); conv => whnf) | (refine pcase.mk (fun hc => ?_) (fun hc => ?_) <;> (try rw [List.length_nil] at hc) <;> first | (exfalso; omega) | (exact absurd rfl hc) | conv => whnf) | (apply wrapK_intro; (· exact wrap_i64 (by omega) (by omega)); conv => whnf) | (apply nthK_intro; (· (first | ((with_reducible first | refine nIN ?_ | refine nI ?_ | refine nSN ?_ | refine nS ?_ | refine nBN ?_ | refine nB ?_ | refine nYN ?_ | refine nY ?_ | refine nY0 ?_ | refine nVN ?_ | refine nV ?_); (first | omega | (simp; omega))) | rfl)); conv => whnf) | (apply getK_intro; (· rfl); conv => whnf) | (apply eqK_intro; (· (first | (with_reducible first | exact lI _ | exact lS _ | exact lB _ | exact uI | exact uS | exact uIS | exact uSS | exact rIN _ _ | exact rI _ _ | exact tIN | exact tI | exact tBN | exact tB | exact uB | exact rBN _ _ | exact lV _ | exact uV | exact uVS) | rfl)); conv => whnf) | ((first | apply apI | apply apS); (· first | rfl | (simp; done)); (· (first | omega | (simp; omega))); conv => whnf) | (refine fkI (fun hm => ?_) (fun _ v hm => ?_) <;> conv => whnf) | (apply msI; conv => whnf) | (refine bcase_intro (fun hc => ?_) (fun hc => ?_) <;> conv => whnf))
  all_goals first
    | (have hlt : lt x (L'.getD (t - 1) A0) := by unfold lt; omega
       rw [e2 (by omega)] at hlt
       refine again.mk ⟨_, by omega, t - 1, _, W.getD (t - 1) A0, _, rfl, by omega, by omega, ?_, fun v hv => lt_of_lt_le hlt (drop_ge sw (by omega) v hv), rfl, rfl⟩
       rw [e2 (by omega), hL', set_mid k1]
       exact down_mid (by omega) k1)
    | (have hex : 0 < t → le (L'.getD (t - 1) A0) x := by intro h0; unfold le lt; omega
       subst hL'
       refine hQ t z y hz k1 (srt_mid (sw.take _) (sw.drop _) (fun u hu => ?_) (fun v hv => lt_le (k5 v hv)))
       rcases Nat.eq_zero_or_pos t with rfl | h0
       · simp at hu
       · have h1 := hex h0
         rw [e2 h0] at h1
         refine le_trans (take_le sw (h := t - 1) (by omega) u ?_) h1
         rw [Nat.sub_add_cancel h0]; exact hu)

end AI
end Go.Proofs.Ytnakgkibjlcjlaa
