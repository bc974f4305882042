/- The rounds of the reduction: the walks. -/
import Derived.Test.YtocgbgffpdphdaaHyD
set_option linter.unusedVariables false
namespace Go.Proofs.Ytocgbgffpdphdaa
namespace AI

theorem countP_take_succ {α : Type} {p : α → Bool} {l : List α} {i : Nat} (h : i < l.length) : (l.take (i + 1)).countP p = (l.take i).countP p + if p l[i] then 1 else 0 := by
  rw [List.take_succ_eq_append_getElem h, List.countP_append, List.countP_singleton]

theorem filter_take_succ {α : Type} {p : α → Bool} {l : List α} {i : Nat} (h : i < l.length) : (l.take (i + 1)).filter p = (l.take i).filter p ++ if p l[i] then [l[i]] else [] := by
  rw [List.take_succ_eq_append_getElem h, List.filter_append]
  congr 1
  simp only [List.filter_cons, List.filter_nil]

theorem shared40 {E : List (Bool × List Int)} {x : List Int} {ns nb : Bool} (hE : SmE E) (hx : x.length ≤ 1000) :
    PureP (findFn tab) 40 [.sl ns (iss E), isl nb x] (fun v => ∃ b, v = isl b (shr (E.map (·.2)) x)) := by
  have hE0 := hE.1
  refine pureP_of rfl rfl ?_
  (conv => whnf); repeat' (first | (refine need.mk ?_ ?_; (· (first | with_reducible rfl | omega | rfl | decide | trivial | exact ⟨rfl, rfl, by omega, by omega⟩ | exact ⟨by omega, by omega, roomy_of (by omega)⟩ | (refine ⟨rfl, rfl, ?_⟩; first | ((first | rw [lI] | rw [lS] | rw [lB]); omega) | (simp; done) | (simp; omega)) | (refine ⟨rfl, ?_⟩; first | ((first | rw [lI] | rw [lS] | rw [lB]); omega) | (simp; done) | (simp; omega)) | fail)); conv => whnf) | (refine pcase.mk (fun hc => ?_) (fun hc => ?_) <;> (try rw [List.length_nil] at hc) <;> first | (exfalso; omega) | (exact absurd rfl hc) | conv => whnf) | (apply wrapK_intro; (· exact wrap_i64 (by omega) (by omega)); conv => whnf) | (apply nthK_intro; (· (first | ((with_reducible first | refine nIN ?_ | refine nI ?_ | refine nSN ?_ | refine nS ?_ | refine nBN ?_ | refine nB ?_); (first | omega | (simp; omega))) | rfl)); conv => whnf) | (apply getK_intro; (· rfl); conv => whnf) | (apply eqK_intro; (· (first | (with_reducible first | exact lI _ | exact lS _ | exact lB _ | exact uI | exact uS | exact uIS | exact uSS | exact rIN _ _ | exact rI _ _ | exact tIN | exact tI | exact tBN | exact tB | exact uB | exact rBN _ _) | rfl)); conv => whnf) | ((first | apply apI | apply apS); (· first | rfl | (simp; done)); (· (first | omega | (simp; omega))); conv => whnf) | (refine fkI (fun hm => ?_) (fun _ v hm => ?_) <;> conv => whnf) | (apply msI; conv => whnf)  | (refine bcase_intro (fun hc => ?_) (fun hc => ?_) <;> conv => whnf))
  refine loop_inv (fun m env s => ∃ (k g c ll : Nat) (nn : Bool) (l : List Int), m = x.length - k ∧ ll = l.length ∧ env = [(0, .sl ns (iss E)), (1, isl nb x), (5, .own 0 g 0 ll), (6, .int .i64 k)] ∧ s = ⟨[.arr g 1 nn true (ints l)], c⟩ ∧ l = (x.take k).filter fun v => decide (1 < occ (E.map (·.2)) v)) ?_ _ _ _ ⟨0, _, _, _, _, [], rfl, rfl, rfl, rfl, rfl⟩
  rintro _ _ _ ⟨k, g, c, ll, nn, l, rfl, rfl, rfl, rfl, hl⟩
  refine ⟨rfl, ?_⟩
  have hll : l.length ≤ 1000 := by
    rw [hl]; exact Nat.le_trans (List.length_filter_le _ _) (by rw [List.length_take]; omega)
  (conv => whnf); repeat' (first | (refine need.mk ?_ ?_; (· (first | with_reducible rfl | omega | rfl | decide | trivial | exact ⟨rfl, rfl, by omega, by omega⟩ | exact ⟨by omega, by omega, roomy_of (by omega)⟩ | (refine ⟨rfl, rfl, ?_⟩; first | ((first | rw [lI] | rw [lS] | rw [lB]); omega) | (simp; done) | (simp; omega)) | (refine ⟨rfl, ?_⟩; first | ((first | rw [lI] | rw [lS] | rw [lB]); omega) | (simp; done) | (simp; omega)) | fail)); conv => whnf) | (refine pcase.mk (fun hc => ?_) (fun hc => ?_) <;> (try rw [List.length_nil] at hc) <;> first | (exfalso; omega) | (exact absurd rfl hc) | conv => whnf) | (apply wrapK_intro; (· exact wrap_i64 (by omega) (by omega)); conv => whnf) | (apply nthK_intro; (· (first | ((with_reducible first | refine nIN ?_ | refine nI ?_ | refine nSN ?_ | refine nS ?_ | refine nBN ?_ | refine nB ?_); (first | omega | (simp; omega))) | rfl)); conv => whnf) | (apply getK_intro; (· rfl); conv => whnf) | (apply eqK_intro; (· (first | (with_reducible first | exact lI _ | exact lS _ | exact lB _ | exact uI | exact uS | exact uIS | exact uSS | exact rIN _ _ | exact rI _ _ | exact tIN | exact tI | exact tBN | exact tB | exact uB | exact rBN _ _) | rfl)); conv => whnf) | ((first | apply apI | apply apS); (· first | rfl | (simp; done)); (· (first | omega | (simp; omega))); conv => whnf) | (refine fkI (fun hm => ?_) (fun _ v hm => ?_) <;> conv => whnf) | (apply msI; conv => whnf)  | (refine bcase_intro (fun hc => ?_) (fun hc => ?_) <;> conv => whnf))
  · have hk' : k < x.length := by omega
    refine loop_inv (fun m env s => ∃ (i n : Nat), m = E.length - i ∧ n ≤ i ∧ env = [(0, .sl ns (iss E)), (1, isl nb x), (5, .own 0 g 0 l.length), (6, .int .i64 k), (7, .int .i64 n), (8, .int .i64 i)] ∧ s = ⟨[.arr g 1 nn true (ints l)], c⟩ ∧ n = ((E.map (·.2)).take i).countP fun f => decide (x[k] ∈ f)) ?_ _ _ _ ⟨0, 0, rfl, by omega, rfl, rfl, by simp⟩
    rintro _ _ _ ⟨i, n, rfl, hni, rfl, rfl, hn⟩
    refine ⟨rfl, ?_⟩
    (conv => whnf); repeat' (first | (refine need.mk ?_ ?_; (· (first | with_reducible rfl | omega | rfl | decide | trivial | exact ⟨rfl, rfl, by omega, by omega⟩ | exact ⟨by omega, by omega, roomy_of (by omega)⟩ | (refine ⟨rfl, rfl, ?_⟩; first | ((first | rw [lI] | rw [lS] | rw [lB]); omega) | (simp; done) | (simp; omega)) | (refine ⟨rfl, ?_⟩; first | ((first | rw [lI] | rw [lS] | rw [lB]); omega) | (simp; done) | (simp; omega)) | fail)); conv => whnf) | (refine pcase.mk (fun hc => ?_) (fun hc => ?_) <;> (try rw [List.length_nil] at hc) <;> first | (exfalso; omega) | (exact absurd rfl hc) | conv => whnf) | (apply wrapK_intro; (· exact wrap_i64 (by omega) (by omega)); conv => whnf) | (apply nthK_intro; (· (first | ((with_reducible first | refine nIN ?_ | refine nI ?_ | refine nSN ?_ | refine nS ?_ | refine nBN ?_ | refine nB ?_); (first | omega | (simp; omega))) | rfl)); conv => whnf) | (apply getK_intro; (· rfl); conv => whnf) | (apply eqK_intro; (· (first | (with_reducible first | exact lI _ | exact lS _ | exact lB _ | exact uI | exact uS | exact uIS | exact uSS | exact rIN _ _ | exact rI _ _ | exact tIN | exact tI | exact tBN | exact tB | exact uB | exact rBN _ _) | rfl)); conv => whnf) | ((first | apply apI | apply apS); (· first | rfl | (simp; done)); (· (first | omega | (simp; omega))); conv => whnf) | (refine fkI (fun hm => ?_) (fun _ v hm => ?_) <;> conv => whnf) | (apply msI; conv => whnf) | (refine callB (has36 (hE.get (by omega))) (fun hc => ?_) (fun hc => ?_) <;> conv => whnf) | (refine bcase_intro (fun hc => ?_) (fun hc => ?_) <;> conv => whnf))
    · refine again.mk ⟨_, by omega, i + 1, n + 1, rfl, by omega, rfl, rfl, ?_⟩
      rw [countP_take_succ (by simp; omega), if_pos (by simpa using hc), ← hn]
    · refine again.mk ⟨_, by omega, i + 1, n, rfl, by omega, rfl, rfl, ?_⟩
      rw [countP_take_succ (by simp; omega), if_neg (by simpa using hc), ← hn, Nat.add_zero]
    · rename_i hi
      rw [List.take_of_length_le (by simp; omega)] at hn
      have hn : n = occ (E.map (·.2)) x[k] := hn
      refine again.mk ⟨_, by omega, k + 1, _, _, _, _, _, rfl, by simp, rfl, rfl, ?_⟩
      rw [filter_take_succ hk', if_pos (by rw [decide_eq_true_eq]; omega), hl]
    · rename_i hi
      rw [List.take_of_length_le (by simp; omega)] at hn
      have hn : n = occ (E.map (·.2)) x[k] := hn
      refine again.mk ⟨_, by omega, k + 1, _, _, _, _, _, rfl, rfl, rfl, rfl, ?_⟩
      rw [filter_take_succ hk', if_neg (by rw [decide_eq_true_eq]; omega), hl, List.append_nil]
  · rw [take_all hc] at hl
    subst hl
    exact ⟨nn, rfl⟩

theorem nthL_snds {E : List (Bool × List Int)} {i : Nat} (h : i < E.length) : nthL (E.map (·.2)) i = (E[i]).2 := by
  rw [nthL_eq (by simpa using h)]; simp

theorem dec_keep {K : List (List Int)} {i k : Nat} {b : Bool} (h : ¬ falls K i k) (hb : b = decide (stays K i k)) : b = decide (stays K i (k + 1)) := by
  rw [hb, decide_eq_decide, stays_succ]
  exact ⟨fun h1 => ⟨h1, h⟩, fun h1 => h1.1⟩
theorem dec_falls {K : List (List Int)} {i k : Nat} (h : falls K i k) : false = decide (stays K i (k + 1)) := by
  rw [eq_comm, decide_eq_false_iff_not, stays_succ]
  exact fun h1 => h1.2 h

theorem map_take_succ {E : List (Bool × List Int)} {i : Nat} (h : i < E.length) (f : List Int → List Int) : ((E.map (·.2)).take (i + 1)).map f = ((E.map (·.2)).take i).map f ++ [f (E[i]).2] := by
  rw [take_snds' h, List.map_append]; rfl
where
  take_snds' {E : List (Bool × List Int)} {i : Nat} (h : i < E.length) : (E.map (·.2)).take (i + 1) = (E.map (·.2)).take i ++ [(E[i]).2] := by
    rw [List.take_succ_eq_append_getElem (by simpa using h)]; simp

/-- what both rounds answer -/
def RndR (L : List (List Int)) (v : AV) : Prop := ∃ nn out, v = .sl nn (iss out) ∧ out.map (·.2) = rnd L

theorem kept_length (K : List (List Int)) (i : Nat) : (kept K i).length ≤ i := by
  unfold kept
  rw [List.length_map]
  exact Nat.le_trans (List.length_filter_le _ _) (by simp)

theorem round30 {E : List (Bool × List Int)} {ns : Bool} (hE : E.length ≤ 1000) (hE' : ∀ p ∈ E, p.2.length ≤ 1000) :
    PureP (findFn tab) 30 [.sl ns (iss E)] (RndR (E.map (·.2))) := by
  have hS : SmE E := ⟨by omega, fun p hp => by have := hE' p hp; omega⟩
  have hg : ∀ i (hi : i < E.length), (E[i]).2.length ≤ 1000 := fun i hi => hE' _ (List.getElem_mem hi)
  refine pureP_of rfl rfl ?_
  (conv => whnf); repeat' (first | (refine need.mk ?_ ?_; (· (first | with_reducible rfl | omega | rfl | decide | trivial | exact ⟨rfl, rfl, by omega, by omega⟩ | exact ⟨by omega, by omega, roomy_of (by omega)⟩ | (refine ⟨rfl, rfl, ?_⟩; first | ((first | rw [lI] | rw [lS] | rw [lB]); omega) | (simp; done) | (simp; omega)) | (refine ⟨rfl, ?_⟩; first | ((first | rw [lI] | rw [lS] | rw [lB]); omega) | (simp; done) | (simp; omega)) | fail)); conv => whnf) | (refine pcase.mk (fun hc => ?_) (fun hc => ?_) <;> (try rw [List.length_nil] at hc) <;> first | (exfalso; omega) | (exact absurd rfl hc) | conv => whnf) | (apply wrapK_intro; (· exact wrap_i64 (by omega) (by omega)); conv => whnf) | (apply nthK_intro; (· (first | ((with_reducible first | refine nIN ?_ | refine nI ?_ | refine nSN ?_ | refine nS ?_ | refine nBN ?_ | refine nB ?_); (first | omega | (simp; omega))) | rfl)); conv => whnf) | (apply getK_intro; (· rfl); conv => whnf) | (apply eqK_intro; (· (first | (with_reducible first | exact lI _ | exact lS _ | exact lB _ | exact uI | exact uS | exact uIS | exact uSS | exact rIN _ _ | exact rI _ _ | exact tIN | exact tI | exact tBN | exact tB | exact uB | exact rBN _ _) | rfl)); conv => whnf) | ((first | apply apI | apply apS); (· first | rfl | (simp; done)); (· (first | omega | (simp; omega))); conv => whnf) | (refine fkI (fun hm => ?_) (fun _ v hm => ?_) <;> conv => whnf) | (apply msI; conv => whnf)  | (refine bcase_intro (fun hc => ?_) (fun hc => ?_) <;> conv => whnf))
  refine loop_inv (fun m env s => ∃ (i g c kl : Nat) (nn : Bool) (kk : List (Bool × List Int)), m = E.length - i ∧ i ≤ E.length ∧ kl = kk.length ∧ kl = i ∧ env = [(0, .sl ns (iss E)), (3, .own 0 g 0 kl), (4, .int .i64 i)] ∧ s = ⟨[.arr g 1 nn true (iss kk)], c⟩ ∧ kk.map (·.2) = ((E.map (·.2)).take i).map (shr (E.map (·.2)))) ?_ _ _ _ ⟨0, _, _, _, _, [], rfl, by omega, rfl, rfl, rfl, rfl, rfl⟩
  rintro _ _ _ ⟨i, g, c, kl, nn, kk, rfl, hiE, rfl, hkl, rfl, rfl, hkk⟩
  refine ⟨rfl, ?_⟩
  (conv => whnf); repeat' (first | (refine need.mk ?_ ?_; (· (first | with_reducible rfl | omega | rfl | decide | trivial | exact ⟨rfl, rfl, by omega, by omega⟩ | exact ⟨by omega, by omega, roomy_of (by omega)⟩ | (refine ⟨rfl, rfl, ?_⟩; first | ((first | rw [lI] | rw [lS] | rw [lB]); omega) | (simp; done) | (simp; omega)) | (refine ⟨rfl, ?_⟩; first | ((first | rw [lI] | rw [lS] | rw [lB]); omega) | (simp; done) | (simp; omega)) | fail)); conv => whnf) | (refine pcase.mk (fun hc => ?_) (fun hc => ?_) <;> (try rw [List.length_nil] at hc) <;> first | (exfalso; omega) | (exact absurd rfl hc) | conv => whnf) | (apply wrapK_intro; (· exact wrap_i64 (by omega) (by omega)); conv => whnf) | (apply nthK_intro; (· (first | ((with_reducible first | refine nIN ?_ | refine nI ?_ | refine nSN ?_ | refine nS ?_ | refine nBN ?_ | refine nB ?_); (first | omega | (simp; omega))) | rfl)); conv => whnf) | (apply getK_intro; (· rfl); conv => whnf) | (apply eqK_intro; (· (first | (with_reducible first | exact lI _ | exact lS _ | exact lB _ | exact uI | exact uS | exact uIS | exact uSS | exact rIN _ _ | exact rI _ _ | exact tIN | exact tI | exact tBN | exact tB | exact uB | exact rBN _ _) | rfl)); conv => whnf) | ((first | apply apI | apply apS); (· first | rfl | (simp; done)); (· (first | omega | (simp; omega))); conv => whnf) | (refine fkI (fun hm => ?_) (fun _ v hm => ?_) <;> conv => whnf) | (apply msI; conv => whnf) | (refine callK_of (shared40 hS (hg _ (by omega))) ?_; rintro _ ⟨b, rfl⟩; conv => whnf) | (refine bcase_intro (fun hc => ?_) (fun hc => ?_) <;> conv => whnf))
  · exact again.mk ⟨_, by omega, i + 1, _, _, _, _, _, rfl, by omega, by simp, by omega, rfl, rfl, by rw [map_take_succ (by omega), List.map_append, hkk]; rfl⟩
  · obtain rfl : i = E.length := by omega
    rw [List.take_of_length_le (by simp)] at hkk
    have hkr : ∀ i (hi : i < kk.length), (kk[i]).2.length < 2^63 := by
      intro i hi
      have h1 : (kk[i]).2 ∈ (E.map (·.2)).map (shr (E.map (·.2))) := by rw [← hkk]; exact List.mem_map_of_mem (List.getElem_mem hi)
      obtain ⟨e, he, h2⟩ := List.mem_map.1 h1
      obtain ⟨p, hp, rfl⟩ := List.mem_map.1 he
      rw [← h2]
      exact Nat.lt_of_le_of_lt (shr_sub _ _).length_le (hS.2 p hp)
    refine loop_inv (fun m env s => ∃ (i g' c' ol : Nat) (nn' : Bool) (out : List (Bool × List Int)), m = kk.length - i ∧ i ≤ kk.length ∧ ol = out.length ∧ ol ≤ i ∧ env = [(3, .own 0 g 0 kk.length), (5, .own 1 g' 0 ol), (6, .int .i64 i)] ∧ s = ⟨[.arr g 1 nn true (iss kk), .arr g' 1 nn' true (iss out)], c'⟩ ∧ out.map (·.2) = kept (kk.map (·.2)) i) ?_ _ _ _ ⟨0, _, _, _, _, [], rfl, by omega, rfl, by simp, rfl, rfl, rfl⟩
    rintro _ _ _ ⟨i, g', c', ol, nn', out, rfl, hik, rfl, hol, rfl, rfl, hout⟩
    refine ⟨rfl, ?_⟩
    by_cases hi : i < kk.length
    · have hki := hkr i hi
      have hkn := nthL_snds hi
      (conv => whnf); repeat' (first | (refine need.mk ?_ ?_; (· (first | with_reducible rfl | omega | rfl | decide | trivial | exact ⟨rfl, rfl, by omega, by omega⟩ | exact ⟨by omega, by omega, roomy_of (by omega)⟩ | (refine ⟨rfl, rfl, ?_⟩; first | ((first | rw [lI] | rw [lS] | rw [lB]); omega) | (simp; done) | (simp; omega)) | (refine ⟨rfl, ?_⟩; first | ((first | rw [lI] | rw [lS] | rw [lB]); omega) | (simp; done) | (simp; omega)) | fail)); conv => whnf) | (refine pcase.mk (fun hc => ?_) (fun hc => ?_) <;> (try rw [List.length_nil] at hc) <;> first | (exfalso; omega) | (exact absurd rfl hc) | conv => whnf) | (apply wrapK_intro; (· exact wrap_i64 (by omega) (by omega)); conv => whnf) | (apply nthK_intro; (· (first | ((with_reducible first | refine nIN ?_ | refine nI ?_ | refine nSN ?_ | refine nS ?_ | refine nBN ?_ | refine nB ?_); (first | omega | (simp; omega))) | rfl)); conv => whnf) | (apply getK_intro; (· rfl); conv => whnf) | (apply eqK_intro; (· (first | (with_reducible first | exact lI _ | exact lS _ | exact lB _ | exact uI | exact uS | exact uIS | exact uSS | exact rIN _ _ | exact rI _ _ | exact tIN | exact tI | exact tBN | exact tB | exact uB | exact rBN _ _) | rfl)); conv => whnf) | ((first | apply apI | apply apS); (· first | rfl | (simp; done)); (· (first | omega | (simp; omega))); conv => whnf) | (refine fkI (fun hm => ?_) (fun _ v hm => ?_) <;> conv => whnf) | (apply msI; conv => whnf)  | (refine bcase_intro (fun hc => ?_) (fun hc => ?_) <;> conv => whnf))
      all_goals
        refine loop_inv (fun m env s => ∃ (k : Nat) (b : Bool), m = kk.length - k ∧ k ≤ kk.length ∧ env = [(3, .own 0 g 0 kk.length), (5, .own 1 g' 0 out.length), (6, .int .i64 i), (7, .bool b), (8, .int .i64 k)] ∧ s = ⟨[.arr g 1 nn true (iss kk), .arr g' 1 nn' true (iss out)], c'⟩ ∧ b = decide (stays (kk.map (·.2)) i k)) ?_ _ _ _ ⟨0, _, rfl, by omega, rfl, rfl, ?_⟩
        rotate_left
        · first
            | (rw [eq_comm, decide_eq_true_eq]; refine ⟨?_, fun j hj => by omega⟩; rw [hkn]; rintro h; rw [h] at hc; simp at hc; done)
            | (rw [eq_comm, decide_eq_false_iff_not]; rintro ⟨h, _⟩; rw [hkn] at h; exact h (List.eq_nil_of_length_eq_zero (by omega)))
        rintro _ _ _ ⟨k, b, rfl, hkle, rfl, rfl, hb⟩
        refine ⟨rfl, ?_⟩
        by_cases hk : k < kk.length
        · have hkk' := hkr k hk
          have hkn' := nthL_snds hk
          (conv => whnf); repeat' (first | (refine need.mk ?_ ?_; (· (first | with_reducible rfl | omega | rfl | decide | trivial | exact ⟨rfl, rfl, by omega, by omega⟩ | exact ⟨by omega, by omega, roomy_of (by omega)⟩ | (refine ⟨rfl, rfl, ?_⟩; first | ((first | rw [lI] | rw [lS] | rw [lB]); omega) | (simp; done) | (simp; omega)) | (refine ⟨rfl, ?_⟩; first | ((first | rw [lI] | rw [lS] | rw [lB]); omega) | (simp; done) | (simp; omega)) | fail)); conv => whnf) | (refine pcase.mk (fun hc => ?_) (fun hc => ?_) <;> (try rw [List.length_nil] at hc) <;> first | (exfalso; omega) | (exact absurd rfl hc) | conv => whnf) | (apply wrapK_intro; (· exact wrap_i64 (by omega) (by omega)); conv => whnf) | (apply nthK_intro; (· (first | ((with_reducible first | refine nIN ?_ | refine nI ?_ | refine nSN ?_ | refine nS ?_ | refine nBN ?_ | refine nB ?_); (first | omega | (simp; omega))) | rfl)); conv => whnf) | (apply getK_intro; (· rfl); conv => whnf) | (apply eqK_intro; (· (first | (with_reducible first | exact lI _ | exact lS _ | exact lB _ | exact uI | exact uS | exact uIS | exact uSS | exact rIN _ _ | exact rI _ _ | exact tIN | exact tI | exact tBN | exact tB | exact uB | exact rBN _ _) | rfl)); conv => whnf) | ((first | apply apI | apply apS); (· first | rfl | (simp; done)); (· (first | omega | (simp; omega))); conv => whnf) | (refine fkI (fun hm => ?_) (fun _ v hm => ?_) <;> conv => whnf) | (apply msI; conv => whnf) | (refine callB (within41 hki hkk') (fun hc => ?_) (fun hc => ?_) <;> conv => whnf) | (refine bcase_intro (fun hc => ?_) (fun hc => ?_) <;> conv => whnf))
          all_goals first
            | exact again.mk ⟨_, by omega, k + 1, _, rfl, by omega, rfl, rfl, dec_falls ⟨by omega, by rw [hkn, hkn']; assumption, by rw [hkn, hkn']; omega⟩⟩
            | exact again.mk ⟨_, by omega, k + 1, _, rfl, by omega, rfl, rfl, dec_keep (fun h => by obtain ⟨h1, h2, h3⟩ := h; rw [hkn, hkn'] at h2 h3; first | contradiction | omega) hb⟩
        · obtain rfl : k = kk.length := by omega
          cases b
          · (conv => whnf); repeat' (first | (refine need.mk ?_ ?_; (· (first | with_reducible rfl | omega | rfl | decide | trivial | exact ⟨rfl, rfl, by omega, by omega⟩ | exact ⟨by omega, by omega, roomy_of (by omega)⟩ | (refine ⟨rfl, rfl, ?_⟩; first | ((first | rw [lI] | rw [lS] | rw [lB]); omega) | (simp; done) | (simp; omega)) | (refine ⟨rfl, ?_⟩; first | ((first | rw [lI] | rw [lS] | rw [lB]); omega) | (simp; done) | (simp; omega)) | fail)); conv => whnf) | (refine pcase.mk (fun hc => ?_) (fun hc => ?_) <;> (try rw [List.length_nil] at hc) <;> first | (exfalso; omega) | (exact absurd rfl hc) | conv => whnf) | (apply wrapK_intro; (· exact wrap_i64 (by omega) (by omega)); conv => whnf) | (apply nthK_intro; (· (first | ((with_reducible first | refine nIN ?_ | refine nI ?_ | refine nSN ?_ | refine nS ?_ | refine nBN ?_ | refine nB ?_); (first | omega | (simp; omega))) | rfl)); conv => whnf) | (apply getK_intro; (· rfl); conv => whnf) | (apply eqK_intro; (· (first | (with_reducible first | exact lI _ | exact lS _ | exact lB _ | exact uI | exact uS | exact uIS | exact uSS | exact rIN _ _ | exact rI _ _ | exact tIN | exact tI | exact tBN | exact tB | exact uB | exact rBN _ _) | rfl)); conv => whnf) | ((first | apply apI | apply apS); (· first | rfl | (simp; done)); (· (first | omega | (simp; omega))); conv => whnf) | (refine fkI (fun hm => ?_) (fun _ v hm => ?_) <;> conv => whnf) | (apply msI; conv => whnf)  | (refine bcase_intro (fun hc => ?_) (fun hc => ?_) <;> conv => whnf))
            exact again.mk ⟨_, by omega, i + 1, _, _, _, _, _, rfl, by omega, rfl, by omega, rfl, rfl, by rw [kept_succ, if_neg (by rw [List.length_map]; simpa using hb), List.append_nil, hout]⟩
          · (conv => whnf); repeat' (first | (refine need.mk ?_ ?_; (· (first | with_reducible rfl | omega | rfl | decide | trivial | exact ⟨rfl, rfl, by omega, by omega⟩ | exact ⟨by omega, by omega, roomy_of (by omega)⟩ | (refine ⟨rfl, rfl, ?_⟩; first | ((first | rw [lI] | rw [lS] | rw [lB]); omega) | (simp; done) | (simp; omega)) | (refine ⟨rfl, ?_⟩; first | ((first | rw [lI] | rw [lS] | rw [lB]); omega) | (simp; done) | (simp; omega)) | fail)); conv => whnf) | (refine pcase.mk (fun hc => ?_) (fun hc => ?_) <;> (try rw [List.length_nil] at hc) <;> first | (exfalso; omega) | (exact absurd rfl hc) | conv => whnf) | (apply wrapK_intro; (· exact wrap_i64 (by omega) (by omega)); conv => whnf) | (apply nthK_intro; (· (first | ((with_reducible first | refine nIN ?_ | refine nI ?_ | refine nSN ?_ | refine nS ?_ | refine nBN ?_ | refine nB ?_); (first | omega | (simp; omega))) | rfl)); conv => whnf) | (apply getK_intro; (· rfl); conv => whnf) | (apply eqK_intro; (· (first | (with_reducible first | exact lI _ | exact lS _ | exact lB _ | exact uI | exact uS | exact uIS | exact uSS | exact rIN _ _ | exact rI _ _ | exact tIN | exact tI | exact tBN | exact tB | exact uB | exact rBN _ _) | rfl)); conv => whnf) | ((first | apply apI | apply apS); (· first | rfl | (simp; done)); (· (first | omega | (simp; omega))); conv => whnf) | (refine fkI (fun hm => ?_) (fun _ v hm => ?_) <;> conv => whnf) | (apply msI; conv => whnf)  | (refine bcase_intro (fun hc => ?_) (fun hc => ?_) <;> conv => whnf))
            exact again.mk ⟨_, by omega, i + 1, _, _, _, _, _, rfl, by omega, by simp, by omega, rfl, rfl, by rw [kept_succ, if_pos (by rw [List.length_map]; simpa using hb), List.map_append, hout, hkn]; rfl⟩
    · (conv => whnf); repeat' (first | (refine need.mk ?_ ?_; (· (first | with_reducible rfl | omega | rfl | decide | trivial | exact ⟨rfl, rfl, by omega, by omega⟩ | exact ⟨by omega, by omega, roomy_of (by omega)⟩ | (refine ⟨rfl, rfl, ?_⟩; first | ((first | rw [lI] | rw [lS] | rw [lB]); omega) | (simp; done) | (simp; omega)) | (refine ⟨rfl, ?_⟩; first | ((first | rw [lI] | rw [lS] | rw [lB]); omega) | (simp; done) | (simp; omega)) | fail)); conv => whnf) | (refine pcase.mk (fun hc => ?_) (fun hc => ?_) <;> (try rw [List.length_nil] at hc) <;> first | (exfalso; omega) | (exact absurd rfl hc) | conv => whnf) | (apply wrapK_intro; (· exact wrap_i64 (by omega) (by omega)); conv => whnf) | (apply nthK_intro; (· (first | ((with_reducible first | refine nIN ?_ | refine nI ?_ | refine nSN ?_ | refine nS ?_ | refine nBN ?_ | refine nB ?_); (first | omega | (simp; omega))) | rfl)); conv => whnf) | (apply getK_intro; (· rfl); conv => whnf) | (apply eqK_intro; (· (first | (with_reducible first | exact lI _ | exact lS _ | exact lB _ | exact uI | exact uS | exact uIS | exact uSS | exact rIN _ _ | exact rI _ _ | exact tIN | exact tI | exact tBN | exact tB | exact uB | exact rBN _ _) | rfl)); conv => whnf) | ((first | apply apI | apply apS); (· first | rfl | (simp; done)); (· (first | omega | (simp; omega))); conv => whnf) | (refine fkI (fun hm => ?_) (fun _ v hm => ?_) <;> conv => whnf) | (apply msI; conv => whnf)  | (refine bcase_intro (fun hc => ?_) (fun hc => ?_) <;> conv => whnf))
      obtain rfl : i = kk.length := by omega
      refine ⟨nn', out, rfl, ?_⟩
      rw [hout, hkk, hkl, rnd, List.length_map]

end AI
end Go.Proofs.Ytocgbgffpdphdaa
