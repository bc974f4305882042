/- What is wrong with labels and properties. -/
import Derived.Test.YtokdbmakkoleiaaGreatCk2
set_option linter.unusedVariables false
namespace Go.Proofs.YtokdbmakkoleiaaGreat
namespace AI

theorem apVS {g len : Nat} {nn cl : Bool} {l : List (List UInt8)} {x : List UInt8} {bytes : Nat} {K : Nat → Bool → Bool → List AV → Prop} (hl : len = l.length) (hr : (l.length + 1) * bytes ≤ 2 ^ 46) (h : K (len + 1) true cl (vs .str (l ++ [x]))) :
    appendK g g 1 1 len nn cl true (vs .str l) [.str x] bytes K := by
  subst hl
  refine ⟨⟨rfl, rfl, by simp, allSize_one rfl, hr⟩, ?_⟩
  rw [snoc_vs, Bool.and_true]
  simpa using h

def keysOf (P : List GP) : List (List UInt8) := P.map GP.key
@[simp] theorem keysOf_len (P : List GP) : (keysOf P).length = P.length := by simp [keysOf]
theorem keysOf_ln {P : List GP} (hp : ∀ p ∈ P, p.ok) : ∀ s ∈ keysOf P, s.length < 2^63 := by
  intro s h
  obtain ⟨p, h1, rfl⟩ := List.mem_map.1 h
  exact (hp p h1).1
theorem keysOf_snoc {P : List GP} {i : Nat} (h : i < P.length) : keysOf (P.take i) ++ [(P[i]).key] = keysOf (P.take (i + 1)) := by
  rw [List.take_succ_eq_append_getElem h]; unfold keysOf; rw [List.map_append]; rfl

/-- all may be stored -/
def allPlain (P : List GP) : Prop := ∀ p ∈ P, leafV p.v
noncomputable instance (P : List GP) : Decidable (allPlain P) := Classical.propDecidable _

noncomputable def partsE (L : List (List UInt8)) (P : List GP) : Int :=
  if 8 < L.length ∨ 16 < P.length then 4 else if ¬ (allNames L ∧ allNames (keysOf P)) then 6 else if ¬ (rises L ∧ rises (keysOf P)) then 26 else if ¬ allPlain P then 8 else 0

theorem parts_4 {L : List (List UInt8)} {P : List GP} (h : 8 < L.length ∨ 16 < P.length) : AV.int .i64 4 = AV.int .i64 (partsE L P) := by rw [partsE, if_pos h]
theorem parts_6 {L : List (List UInt8)} {P : List GP} (h : ¬ (8 < L.length ∨ 16 < P.length)) (h1 : ¬ (allNames L ∧ allNames (keysOf P))) : AV.int .i64 6 = AV.int .i64 (partsE L P) := by rw [partsE, if_neg h, if_pos h1]
theorem parts_26 {L : List (List UInt8)} {P : List GP} (h : ¬ (8 < L.length ∨ 16 < P.length)) (h1 : allNames L ∧ allNames (keysOf P)) (h2 : ¬ (rises L ∧ rises (keysOf P))) : AV.int .i64 26 = AV.int .i64 (partsE L P) := by rw [partsE, if_neg h, if_neg (not_not_intro h1), if_pos h2]
theorem parts_8 {L : List (List UInt8)} {P : List GP} (h : ¬ (8 < L.length ∨ 16 < P.length)) (h1 : allNames L ∧ allNames (keysOf P)) (h2 : rises L ∧ rises (keysOf P)) (h3 : ¬ allPlain P) : AV.int .i64 8 = AV.int .i64 (partsE L P) := by rw [partsE, if_neg h, if_neg (not_not_intro h1), if_neg (not_not_intro h2), if_pos h3]
theorem parts_0 {L : List (List UInt8)} {P : List GP} (h : ¬ (8 < L.length ∨ 16 < P.length)) (h1 : allNames L ∧ allNames (keysOf P)) (h2 : rises L ∧ rises (keysOf P)) (h3 : allPlain P) : AV.int .i64 0 = AV.int .i64 (partsE L P) := by rw [partsE, if_neg h, if_neg (not_not_intro h1), if_neg (not_not_intro h2), if_neg (not_not_intro h3)]

theorem parts1 {L : List (List UInt8)} {P : List GP} {ln pn : Bool} (hL : L.length < 2^63) (hs : ∀ s ∈ L, s.length < 2^63) (hP : P.length < 2^63) (hp : ∀ p ∈ P, p.ok) : PureP (findFn tab) 40 [.sl ln (vs .str L), .sl pn (vs GP.av P)] (· = .int .i64 (partsE L P)) := by
  have hk := keysOf_ln hp
  refine pureP_of rfl rfl ?_
  (conv => whnf); repeat' (first | (refine need.mk ?_ ?_; (· (first | with_reducible rfl | omega | rfl | decide | trivial | exact ⟨rfl, rfl, by omega, by omega⟩ | exact ⟨by omega, by omega, roomy_of (by omega)⟩ | (refine ⟨rfl, rfl, ?_⟩; first | ((first | rw [lI] | rw [lS] | rw [lB] | rw [lV]); omega) | (simp; done) | (simp; omega)) | (refine ⟨rfl, ?_⟩; first | ((first | rw [lI] | rw [lS] | rw [lB] | rw [lV]); omega) | (simp; done) | (simp; omega)) | fail)); conv => whnf) | (refine pcase.mk (fun hc => ?_) (fun hc => ?_) <;> (try rw [List.length_nil] at hc) <;> first | (exfalso; omega) | (exact absurd rfl hc) | conv => whnf) | (apply wrapK_intro; (· exact wrap_i64 (by omega) (by omega)); conv => whnf) | (apply nthK_intro; (· (first | ((with_reducible first | refine nIN ?_ | refine nI ?_ | refine nSN ?_ | refine nS ?_ | refine nBN ?_ | refine nB ?_ | refine nYN ?_ | refine nY ?_ | refine nY0 ?_ | refine nVN ?_ | refine nV ?_); (first | omega | (simp; omega))) | rfl)); conv => whnf) | (apply getK_intro; (· rfl); conv => whnf) | (apply eqK_intro; (· (first | (with_reducible first | exact lI _ | exact lS _ | exact lB _ | exact uI | exact uS | exact uIS | exact uSS | exact rIN _ _ | exact rI _ _ | exact tIN | exact tI | exact tBN | exact tB | exact uB | exact rBN _ _ | exact lV _ | exact uV | exact uVS) | rfl)); conv => whnf) | ((first | apply apI | apply apS); (· first | rfl | (simp; done)); (· (first | omega | (simp; omega))); conv => whnf) | (refine fkI (fun hm => ?_) (fun _ v hm => ?_) <;> conv => whnf) | (apply msI; conv => whnf)  | (refine bcase_intro (fun hc => ?_) (fun hc => ?_) <;> conv => whnf))
  · exact parts_4 (by omega)
  · exact parts_4 (by omega)
  have h16 : ¬ (8 < L.length ∨ 16 < P.length) := by omega
  refine loop_inv (fun m env s => ∃ (i g : Nat), m = P.length - i ∧ i ≤ P.length ∧ env = [(0, .sl ln (vs .str L)), (1, .sl pn (vs GP.av P)), (5, .own 0 g 0 i), (18, .sl pn (vs GP.av P)), (19, .int .i64 P.length), (20, .int .i64 i)] ∧ ∃ nn c, s = ⟨[.arr g 1 nn true (vs .str (keysOf (P.take i)))], c⟩) ?_ _ _ _ ⟨0, 0, rfl, by omega, rfl, _, _, rfl⟩
  rintro _ _ _ ⟨i, g, rfl, hi, rfl, nn, c, rfl⟩
  refine ⟨rfl, ?_⟩
  (conv => whnf); repeat' (first | (refine need.mk ?_ ?_; (· (first | with_reducible rfl | omega | rfl | decide | trivial | exact ⟨rfl, rfl, by omega, by omega⟩ | exact ⟨by omega, by omega, roomy_of (by omega)⟩ | (refine ⟨rfl, rfl, ?_⟩; first | ((first | rw [lI] | rw [lS] | rw [lB] | rw [lV]); omega) | (simp; done) | (simp; omega)) | (refine ⟨rfl, ?_⟩; first | ((first | rw [lI] | rw [lS] | rw [lB] | rw [lV]); omega) | (simp; done) | (simp; omega)) | fail)); conv => whnf) | (refine pcase.mk (fun hc => ?_) (fun hc => ?_) <;> (try rw [List.length_nil] at hc) <;> first | (exfalso; omega) | (exact absurd rfl hc) | conv => whnf) | (apply wrapK_intro; (· exact wrap_i64 (by omega) (by omega)); conv => whnf) | (apply nthK_intro; (· (first | ((with_reducible first | refine nIN ?_ | refine nI ?_ | refine nSN ?_ | refine nS ?_ | refine nBN ?_ | refine nB ?_ | refine nYN ?_ | refine nY ?_ | refine nY0 ?_ | refine nVN ?_ | refine nV ?_); (first | omega | (simp; omega))) | rfl)); conv => whnf) | (apply getK_intro; (· rfl); conv => whnf) | (apply eqK_intro; (· (first | (with_reducible first | exact lI _ | exact lS _ | exact lB _ | exact uI | exact uS | exact uIS | exact uSS | exact rIN _ _ | exact rI _ _ | exact tIN | exact tI | exact tBN | exact tB | exact uB | exact rBN _ _ | exact lV _ | exact uV | exact uVS) | rfl)); conv => whnf) | ((first | apply apI | apply apS); (· first | rfl | (simp; done)); (· (first | omega | (simp; omega))); conv => whnf) | (refine fkI (fun hm => ?_) (fun _ v hm => ?_) <;> conv => whnf) | (apply msI; conv => whnf)  | (refine bcase_intro (fun hc => ?_) (fun hc => ?_) <;> conv => whnf))
  · refine apVS (by simp; omega) (by simp; omega) ?_
    (conv => whnf); repeat' (first | (refine need.mk ?_ ?_; (· (first | with_reducible rfl | omega | rfl | decide | trivial | exact ⟨rfl, rfl, by omega, by omega⟩ | exact ⟨by omega, by omega, roomy_of (by omega)⟩ | (refine ⟨rfl, rfl, ?_⟩; first | ((first | rw [lI] | rw [lS] | rw [lB] | rw [lV]); omega) | (simp; done) | (simp; omega)) | (refine ⟨rfl, ?_⟩; first | ((first | rw [lI] | rw [lS] | rw [lB] | rw [lV]); omega) | (simp; done) | (simp; omega)) | fail)); conv => whnf) | (refine pcase.mk (fun hc => ?_) (fun hc => ?_) <;> (try rw [List.length_nil] at hc) <;> first | (exfalso; omega) | (exact absurd rfl hc) | conv => whnf) | (apply wrapK_intro; (· exact wrap_i64 (by omega) (by omega)); conv => whnf) | (apply nthK_intro; (· (first | ((with_reducible first | refine nIN ?_ | refine nI ?_ | refine nSN ?_ | refine nS ?_ | refine nBN ?_ | refine nB ?_ | refine nYN ?_ | refine nY ?_ | refine nY0 ?_ | refine nVN ?_ | refine nV ?_); (first | omega | (simp; omega))) | rfl)); conv => whnf) | (apply getK_intro; (· rfl); conv => whnf) | (apply eqK_intro; (· (first | (with_reducible first | exact lI _ | exact lS _ | exact lB _ | exact uI | exact uS | exact uIS | exact uSS | exact rIN _ _ | exact rI _ _ | exact tIN | exact tI | exact tBN | exact tB | exact uB | exact rBN _ _ | exact lV _ | exact uV | exact uVS) | rfl)); conv => whnf) | ((first | apply apI | apply apS); (· first | rfl | (simp; done)); (· (first | omega | (simp; omega))); conv => whnf) | (refine fkI (fun hm => ?_) (fun _ v hm => ?_) <;> conv => whnf) | (apply msI; conv => whnf)  | (refine bcase_intro (fun hc => ?_) (fun hc => ?_) <;> conv => whnf))
    rw [keysOf_snoc (by omega)]
    exact again.mk ⟨_, by omega, i + 1, _, rfl, by omega, rfl, _, _, rfl⟩
  · rw [take_all hc]
    obtain rfl : i = P.length := by omega
    have hu : sub (vs AV.str (keysOf P)) 0 P.length = vs .str (keysOf P) := by rw [← keysOf_len P]; exact uV
    have hkl : (keysOf P).length < 2^63 := by rw [keysOf_len]; exact hP
    (conv => whnf); repeat' (first | (refine callB (contUn hL hs) (fun h1 => ?_) (fun h1 => ?_) <;> conv => whnf) | (rw [hu]; refine callB (contUn hkl hk) (fun h2 => ?_) (fun h2 => ?_) <;> conv => whnf) | (refine callB (rises1 hL) (fun h3 => ?_) (fun h3 => ?_) <;> conv => whnf) | (rw [hu]; refine callB (rises1 hkl) (fun h4 => ?_) (fun h4 => ?_) <;> conv => whnf) | (refine need.mk ?_ ?_; (· (first | with_reducible rfl | omega | rfl | decide | trivial | exact ⟨rfl, rfl, by omega, by omega⟩ | exact ⟨by omega, by omega, roomy_of (by omega)⟩ | (refine ⟨rfl, rfl, ?_⟩; first | ((first | rw [lI] | rw [lS] | rw [lB] | rw [lV]); omega) | (simp; done) | (simp; omega)) | (refine ⟨rfl, ?_⟩; first | ((first | rw [lI] | rw [lS] | rw [lB] | rw [lV]); omega) | (simp; done) | (simp; omega)) | fail)); conv => whnf) | (refine pcase.mk (fun hc => ?_) (fun hc => ?_) <;> (try rw [List.length_nil] at hc) <;> first | (exfalso; omega) | (exact absurd rfl hc) | conv => whnf) | (apply wrapK_intro; (· exact wrap_i64 (by omega) (by omega)); conv => whnf) | (apply nthK_intro; (· (first | ((with_reducible first | refine nIN ?_ | refine nI ?_ | refine nSN ?_ | refine nS ?_ | refine nBN ?_ | refine nB ?_ | refine nYN ?_ | refine nY ?_ | refine nY0 ?_ | refine nVN ?_ | refine nV ?_); (first | omega | (simp; omega))) | rfl)); conv => whnf) | (apply getK_intro; (· rfl); conv => whnf) | (apply eqK_intro; (· (first | (with_reducible first | exact lI _ | exact lS _ | exact lB _ | exact uI | exact uS | exact uIS | exact uSS | exact rIN _ _ | exact rI _ _ | exact tIN | exact tI | exact tBN | exact tB | exact uB | exact rBN _ _ | exact lV _ | exact uV | exact uVS) | rfl)); conv => whnf) | ((first | apply apI | apply apS); (· first | rfl | (simp; done)); (· (first | omega | (simp; omega))); conv => whnf) | (refine fkI (fun hm => ?_) (fun _ v hm => ?_) <;> conv => whnf) | (apply msI; conv => whnf) | (refine bcase_intro (fun hc => ?_) (fun hc => ?_) <;> conv => whnf))
    · exact parts_6 h16 fun h => h1 h.1
    · exact parts_6 h16 fun h => h2 h.2
    · refine loop_inv (fun m env s => ∃ (i : Nat), m = P.length - i ∧ env = [(44, .sl pn (vs GP.av P)), (45, .int .i64 P.length), (46, .int .i64 i)] ∧ (∃ c, s = ⟨[.arr g 1 nn true (vs .str (keysOf P))], c⟩) ∧ ∀ p ∈ P.take i, leafV p.v) ?_ _ _ _ ⟨0, rfl, rfl, ⟨_, rfl⟩, by simp⟩
      clear hc hi
      rintro _ _ _ ⟨i, rfl, rfl, ⟨c, rfl⟩, hx⟩
      refine ⟨rfl, ?_⟩
      (conv => whnf); repeat' (first | (refine callB (plain1 (v := (P[i]).v) (hp _ (List.getElem_mem (by omega))).2) (fun h5 => ?_) (fun h5 => ?_) <;> conv => whnf) | (refine need.mk ?_ ?_; (· (first | with_reducible rfl | omega | rfl | decide | trivial | exact ⟨rfl, rfl, by omega, by omega⟩ | exact ⟨by omega, by omega, roomy_of (by omega)⟩ | (refine ⟨rfl, rfl, ?_⟩; first | ((first | rw [lI] | rw [lS] | rw [lB] | rw [lV]); omega) | (simp; done) | (simp; omega)) | (refine ⟨rfl, ?_⟩; first | ((first | rw [lI] | rw [lS] | rw [lB] | rw [lV]); omega) | (simp; done) | (simp; omega)) | fail)); conv => whnf) | (refine pcase.mk (fun hc => ?_) (fun hc => ?_) <;> (try rw [List.length_nil] at hc) <;> first | (exfalso; omega) | (exact absurd rfl hc) | conv => whnf) | (apply wrapK_intro; (· exact wrap_i64 (by omega) (by omega)); conv => whnf) | (apply nthK_intro; (· (first | ((with_reducible first | refine nIN ?_ | refine nI ?_ | refine nSN ?_ | refine nS ?_ | refine nBN ?_ | refine nB ?_ | refine nYN ?_ | refine nY ?_ | refine nY0 ?_ | refine nVN ?_ | refine nV ?_); (first | omega | (simp; omega))) | rfl)); conv => whnf) | (apply getK_intro; (· rfl); conv => whnf) | (apply eqK_intro; (· (first | (with_reducible first | exact lI _ | exact lS _ | exact lB _ | exact uI | exact uS | exact uIS | exact uSS | exact rIN _ _ | exact rI _ _ | exact tIN | exact tI | exact tBN | exact tB | exact uB | exact rBN _ _ | exact lV _ | exact uV | exact uVS) | rfl)); conv => whnf) | ((first | apply apI | apply apS); (· first | rfl | (simp; done)); (· (first | omega | (simp; omega))); conv => whnf) | (refine fkI (fun hm => ?_) (fun _ v hm => ?_) <;> conv => whnf) | (apply msI; conv => whnf) | (refine bcase_intro (fun hc => ?_) (fun hc => ?_) <;> conv => whnf))
      · exact again.mk ⟨_, by omega, i + 1, rfl, rfl, ⟨_, rfl⟩, all_take_succ (by omega) hx h5⟩
      · exact parts_8 h16 ⟨Classical.not_not.1 h1, Classical.not_not.1 h2⟩ ⟨h3, h4⟩ fun h => h5 (h _ (List.getElem_mem _))
      · rw [take_all hc] at hx
        exact parts_0 h16 ⟨Classical.not_not.1 h1, Classical.not_not.1 h2⟩ ⟨h3, h4⟩ hx
    · exact parts_26 h16 ⟨Classical.not_not.1 h1, Classical.not_not.1 h2⟩ fun h => h4 h.2
    · exact parts_26 h16 ⟨Classical.not_not.1 h1, Classical.not_not.1 h2⟩ fun h => h3 h.1

attribute [irreducible] partsE

end AI
end Go.Proofs.YtokdbmakkoleiaaGreat
