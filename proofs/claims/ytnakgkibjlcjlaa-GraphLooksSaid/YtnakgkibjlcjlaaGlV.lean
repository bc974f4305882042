/- The reference's order of values: a value is equal to itself. -/
import Derived.Test.YtnakgkibjlcjlaaGlU
set_option linter.unusedVariables false
namespace Go.Proofs.Ytnakgkibjlcjlaa
namespace AI

theorem lite_ok {d : Nat} {a : AV} (h : Lite d a) : ∃ g : GV, a = g.av ∧ g.ok ∧ g.l.length ≤ 2000 ∧ ∃ d', d = d' + 1 ∧ ∀ x ∈ g.l, Lite d' x := by
  cases d with
  | zero => cases h
  | succ d =>
    obtain ⟨g, e, h1, h2, h3, h4⟩ := h
    exact ⟨g, e, h1, h3, d, rfl, h4⟩

theorem lite_at {d : Nat} {l : List AV} (h : ∀ x ∈ l, Lite d x) (i : Nat) : ∃ g : GV, ∀ hi : i < l.length, nth l (Int.toNat (Nat.cast i)) = some g.av ∧ l[i] = g.av ∧ g.ok ∧ Lite d g.av := by
  by_cases hi : i < l.length
  · obtain ⟨g, e, hg, _⟩ := lite_ok (h _ (List.getElem_mem hi))
    exact ⟨g, fun _ => ⟨by rw [← e]; exact nR hi, e, hg, e ▸ h _ (List.getElem_mem hi)⟩⟩
  · exact ⟨⟨0, 0, 0, [], true, []⟩, fun h => absurd h hi⟩

theorem lists0 {d : Nat} {l : List AV} {nn : Bool} (hl : l.length < 2^63) (h : ∀ x ∈ l, Lite d x) (ih : ∀ {g : GV}, g.ok → Lite d g.av → PureP (findFn tab) 23 [g.av, g.av] (· = .int .i64 0)) :
    PureP (findFn tab) 77 [.sl nn l, .sl nn l] (· = .int .i64 0) := by
  refine pureP_of rfl rfl ?_
  (conv => whnf); repeat' (first | (refine need.mk ?_ ?_; (· (first | with_reducible rfl | omega | rfl | decide | trivial | exact ⟨rfl, rfl, by omega, by omega⟩ | exact ⟨by omega, by omega, roomy_of (by omega)⟩ | (refine ⟨rfl, rfl, ?_⟩; first | ((first | rw [lI] | rw [lS] | rw [lB] | rw [lV]); omega) | (simp; done) | (simp; omega)) | (refine ⟨rfl, ?_⟩; first | ((first | rw [lI] | rw [lS] | rw [lB] | rw [lV]); omega) | (simp; done) | (simp; omega)) | fail)); conv => whnf) | (refine pcase.mk (fun hc => ?_) (fun hc => ?_) <;> (try rw [List.length_nil] at hc) <;> first | (exfalso; omega) | (exact absurd rfl hc) | conv => whnf) | (apply wrapK_intro; (· exact wrap_i64 (by omega) (by omega)); conv => whnf) | (apply nthK_intro; (· (first | ((with_reducible first | refine nIN ?_ | refine nI ?_ | refine nSN ?_ | refine nS ?_ | refine nBN ?_ | refine nB ?_ | refine nYN ?_ | refine nY ?_ | refine nY0 ?_ | refine nVN ?_ | refine nV ?_); (first | omega | (simp; omega))) | rfl)); conv => whnf) | (apply getK_intro; (· rfl); conv => whnf) | (apply eqK_intro; (· (first | (with_reducible first | exact lI _ | exact lS _ | exact lB _ | exact uI | exact uS | exact uIS | exact uSS | exact rIN _ _ | exact rI _ _ | exact tIN | exact tI | exact tBN | exact tB | exact uB | exact rBN _ _ | exact lV _ | exact uV | exact uVS) | rfl)); conv => whnf) | ((first | apply apI | apply apS); (· first | rfl | (simp; done)); (· (first | omega | (simp; omega))); conv => whnf) | (refine fkI (fun hm => ?_) (fun _ v hm => ?_) <;> conv => whnf) | (apply msI; conv => whnf)  | (refine bcase_intro (fun hc => ?_) (fun hc => ?_) <;> conv => whnf))
  refine loop_inv (fun m env s => ∃ i : Nat, m = l.length - i ∧ env = [(0, .sl nn l), (1, .sl nn l), (5, .int .i64 i)] ∧ s = ⟨[], 0⟩) ?_ _ _ _ ⟨0, rfl, rfl, rfl⟩
  rintro _ _ _ ⟨i, rfl, rfl, rfl⟩
  refine ⟨rfl, ?_⟩
  obtain ⟨gx, hgx⟩ := lite_at h i
  (conv => whnf); repeat' (first | (refine need.mk ?_ ?_; (· (first | with_reducible rfl | omega | rfl | decide | trivial | exact ⟨rfl, rfl, by omega, by omega⟩ | exact ⟨by omega, by omega, roomy_of (by omega)⟩ | (refine ⟨rfl, rfl, ?_⟩; first | ((first | rw [lI] | rw [lS] | rw [lB] | rw [lV]); omega) | (simp; done) | (simp; omega)) | (refine ⟨rfl, ?_⟩; first | ((first | rw [lI] | rw [lS] | rw [lB] | rw [lV]); omega) | (simp; done) | (simp; omega)) | fail)); conv => whnf) | (refine pcase.mk (fun hc => ?_) (fun hc => ?_) <;> (try rw [List.length_nil] at hc) <;> first | (exfalso; omega) | (exact absurd rfl hc) | conv => whnf) | (apply wrapK_intro; (· exact wrap_i64 (by omega) (by omega)); conv => whnf) | (apply nthK_intro; (· (first | ((with_reducible first | refine nIN ?_ | refine nI ?_ | refine nSN ?_ | refine nS ?_ | refine nBN ?_ | refine nB ?_ | refine nYN ?_ | refine nY ?_ | refine nY0 ?_ | refine nVN ?_ | refine nV ?_); (first | omega | (simp; omega))) | rfl)); conv => whnf) | (apply getK_intro; (· rfl); conv => whnf) | (apply eqK_intro; (· (first | (with_reducible first | exact lI _ | exact lS _ | exact lB _ | exact uI | exact uS | exact uIS | exact uSS | exact rIN _ _ | exact rI _ _ | exact tIN | exact tI | exact tBN | exact tB | exact uB | exact rBN _ _ | exact lV _ | exact uV | exact uVS) | rfl)); conv => whnf) | ((first | apply apI | apply apS); (· first | rfl | (simp; done)); (· (first | omega | (simp; omega))); conv => whnf) | (refine fkI (fun hm => ?_) (fun _ v hm => ?_) <;> conv => whnf) | (apply msI; conv => whnf) | (apply nthK_intro; (· exact (hgx (by omega)).1); conv => whnf) | (refine callK_of (ih (g := gx) (hgx (by omega)).2.2.1 (hgx (by omega)).2.2.2) ?_; rintro _ rfl; conv => whnf) | (refine callK_of ints0 ?_; rintro _ rfl; conv => whnf) | (refine bcase_intro (fun hc => ?_) (fun hc => ?_) <;> conv => whnf))
  all_goals first | rfl | exact again.mk ⟨_, by omega, i + 1, rfl, rfl, rfl⟩

theorem fields0 {g : GV} (hl : PureP (findFn tab) 77 [.sl g.nn g.l, .sl g.nn g.l] (· = .int .i64 0)) : PureP (findFn tab) 51 [g.av, g.av] (· = .int .i64 0) := by
  refine pureP_of rfl rfl ?_
  (conv => whnf); repeat' (first | (refine need.mk ?_ ?_; (· (first | with_reducible rfl | omega | rfl | decide | trivial | exact ⟨rfl, rfl, by omega, by omega⟩ | exact ⟨by omega, by omega, roomy_of (by omega)⟩ | (refine ⟨rfl, rfl, ?_⟩; first | ((first | rw [lI] | rw [lS] | rw [lB] | rw [lV]); omega) | (simp; done) | (simp; omega)) | (refine ⟨rfl, ?_⟩; first | ((first | rw [lI] | rw [lS] | rw [lB] | rw [lV]); omega) | (simp; done) | (simp; omega)) | fail)); conv => whnf) | (refine pcase.mk (fun hc => ?_) (fun hc => ?_) <;> (try rw [List.length_nil] at hc) <;> first | (exfalso; omega) | (exact absurd rfl hc) | conv => whnf) | (apply wrapK_intro; (· exact wrap_i64 (by omega) (by omega)); conv => whnf) | (apply nthK_intro; (· (first | ((with_reducible first | refine nIN ?_ | refine nI ?_ | refine nSN ?_ | refine nS ?_ | refine nBN ?_ | refine nB ?_ | refine nYN ?_ | refine nY ?_ | refine nY0 ?_ | refine nVN ?_ | refine nV ?_); (first | omega | (simp; omega))) | rfl)); conv => whnf) | (apply getK_intro; (· rfl); conv => whnf) | (apply eqK_intro; (· (first | (with_reducible first | exact lI _ | exact lS _ | exact lB _ | exact uI | exact uS | exact uIS | exact uSS | exact rIN _ _ | exact rI _ _ | exact tIN | exact tI | exact tBN | exact tB | exact uB | exact rBN _ _ | exact lV _ | exact uV | exact uVS) | rfl)); conv => whnf) | ((first | apply apI | apply apS); (· first | rfl | (simp; done)); (· (first | omega | (simp; omega))); conv => whnf) | (refine fkI (fun hm => ?_) (fun _ v hm => ?_) <;> conv => whnf) | (apply msI; conv => whnf) | (refine callK_of ints0 ?_; rintro _ rfl; conv => whnf) | (refine callK_of strs0 ?_; rintro _ rfl; conv => whnf) | (refine callK_of hl ?_; rintro _ rfl; conv => whnf) | (refine bcase_intro (fun hc => ?_) (fun hc => ?_) <;> conv => whnf))
  all_goals rfl

theorem order1 {g : GV} (hg : g.ok) (hl : PureP (findFn tab) 77 [.sl g.nn g.l, .sl g.nn g.l] (· = .int .i64 0)) : PureP (findFn tab) 23 [g.av, g.av] (· = .int .i64 0) := by
  obtain ⟨_, ⟨b, rfl⟩, hV⟩ := (Valid hg).det
  obtain ⟨_, ⟨z, rfl⟩, hC⟩ := (classV (k := g.k)).det
  obtain ⟨_, ⟨n, d, b2, rfl⟩, hN⟩ := (number hg).det
  cases b <;> cases b2 <;> (
  refine pureP_of rfl rfl ?_
  (conv => whnf); repeat' (first | (refine need.mk ?_ ?_; (· (first | with_reducible rfl | omega | rfl | decide | trivial | exact ⟨rfl, rfl, by omega, by omega⟩ | exact ⟨by omega, by omega, roomy_of (by omega)⟩ | (refine ⟨rfl, rfl, ?_⟩; first | ((first | rw [lI] | rw [lS] | rw [lB] | rw [lV]); omega) | (simp; done) | (simp; omega)) | (refine ⟨rfl, ?_⟩; first | ((first | rw [lI] | rw [lS] | rw [lB] | rw [lV]); omega) | (simp; done) | (simp; omega)) | fail)); conv => whnf) | (refine pcase.mk (fun hc => ?_) (fun hc => ?_) <;> (try rw [List.length_nil] at hc) <;> first | (exfalso; omega) | (exact absurd rfl hc) | conv => whnf) | (apply wrapK_intro; (· exact wrap_i64 (by omega) (by omega)); conv => whnf) | (apply nthK_intro; (· (first | ((with_reducible first | refine nIN ?_ | refine nI ?_ | refine nSN ?_ | refine nS ?_ | refine nBN ?_ | refine nB ?_ | refine nYN ?_ | refine nY ?_ | refine nY0 ?_ | refine nVN ?_ | refine nV ?_); (first | omega | (simp; omega))) | rfl)); conv => whnf) | (apply getK_intro; (· rfl); conv => whnf) | (apply eqK_intro; (· (first | (with_reducible first | exact lI _ | exact lS _ | exact lB _ | exact uI | exact uS | exact uIS | exact uSS | exact rIN _ _ | exact rI _ _ | exact tIN | exact tI | exact tBN | exact tB | exact uB | exact rBN _ _ | exact lV _ | exact uV | exact uVS) | rfl)); conv => whnf) | ((first | apply apI | apply apS); (· first | rfl | (simp; done)); (· (first | omega | (simp; omega))); conv => whnf) | (refine fkI (fun hm => ?_) (fun _ v hm => ?_) <;> conv => whnf) | (apply msI; conv => whnf) | (refine callK_of hV ?_; rintro _ rfl; conv => whnf) | (refine callK_of hC ?_; rintro _ rfl; conv => whnf) | (refine callK_of hN ?_; rintro _ rfl; conv => whnf) | (refine callK_of ints0 ?_; rintro _ rfl; conv => whnf) | (refine callK_of (fields0 hl) ?_; rintro _ rfl; conv => whnf) | (refine callK_of (cmp0 (n := n) (d := d)) ?_; rintro _ rfl; conv => whnf) | (refine bcase_intro (fun hc => ?_) (fun hc => ?_) <;> conv => whnf))
  all_goals rfl)

/-- a value is equal to itself -/
theorem order0V : ∀ (d : Nat) {g : GV}, g.ok → Lite d g.av → PureP (findFn tab) 23 [g.av, g.av] (· = .int .i64 0)
  | 0, _, _, h => by cases h
  | d + 1, g, hg, h => by
    obtain ⟨g', e, h1, h2, d', e2, h3⟩ := lite_ok h
    obtain rfl : d = d' := by omega
    have : g.l = g'.l := by injection e with e; simp only [List.cons.injEq, AV.sl.injEq] at e; exact e.2.2.2.2.1.2
    exact order1 hg (lists0 (by rw [this]; omega) (by rw [this]; exact h3) (order0V d))

end AI
end Go.Proofs.Ytnakgkibjlcjlaa
