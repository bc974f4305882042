/- Sequences sorted: the program's and the reference's; their products. -/
import Derived.Test.YtokdbmakkoleiaaDsA
import Derived.Test.YtokdbmakkoleiaaPfE
set_option linter.unusedVariables false
namespace Go.Proofs.Ytokdbmakkoleiaa
namespace AI

abbrev vi (l : List Int) : List AV := vs (.int .i64) l

theorem perm_m0 {l W : List Int} (h : W.Perm l) : (W.map m0).Perm (l.map m0) := h.map m0

theorem desc_of {W : List Int} (h : W.Pairwise (fun x y => ltF y x = false)) : desc W := List.Pairwise.imp (fun h => by have := ltF_no.1 h; omega) h

theorem cloneC {l : List Int} (hl : l.length < 2^40) : Calls1 (findFn tab) 32 [.sl true (vi l)] ⟨[], 0⟩ fun out s' => ∃ o g, out = .ok (.own o g 0 (vi l).length) ∧ nth s'.σ o = some (.arr g 1 true true (vi l)) := by
  refine calls1_of rfl rfl ?_
  (conv => whnf); repeat' (first | (refine apVt (l := []) (l' := l) rfl cellsI rfl (by simp; omega) ?_; conv => whnf) | ((with_reducible show need _ _); refine needA ?_; conv => whnf) | ((with_reducible show wrapK _ _ _); refine wrapA ?_; conv => whnf) | ((with_reducible show nthK _ _ _); refine nthA ?_; conv => whnf) | ((with_reducible show getK _ _); refine getA ?_; conv => whnf) | ((with_reducible show eqK _ _); refine eqA ?_; conv => whnf) | (refine pcase.mk (fun hc => ?_) (fun hc => ?_) <;> (try rw [List.length_nil] at hc) <;> first | (exfalso; omega) | (exact absurd rfl hc) | conv => whnf) | (refine bcase_intro (fun hc => ?_) (fun hc => ?_) <;> conv => whnf))
  refine ⟨0, _, ?_, rfl⟩
  rw [lV]
  simp
  rfl

theorem cloneN : Calls1 (findFn tab) 32 [.sl false []] ⟨[], 0⟩ fun out s' => out = .ok (.sl false []) := by
  refine calls1_of rfl rfl ?_
  (conv => whnf); repeat' (first  | ((with_reducible show need _ _); refine needA ?_; conv => whnf) | ((with_reducible show wrapK _ _ _); refine wrapA ?_; conv => whnf) | ((with_reducible show nthK _ _ _); refine nthA ?_; conv => whnf) | ((with_reducible show getK _ _); refine getA ?_; conv => whnf) | ((with_reducible show eqK _ _); refine eqA ?_; conv => whnf) | (refine pcase.mk (fun hc => ?_) (fun hc => ?_) <;> (try rw [List.length_nil] at hc) <;> first | (exfalso; omega) | (exact absurd rfl hc) | conv => whnf) | (refine bcase_intro (fun hc => ?_) (fun hc => ?_) <;> conv => whnf))
  rfl

/-- negative ones replaced -/
theorem m0L {l : List Int} (hl : l.length < 2^40) {b : Bool} {g c n : Nat} (hn : n = l.length) {Q : AExit → Env → Sto → Prop}
    (hQ : ∀ c' tl, Q (.exit 0) ([(3, .own 0 g 0 n)] ++ tl) ⟨[.arr g 1 b true (vi (l.map m0))], c'⟩) :
    Run (findFn tab) (.loop l25_0_h l25_0_b) [(3, .own 0 g 0 n), (8, .own 0 g 0 n), (9, .int .i64 n), (10, .int .i64 0)] ⟨[.arr g 1 b true (vi l)], c⟩ Q := by
  refine loop_inv (fun m env s => ∃ (i c : Nat) (E : List Int), m = n - i ∧ i ≤ n ∧ E = (l.map m0).take i ++ l.drop i ∧ env = [(3, .own 0 g 0 n), (8, .own 0 g 0 n), (9, .int .i64 n), (10, .int .i64 i)] ∧ s = ⟨[.arr g 1 b true (vi E)], c⟩) ?_ _ _ _ ⟨0, c, l, rfl, by omega, by simp, rfl, rfl⟩
  rintro _ _ _ ⟨i, c, E, rfl, hi, hE, rfl, rfl⟩
  refine ⟨rfl, ?_⟩
  have hEl : E.length = n := by rw [hE]; simp; omega
  by_cases hlt : i < n
  · have hx : E[i] = l[i] := by
      simp only [hE]
      rw [List.getElem_append_right (by simp; omega)]
      simp [Nat.min_eq_left (show i ≤ l.length by omega)]
    have e2 : ∀ F : List Int, F = (l.map m0).take i ++ l.drop i → F.set i (m0 (l[i]'(by omega))) = (l.map m0).take (i + 1) ++ l.drop (i + 1) := by
      rintro _ rfl
      rw [List.drop_eq_getElem_cons (by omega : i < l.length), List.set_append_right _ _ (by simp; omega), show i - (List.take i (l.map m0)).length = 0 by simp; omega, List.set_cons_zero, List.take_succ_eq_append_getElem (by simp; omega), List.getElem_map, List.append_assoc]
      rfl
    (conv => whnf); repeat' (first | ((with_reducible show eqK _ _); refine tV cellsI (i) ?_; conv => whnf) | ((with_reducible show need _ _); refine needA ?_; conv => whnf) | ((with_reducible show wrapK _ _ _); refine wrapA ?_; conv => whnf) | ((with_reducible show nthK _ _ _); refine nthA ?_; conv => whnf) | ((with_reducible show getK _ _); refine getA ?_; conv => whnf) | ((with_reducible show eqK _ _); refine eqA ?_; conv => whnf) | (refine pcase.mk (fun hc => ?_) (fun hc => ?_) <;> (try rw [List.length_nil] at hc) <;> first | (exfalso; omega) | (exact absurd rfl hc) | conv => whnf) | (refine bcase_intro (fun hc => ?_) (fun hc => ?_) <;> conv => whnf))
    refine again.mk ⟨_, by omega, i + 1, _, _, rfl, by omega, ?_, rfl, rfl⟩
    rw [hx]
    exact e2 E hE
  · obtain rfl : i = n := by omega
    have hE' : E = l.map m0 := by rw [hE, List.take_of_length_le (by simp; omega), List.drop_eq_nil_of_le (by omega), List.append_nil]
    subst hE'
    (conv => whnf); repeat' (first  | ((with_reducible show need _ _); refine needA ?_; conv => whnf) | ((with_reducible show wrapK _ _ _); refine wrapA ?_; conv => whnf) | ((with_reducible show nthK _ _ _); refine nthA ?_; conv => whnf) | ((with_reducible show getK _ _); refine getA ?_; conv => whnf) | ((with_reducible show eqK _ _); refine eqA ?_; conv => whnf) | (refine pcase.mk (fun hc => ?_) (fun hc => ?_) <;> (try rw [List.length_nil] at hc) <;> first | (exfalso; omega) | (exact absurd rfl hc) | conv => whnf) | (refine bcase_intro (fun hc => ?_) (fun hc => ?_) <;> conv => whnf))
    exact hQ _ _

theorem sortedP {l : List Int} (hl : l.length < 2^40) {nn : Bool} (h0 : nn = false → l = []) : PureP (findFn tab) 25 [.sl nn (vi l)] (fun v => ∃ b W, v = .sl b (vi W) ∧ desc W ∧ W.Perm (l.map m0)) := by
  have key : ∀ (g c n : Nat) (b : Bool), n = l.length → Run (findFn tab) (.loop l25_0_h l25_0_b) [(3, .own 0 g 0 n), (8, .own 0 g 0 n), (9, .int .i64 n), (10, .int .i64 0)] ⟨[.arr g 1 b true (vi l)], c⟩ (vBlk 0 (vSeq (fun env s => vC (findFn tab) (match c25 with | .seq _ (.seq _ (.seq _ t)) => t | c => c) env s (vRes a25 (vPureP fun v => ∃ b W, v = .sl b (vi W) ∧ desc W ∧ W.Perm (l.map m0)))) (vRes a25 (vPureP fun v => ∃ b W, v = .sl b (vi W) ∧ desc W ∧ W.Perm (l.map m0))))) := by
    intro g c n b hn
    refine m0L hl hn ?_
    intro c' tl
    (conv => whnf); repeat' (first  | ((with_reducible show need _ _); refine needA ?_; conv => whnf) | ((with_reducible show wrapK _ _ _); refine wrapA ?_; conv => whnf) | ((with_reducible show nthK _ _ _); refine nthA ?_; conv => whnf) | ((with_reducible show getK _ _); refine getA ?_; conv => whnf) | ((with_reducible show eqK _ _); refine eqA ?_; conv => whnf) | (refine pcase.mk (fun hc => ?_) (fun hc => ?_) <;> (try rw [List.length_nil] at hc) <;> first | (exfalso; omega) | (exact absurd rfl hc) | conv => whnf) | (refine bcase_intro (fun hc => ?_) (fun hc => ?_) <;> conv => whnf))
    refine (pfsort (L := l.map m0) (by simp; omega) (by omega)).mono ?_
    rintro _ _ ⟨c1, W, rfl, rfl, h1, h2⟩
    have hw : W.length = n := by have := h1.length_eq; simp at this; omega
    conv => whnf
    apply getK_intro rfl
    (conv => whnf); repeat' (first  | ((with_reducible show need _ _); refine needA ?_; conv => whnf) | ((with_reducible show wrapK _ _ _); refine wrapA ?_; conv => whnf) | ((with_reducible show nthK _ _ _); refine nthA ?_; conv => whnf) | ((with_reducible show getK _ _); refine getA ?_; conv => whnf) | ((with_reducible show eqK _ _); refine eqA ?_; conv => whnf) | (refine pcase.mk (fun hc => ?_) (fun hc => ?_) <;> (try rw [List.length_nil] at hc) <;> first | (exfalso; omega) | (exact absurd rfl hc) | conv => whnf) | (refine bcase_intro (fun hc => ?_) (fun hc => ?_) <;> conv => whnf))
    refine ⟨b, W, ?_, desc_of h2, h1⟩
    rw [sub_vs, List.drop_zero, List.take_of_length_le (by omega)]
  cases nn with
  | false =>
    obtain rfl := h0 rfl
    refine pureP_of rfl rfl ?_
    (conv => whnf); repeat' (first  | ((with_reducible show need _ _); refine needA ?_; conv => whnf) | ((with_reducible show wrapK _ _ _); refine wrapA ?_; conv => whnf) | ((with_reducible show nthK _ _ _); refine nthA ?_; conv => whnf) | ((with_reducible show getK _ _); refine getA ?_; conv => whnf) | ((with_reducible show eqK _ _); refine eqA ?_; conv => whnf) | (refine pcase.mk (fun hc => ?_) (fun hc => ?_) <;> (try rw [List.length_nil] at hc) <;> first | (exfalso; omega) | (exact absurd rfl hc) | conv => whnf) | (refine bcase_intro (fun hc => ?_) (fun hc => ?_) <;> conv => whnf))
    refine ownK_nil rfl cloneN ?_
    (conv => whnf); repeat' (first  | ((with_reducible show need _ _); refine needA ?_; conv => whnf) | ((with_reducible show wrapK _ _ _); refine wrapA ?_; conv => whnf) | ((with_reducible show nthK _ _ _); refine nthA ?_; conv => whnf) | ((with_reducible show getK _ _); refine getA ?_; conv => whnf) | ((with_reducible show eqK _ _); refine eqA ?_; conv => whnf) | (refine pcase.mk (fun hc => ?_) (fun hc => ?_) <;> (try rw [List.length_nil] at hc) <;> first | (exfalso; omega) | (exact absurd rfl hc) | conv => whnf) | (refine bcase_intro (fun hc => ?_) (fun hc => ?_) <;> conv => whnf))
    exact key _ _ 0 false rfl
  | true =>
    refine pureP_of rfl rfl ?_
    (conv => whnf); repeat' (first  | ((with_reducible show need _ _); refine needA ?_; conv => whnf) | ((with_reducible show wrapK _ _ _); refine wrapA ?_; conv => whnf) | ((with_reducible show nthK _ _ _); refine nthA ?_; conv => whnf) | ((with_reducible show getK _ _); refine getA ?_; conv => whnf) | ((with_reducible show eqK _ _); refine eqA ?_; conv => whnf) | (refine pcase.mk (fun hc => ?_) (fun hc => ?_) <;> (try rw [List.length_nil] at hc) <;> first | (exfalso; omega) | (exact absurd rfl hc) | conv => whnf) | (refine bcase_intro (fun hc => ?_) (fun hc => ?_) <;> conv => whnf))
    refine ownK rfl (cloneC hl) ?_
    (conv => whnf); repeat' (first  | ((with_reducible show need _ _); refine needA ?_; conv => whnf) | ((with_reducible show wrapK _ _ _); refine wrapA ?_; conv => whnf) | ((with_reducible show nthK _ _ _); refine nthA ?_; conv => whnf) | ((with_reducible show getK _ _); refine getA ?_; conv => whnf) | ((with_reducible show eqK _ _); refine eqA ?_; conv => whnf) | (refine pcase.mk (fun hc => ?_) (fun hc => ?_) <;> (try rw [List.length_nil] at hc) <;> first | (exfalso; omega) | (exact absurd rfl hc) | conv => whnf) | (refine bcase_intro (fun hc => ?_) (fun hc => ?_) <;> conv => whnf))
    exact key _ _ _ true (by simp)

end AI
end Go.Proofs.Ytokdbmakkoleiaa
