/- Sorting (slices.SortFunc[[]int,int]), leaving out what repeats (none). Sequences sorted: the program's and the reference's; their products. degree.Pair. -/
import Derived.Test.YtokdbmakkoleiaaGreatPfD
import Derived.Test.YtokdbmakkoleiaaGreatPd2
import Derived.Test.YtokdbmakkoleiaaGreatDsA
import Derived.Test.YtokdbmakkoleiaaGreatDsR

set_option linter.unusedVariables false
namespace Go.Proofs.YtokdbmakkoleiaaGreat
namespace AI
open Go.Sort

theorem pfsort  {g len c : Nat} {nn cl : Bool} {L : List Int} (hl : L.length = len) (hs : len < 2^61) :
    Calls1 (findFn tab) 46 [.own 0 g 0 len, .fn 47 []] ⟨[.arr g 1 nn cl (vs (.int .i64) L)], c⟩ fun out s' => ∃ c' W, out = .ok (.tup []) ∧ s' = ⟨[.arr g 1 nn cl (vs (.int .i64) W)], c'⟩ ∧ W.Perm L ∧ W.Pairwise (fun x y => ltF y x = false) := by
  have hb : bitsLen len ≤ 62 := (bitsLen_le_iff len 62).2 (by omega)
  refine calls1_of rfl rfl ?_
  (conv => whnf); repeat' (first | (refine wrapN len rfl rfl (by show _ < 2^64; omega) ?_; conv => whnf) | (refine callK_of (bitsLenP (n := len) (by omega)) ?_; rintro _ rfl; conv => whnf) | ((with_reducible show need _ _); refine needA ?_; conv => whnf) | ((with_reducible show wrapK _ _ _); refine wrapA ?_; conv => whnf) | ((with_reducible show nthK _ _ _); refine nthA ?_; conv => whnf) | ((with_reducible show getK _ _); refine getA ?_; conv => whnf) | ((with_reducible show eqK _ _); refine eqA ?_; conv => whnf) | (refine pcase.mk (fun hc => ?_) (fun hc => ?_) <;> (try rw [List.length_nil] at hc) <;> first | (exfalso; omega) | (exact absurd rfl hc) | conv => whnf) | (refine bcase_intro (fun hc => ?_) (fun hc => ?_) <;> conv => whnf))
  refine (pfsortQ hl hs (by omega) (by omega)).mono ?_
  rintro _ _ ⟨c', W, rfl, rfl, h1, h2⟩
  conv => whnf
  apply getK_intro rfl
  (conv => whnf); repeat' (first  | ((with_reducible show need _ _); refine needA ?_; conv => whnf) | ((with_reducible show wrapK _ _ _); refine wrapA ?_; conv => whnf) | ((with_reducible show nthK _ _ _); refine nthA ?_; conv => whnf) | ((with_reducible show getK _ _); refine getA ?_; conv => whnf) | ((with_reducible show eqK _ _); refine eqA ?_; conv => whnf) | (refine pcase.mk (fun hc => ?_) (fun hc => ?_) <;> (try rw [List.length_nil] at hc) <;> first | (exfalso; omega) | (exact absurd rfl hc) | conv => whnf) | (refine bcase_intro (fun hc => ?_) (fun hc => ?_) <;> conv => whnf))
  exact ⟨_, W, rfl, rfl, h1, h2⟩

end AI
end Go.Proofs.YtokdbmakkoleiaaGreat

set_option linter.unusedVariables false
namespace Go.Proofs.YtokdbmakkoleiaaGreat
namespace AI


theorem perm_m0 {l W : List Int} (h : W.Perm l) : (W.map m0).Perm (l.map m0) := h.map m0

theorem desc_of {W : List Int} (h : W.Pairwise (fun x y => ltF y x = false)) : desc W := List.Pairwise.imp (fun h => by have := ltF_no.1 h; omega) h

theorem cloneC {l : List Int} (hl : l.length < 2^40) : Calls1 (findFn tab) 53 [.sl true (vi l)] ⟨[], 0⟩ fun out s' => ∃ o g, out = .ok (.own o g 0 (vi l).length) ∧ nth s'.σ o = some (.arr g 1 true true (vi l)) := by
  refine calls1_of rfl rfl ?_
  (conv => whnf); repeat' (first | (refine apVt (l := []) (l' := l) rfl cellsI rfl (by simp; omega) ?_; conv => whnf) | ((with_reducible show need _ _); refine needA ?_; conv => whnf) | ((with_reducible show wrapK _ _ _); refine wrapA ?_; conv => whnf) | ((with_reducible show nthK _ _ _); refine nthA ?_; conv => whnf) | ((with_reducible show getK _ _); refine getA ?_; conv => whnf) | ((with_reducible show eqK _ _); refine eqA ?_; conv => whnf) | (refine pcase.mk (fun hc => ?_) (fun hc => ?_) <;> (try rw [List.length_nil] at hc) <;> first | (exfalso; omega) | (exact absurd rfl hc) | conv => whnf) | (refine bcase_intro (fun hc => ?_) (fun hc => ?_) <;> conv => whnf))
  refine ⟨0, _, ?_, rfl⟩
  rw [lV]
  simp
  rfl

theorem cloneN : Calls1 (findFn tab) 53 [.sl false []] ⟨[], 0⟩ fun out s' => out = .ok (.sl false []) := by
  refine calls1_of rfl rfl ?_
  (conv => whnf); repeat' (first  | ((with_reducible show need _ _); refine needA ?_; conv => whnf) | ((with_reducible show wrapK _ _ _); refine wrapA ?_; conv => whnf) | ((with_reducible show nthK _ _ _); refine nthA ?_; conv => whnf) | ((with_reducible show getK _ _); refine getA ?_; conv => whnf) | ((with_reducible show eqK _ _); refine eqA ?_; conv => whnf) | (refine pcase.mk (fun hc => ?_) (fun hc => ?_) <;> (try rw [List.length_nil] at hc) <;> first | (exfalso; omega) | (exact absurd rfl hc) | conv => whnf) | (refine bcase_intro (fun hc => ?_) (fun hc => ?_) <;> conv => whnf))
  rfl

/-- negative ones replaced -/
theorem m0L {l : List Int} (hl : l.length < 2^40) {b : Bool} {g c n : Nat} (hn : n = l.length) {Q : AExit → Env → Sto → Prop}
    (hQ : ∀ c' tl, Q (.exit 0) ([(3, .own 0 g 0 n)] ++ tl) ⟨[.arr g 1 b true (vi (l.map m0))], c'⟩) :
    Run (findFn tab) (.loop l36_0_h l36_0_b) [(3, .own 0 g 0 n), (8, .own 0 g 0 n), (9, .int .i64 n), (10, .int .i64 0)] ⟨[.arr g 1 b true (vi l)], c⟩ Q := by
  refine loop_inv (fun m env s => ∃ (i c : Nat) (E : List Int), m = n - i ∧ i ≤ n ∧ E = (l.map m0).take i ++ l.drop i ∧ env = [(3, .own 0 g 0 n), (8, .own 0 g 0 n), (9, .int .i64 n), (10, .int .i64 i)] ∧ s = ⟨[.arr g 1 b true (vi E)], c⟩) ?_ _ _ _ ⟨0, c, l, rfl, by omega, by simp, rfl, rfl⟩
  rintro _ _ _ ⟨i, c, E, rfl, hi, hE, rfl, rfl⟩
  refine ⟨rfl, ?_⟩
  have hEl : E.length = n := by rw [hE]; simp; omega
  by_cases hlt : i < n
  · have hx : E[i] = l[i] := by
      simp only [hE]
      rw [List.getElem_append_right (by simp; omega)]
      simp [Nat.min_eq_left (show i ≤ l.length by omega)]
    have e2 : ∀ F : List Int, F = (l.map m0).take i ++ l.drop i → F.set i (m0 (l[i]'(by omega))) = (l.map m0).take (i + 1) ++ l.drop (i + 1) := by
      rintro _ rfl
      rw [List.drop_eq_getElem_cons (by omega : i < l.length), List.set_append_right _ _ (by simp; omega), show i - (List.take i (l.map m0)).length = 0 by simp; omega, List.set_cons_zero, List.take_succ_eq_append_getElem (by simp; omega), List.getElem_map, List.append_assoc]
      rfl
    (conv => whnf); repeat' (first | ((with_reducible show eqK _ _); refine tV cellsI (i) ?_; conv => whnf) | ((with_reducible show need _ _); refine needA ?_; conv => whnf) | ((with_reducible show wrapK _ _ _); refine wrapA ?_; conv => whnf) | ((with_reducible show nthK _ _ _); refine nthA ?_; conv => whnf) | ((with_reducible show getK _ _); refine getA ?_; conv => whnf) | ((with_reducible show eqK _ _); refine eqA ?_; conv => whnf) | (refine pcase.mk (fun hc => ?_) (fun hc => ?_) <;> (try rw [List.length_nil] at hc) <;> first | (exfalso; omega) | (exact absurd rfl hc) | conv => whnf) | (refine bcase_intro (fun hc => ?_) (fun hc => ?_) <;> conv => whnf))
    refine again.mk ⟨_, by omega, i + 1, _, _, rfl, by omega, ?_, rfl, rfl⟩
    rw [hx]
    exact e2 E hE
  · obtain rfl : i = n := by omega
    have hE' : E = l.map m0 := by rw [hE, List.take_of_length_le (by simp; omega), List.drop_eq_nil_of_le (by omega), List.append_nil]
    subst hE'
    (conv => whnf); repeat' (first  | ((with_reducible show need _ _); refine needA ?_; conv => whnf) | ((with_reducible show wrapK _ _ _); refine wrapA ?_; conv => whnf) | ((with_reducible show nthK _ _ _); refine nthA ?_; conv => whnf) | ((with_reducible show getK _ _); refine getA ?_; conv => whnf) | ((with_reducible show eqK _ _); refine eqA ?_; conv => whnf) | (refine pcase.mk (fun hc => ?_) (fun hc => ?_) <;> (try rw [List.length_nil] at hc) <;> first | (exfalso; omega) | (exact absurd rfl hc) | conv => whnf) | (refine bcase_intro (fun hc => ?_) (fun hc => ?_) <;> conv => whnf))
    exact hQ _ _

theorem sortedP {l : List Int} (hl : l.length < 2^40) {nn : Bool} (h0 : nn = false → l = []) : PureP (findFn tab) 36 [.sl nn (vi l)] (fun v => ∃ b W, v = .sl b (vi W) ∧ desc W ∧ W.Perm (l.map m0)) := by
  have key : ∀ (g c n : Nat) (b : Bool), n = l.length → Run (findFn tab) (.loop l36_0_h l36_0_b) [(3, .own 0 g 0 n), (8, .own 0 g 0 n), (9, .int .i64 n), (10, .int .i64 0)] ⟨[.arr g 1 b true (vi l)], c⟩ (vBlk 0 (vSeq (fun env s => vC (findFn tab) (match c36 with | .seq _ (.seq _ (.seq _ t)) => t | c => c) env s (vRes a36 (vPureP fun v => ∃ b W, v = .sl b (vi W) ∧ desc W ∧ W.Perm (l.map m0)))) (vRes a36 (vPureP fun v => ∃ b W, v = .sl b (vi W) ∧ desc W ∧ W.Perm (l.map m0))))) := by
    intro g c n b hn
    refine m0L hl hn ?_
    intro c' tl
    (conv => whnf); repeat' (first  | ((with_reducible show need _ _); refine needA ?_; conv => whnf) | ((with_reducible show wrapK _ _ _); refine wrapA ?_; conv => whnf) | ((with_reducible show nthK _ _ _); refine nthA ?_; conv => whnf) | ((with_reducible show getK _ _); refine getA ?_; conv => whnf) | ((with_reducible show eqK _ _); refine eqA ?_; conv => whnf) | (refine pcase.mk (fun hc => ?_) (fun hc => ?_) <;> (try rw [List.length_nil] at hc) <;> first | (exfalso; omega) | (exact absurd rfl hc) | conv => whnf) | (refine bcase_intro (fun hc => ?_) (fun hc => ?_) <;> conv => whnf))
    refine (pfsort (L := l.map m0) (by simp; omega) (by omega)).mono ?_
    rintro _ _ ⟨c1, W, rfl, rfl, h1, h2⟩
    have hw : W.length = n := by have := h1.length_eq; simp at this; omega
    conv => whnf
    apply getK_intro rfl
    (conv => whnf); repeat' (first  | ((with_reducible show need _ _); refine needA ?_; conv => whnf) | ((with_reducible show wrapK _ _ _); refine wrapA ?_; conv => whnf) | ((with_reducible show nthK _ _ _); refine nthA ?_; conv => whnf) | ((with_reducible show getK _ _); refine getA ?_; conv => whnf) | ((with_reducible show eqK _ _); refine eqA ?_; conv => whnf) | (refine pcase.mk (fun hc => ?_) (fun hc => ?_) <;> (try rw [List.length_nil] at hc) <;> first | (exfalso; omega) | (exact absurd rfl hc) | conv => whnf) | (refine bcase_intro (fun hc => ?_) (fun hc => ?_) <;> conv => whnf))
    refine ⟨b, W, ?_, desc_of h2, h1⟩
    rw [sub_vs, List.drop_zero, List.take_of_length_le (by omega)]
  cases nn with
  | false =>
    obtain rfl := h0 rfl
    refine pureP_of rfl rfl ?_
    (conv => whnf); repeat' (first  | ((with_reducible show need _ _); refine needA ?_; conv => whnf) | ((with_reducible show wrapK _ _ _); refine wrapA ?_; conv => whnf) | ((with_reducible show nthK _ _ _); refine nthA ?_; conv => whnf) | ((with_reducible show getK _ _); refine getA ?_; conv => whnf) | ((with_reducible show eqK _ _); refine eqA ?_; conv => whnf) | (refine pcase.mk (fun hc => ?_) (fun hc => ?_) <;> (try rw [List.length_nil] at hc) <;> first | (exfalso; omega) | (exact absurd rfl hc) | conv => whnf) | (refine bcase_intro (fun hc => ?_) (fun hc => ?_) <;> conv => whnf))
    refine ownK_nil rfl cloneN ?_
    (conv => whnf); repeat' (first  | ((with_reducible show need _ _); refine needA ?_; conv => whnf) | ((with_reducible show wrapK _ _ _); refine wrapA ?_; conv => whnf) | ((with_reducible show nthK _ _ _); refine nthA ?_; conv => whnf) | ((with_reducible show getK _ _); refine getA ?_; conv => whnf) | ((with_reducible show eqK _ _); refine eqA ?_; conv => whnf) | (refine pcase.mk (fun hc => ?_) (fun hc => ?_) <;> (try rw [List.length_nil] at hc) <;> first | (exfalso; omega) | (exact absurd rfl hc) | conv => whnf) | (refine bcase_intro (fun hc => ?_) (fun hc => ?_) <;> conv => whnf))
    exact key _ _ 0 false rfl
  | true =>
    refine pureP_of rfl rfl ?_
    (conv => whnf); repeat' (first  | ((with_reducible show need _ _); refine needA ?_; conv => whnf) | ((with_reducible show wrapK _ _ _); refine wrapA ?_; conv => whnf) | ((with_reducible show nthK _ _ _); refine nthA ?_; conv => whnf) | ((with_reducible show getK _ _); refine getA ?_; conv => whnf) | ((with_reducible show eqK _ _); refine eqA ?_; conv => whnf) | (refine pcase.mk (fun hc => ?_) (fun hc => ?_) <;> (try rw [List.length_nil] at hc) <;> first | (exfalso; omega) | (exact absurd rfl hc) | conv => whnf) | (refine bcase_intro (fun hc => ?_) (fun hc => ?_) <;> conv => whnf))
    refine ownK rfl (cloneC hl) ?_
    (conv => whnf); repeat' (first  | ((with_reducible show need _ _); refine needA ?_; conv => whnf) | ((with_reducible show wrapK _ _ _); refine wrapA ?_; conv => whnf) | ((with_reducible show nthK _ _ _); refine nthA ?_; conv => whnf) | ((with_reducible show getK _ _); refine getA ?_; conv => whnf) | ((with_reducible show eqK _ _); refine eqA ?_; conv => whnf) | (refine pcase.mk (fun hc => ?_) (fun hc => ?_) <;> (try rw [List.length_nil] at hc) <;> first | (exfalso; omega) | (exact absurd rfl hc) | conv => whnf) | (refine bcase_intro (fun hc => ?_) (fun hc => ?_) <;> conv => whnf))
    exact key _ _ _ true (by simp)

end AI
end Go.Proofs.YtokdbmakkoleiaaGreat

set_option linter.unusedVariables false
namespace Go.Proofs.YtokdbmakkoleiaaGreat
namespace AI

theorem getD_lt {X : List Int} {i : Nat} (h : i < X.length) : X.getD i 0 = X[i] := by rw [List.getD, List.getElem?_eq_getElem h]; rfl

theorem wrapM {x y : Int} {K : AV → Prop} (h : K (.int .i64 (w64 (x * y)))) : wrapK .i64 (x * y) K := wrapK_intro rfl h
theorem wrapS {x y : Int} {K : AV → Prop} (h : K (.int .i64 (w64 (x + w64 y)))) : wrapK .i64 (x + w64 y) K := wrapK_intro rfl h

theorem pairP {a b : List Int} (ha : a.length < 2^40) (hb : b.length < 2^40) {na nb : Bool} (h1 : na = false → a = []) (h2 : nb = false → b = []) : PureP (findFn tab) 17 [.sl na (vi a), .sl nb (vi b)] (fun v => ∃ X Y, desc X ∧ X.Perm (a.map m0) ∧ desc Y ∧ Y.Perm (b.map m0) ∧ v = .int .i64 (pairV X Y)) := by
  refine pureP_of rfl rfl ?_
  (conv => whnf); repeat' (first  | ((with_reducible show need _ _); refine needA ?_; conv => whnf) | ((with_reducible show wrapK _ _ _); refine wrapA ?_; conv => whnf) | ((with_reducible show nthK _ _ _); refine nthA ?_; conv => whnf) | ((with_reducible show getK _ _); refine getA ?_; conv => whnf) | ((with_reducible show eqK _ _); refine eqA ?_; conv => whnf) | (refine pcase.mk (fun hc => ?_) (fun hc => ?_) <;> (try rw [List.length_nil] at hc) <;> first | (exfalso; omega) | (exact absurd rfl hc) | conv => whnf) | (refine bcase_intro (fun hc => ?_) (fun hc => ?_) <;> conv => whnf))
  refine callK_of (sortedP ha h1) ?_
  rintro _ ⟨n1, X, rfl, x1, x2⟩
  (conv => whnf); repeat' (first  | ((with_reducible show need _ _); refine needA ?_; conv => whnf) | ((with_reducible show wrapK _ _ _); refine wrapA ?_; conv => whnf) | ((with_reducible show nthK _ _ _); refine nthA ?_; conv => whnf) | ((with_reducible show getK _ _); refine getA ?_; conv => whnf) | ((with_reducible show eqK _ _); refine eqA ?_; conv => whnf) | (refine pcase.mk (fun hc => ?_) (fun hc => ?_) <;> (try rw [List.length_nil] at hc) <;> first | (exfalso; omega) | (exact absurd rfl hc) | conv => whnf) | (refine bcase_intro (fun hc => ?_) (fun hc => ?_) <;> conv => whnf))
  refine callK_of (sortedP hb h2) ?_
  rintro _ ⟨n2, Y, rfl, y1, y2⟩
  have hX : X.length < 2^40 := by rw [x2.length_eq]; simpa using ha
  have hY : Y.length < 2^40 := by rw [y2.length_eq]; simpa using hb
  (conv => whnf); repeat' (first  | ((with_reducible show need _ _); refine needA ?_; conv => whnf) | ((with_reducible show wrapK _ _ _); refine wrapA ?_; conv => whnf) | ((with_reducible show nthK _ _ _); refine nthA ?_; conv => whnf) | ((with_reducible show getK _ _); refine getA ?_; conv => whnf) | ((with_reducible show eqK _ _); refine eqA ?_; conv => whnf) | (refine pcase.mk (fun hc => ?_) (fun hc => ?_) <;> (try rw [List.length_nil] at hc) <;> first | (exfalso; omega) | (exact absurd rfl hc) | conv => whnf) | (refine bcase_intro (fun hc => ?_) (fun hc => ?_) <;> conv => whnf))
  have hmin : (if (Y.length : Int) < X.length then (Y.length : Int) else X.length) = ((min X.length Y.length : Nat) : Int) := by split <;> omega
  rw [hmin]
  refine loop_inv (fun m env s => ∃ i : Nat, m = min X.length Y.length - i ∧ i ≤ min X.length Y.length ∧ env = [(5, .sl n1 (vi X)), (6, .sl n2 (vi Y)), (7, .int .i64 (pwN X Y i)), (17, .int .i64 (min X.length Y.length : Nat)), (18, .int .i64 i)] ∧ s = ⟨[], 0⟩) ?_ _ _ _ ⟨0, rfl, by omega, rfl, rfl⟩
  rintro _ _ _ ⟨i, rfl, hi, rfl, rfl⟩
  refine ⟨rfl, ?_⟩
  (conv => whnf); repeat' (first | (refine wrapM ?_; conv => whnf) | (refine wrapS ?_; conv => whnf) | ((with_reducible show need _ _); refine needA ?_; conv => whnf) | ((with_reducible show wrapK _ _ _); refine wrapA ?_; conv => whnf) | ((with_reducible show nthK _ _ _); refine nthA ?_; conv => whnf) | ((with_reducible show getK _ _); refine getA ?_; conv => whnf) | ((with_reducible show eqK _ _); refine eqA ?_; conv => whnf) | (refine pcase.mk (fun hc => ?_) (fun hc => ?_) <;> (try rw [List.length_nil] at hc) <;> first | (exfalso; omega) | (exact absurd rfl hc) | conv => whnf) | (refine bcase_intro (fun hc => ?_) (fun hc => ?_) <;> conv => whnf))
  · refine again.mk ⟨_, by omega, i + 1, rfl, by omega, ?_, rfl⟩
    rw [pwN, getD_lt (by omega), getD_lt (by omega)]
    rfl
  · obtain rfl : i = min X.length Y.length := by omega
    exact ⟨X, Y, x1, x2, y1, y2, rfl⟩

end AI
end Go.Proofs.YtokdbmakkoleiaaGreat
