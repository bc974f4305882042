/- Sorting (slices.SortFunc[[]int,int]), leaving out what repeats (none). -/
import Derived.Test.YtokdbmakkoleiaaPfD
import Derived.Test.YtokdbmakkoleiaaPd2
set_option linter.unusedVariables false
namespace Go.Proofs.Ytokdbmakkoleiaa
namespace AI
open Go.Sort

theorem pfsort  {g len c : Nat} {nn cl : Bool} {L : List Int} (hl : L.length = len) (hs : len < 2^61) :
    Calls1 (findFn tab) 33 [.own 0 g 0 len, .fn 34 []] ⟨[.arr g 1 nn cl (vs (.int .i64) L)], c⟩ fun out s' => ∃ c' W, out = .ok (.tup []) ∧ s' = ⟨[.arr g 1 nn cl (vs (.int .i64) W)], c'⟩ ∧ W.Perm L ∧ W.Pairwise (fun x y => ltF y x = false) := by
  have hb : bitsLen len ≤ 62 := (bitsLen_le_iff len 62).2 (by omega)
  refine calls1_of rfl rfl ?_
  (conv => whnf); repeat' (first | (refine wrapN len rfl rfl (by show _ < 2^64; omega) ?_; conv => whnf) | (refine callK_of (bitsLenP (n := len) (by omega)) ?_; rintro _ rfl; conv => whnf) | ((with_reducible show need _ _); refine needA ?_; conv => whnf) | ((with_reducible show wrapK _ _ _); refine wrapA ?_; conv => whnf) | ((with_reducible show nthK _ _ _); refine nthA ?_; conv => whnf) | ((with_reducible show getK _ _); refine getA ?_; conv => whnf) | ((with_reducible show eqK _ _); refine eqA ?_; conv => whnf) | (refine pcase.mk (fun hc => ?_) (fun hc => ?_) <;> (try rw [List.length_nil] at hc) <;> first | (exfalso; omega) | (exact absurd rfl hc) | conv => whnf) | (refine bcase_intro (fun hc => ?_) (fun hc => ?_) <;> conv => whnf))
  refine (pfsortQ hl hs (by omega) (by omega)).mono ?_
  rintro _ _ ⟨c', W, rfl, rfl, h1, h2⟩
  conv => whnf
  apply getK_intro rfl
  (conv => whnf); repeat' (first  | ((with_reducible show need _ _); refine needA ?_; conv => whnf) | ((with_reducible show wrapK _ _ _); refine wrapA ?_; conv => whnf) | ((with_reducible show nthK _ _ _); refine nthA ?_; conv => whnf) | ((with_reducible show getK _ _); refine getA ?_; conv => whnf) | ((with_reducible show eqK _ _); refine eqA ?_; conv => whnf) | (refine pcase.mk (fun hc => ?_) (fun hc => ?_) <;> (try rw [List.length_nil] at hc) <;> first | (exfalso; omega) | (exact absurd rfl hc) | conv => whnf) | (refine bcase_intro (fun hc => ?_) (fun hc => ?_) <;> conv => whnf))
  exact ⟨_, W, rfl, rfl, h1, h2⟩

end AI
end Go.Proofs.Ytokdbmakkoleiaa
