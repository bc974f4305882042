/- Comparing two numbers. -/
import Derived.Test.YtokdbmakkoleiaaGreatGrCode
import Derived.Test.YtokdbmakkoleiaaGreatVe
set_option linter.unusedVariables false
namespace Go.Proofs.YtokdbmakkoleiaaGreat
namespace AI

theorem nan {x : Int} : PureP (findFn tab) 73 [.int .i64 x] (· = .bool (decide False)) := by
  refine pureP_of rfl rfl ?_
  (conv => whnf); repeat' (first  | ((with_reducible show need _ _); refine needA ?_; conv => whnf) | ((with_reducible show wrapK _ _ _); refine wrapA ?_; conv => whnf) | ((with_reducible show nthK _ _ _); refine nthA ?_; conv => whnf) | ((with_reducible show getK _ _); refine getA ?_; conv => whnf) | ((with_reducible show eqK _ _); refine eqA ?_; conv => whnf) | (refine pcase.mk (fun hc => ?_) (fun hc => ?_) <;> (try rw [List.length_nil] at hc) <;> first | (exfalso; omega) | (exact absurd rfl hc) | conv => whnf) | (refine bcase_intro (fun hc => ?_) (fun hc => ?_) <;> conv => whnf))
  all_goals first | exact absurd rfl hc | rfl

/-- comparing two numbers -/
def cmpI (x y : Int) : Int := if x < y then -1 else if y < x then 1 else 0

theorem compare {x y : Int} : PureP (findFn tab) 60 [.int .i64 x, .int .i64 y] (· = .int .i64 (cmpI x y)) := by
  refine pureP_of rfl rfl ?_
  (conv => whnf); repeat' (first | (refine callB nan (fun hc => absurd hc id) (fun _ => ?_); conv => whnf) | ((with_reducible show need _ _); refine needA ?_; conv => whnf) | ((with_reducible show wrapK _ _ _); refine wrapA ?_; conv => whnf) | ((with_reducible show nthK _ _ _); refine nthA ?_; conv => whnf) | ((with_reducible show getK _ _); refine getA ?_; conv => whnf) | ((with_reducible show eqK _ _); refine eqA ?_; conv => whnf) | (refine pcase.mk (fun hc => ?_) (fun hc => ?_) <;> (try rw [List.length_nil] at hc) <;> first | (exfalso; omega) | (exact absurd rfl hc) | conv => whnf) | (refine bcase_intro (fun hc => ?_) (fun hc => ?_) <;> conv => whnf))
  all_goals unfold cmpI; first | (rw [if_pos (by omega)]; rfl) | (rw [if_neg (by omega), if_pos (by omega)]; rfl) | (rw [if_neg (by omega), if_neg (by omega)]; rfl)

theorem cmpI_neg {x y : Int} : cmpI x y < 0 ↔ x < y := by unfold cmpI; split <;> (try split) <;> omega
theorem cmpI_zero {x y : Int} : cmpI x y = 0 ↔ x = y := by unfold cmpI; split <;> (try split) <;> omega

end AI
end Go.Proofs.YtokdbmakkoleiaaGreat
