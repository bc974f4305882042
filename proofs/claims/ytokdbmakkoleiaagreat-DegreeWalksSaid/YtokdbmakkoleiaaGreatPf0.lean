/- Sorting numbers in descending order: the order. -/
import Derived.Test.YtokdbmakkoleiaaGreatPd1
import Derived.Test.YtokdbmakkoleiaaGreatCmI
set_option linter.unusedVariables false
namespace Go.Proofs.YtokdbmakkoleiaaGreat
namespace AI
open Go.Sort

def ltF (x y : Int) : Bool := decide (cmpI y x < 0)
theorem ltF_iff {x y : Int} : ltF x y = true ↔ y < x := by unfold ltF; rw [decide_eq_true_eq, cmpI_neg]
theorem ltF_no {x y : Int} : ltF x y = false ↔ ¬ y < x := by rw [← ltF_iff]; simp
theorem ltF_swo : SWO ltF where
  irrefl x := ltF_no.2 (by omega)
  trans x y z h1 h2 := ltF_iff.2 (by have := ltF_iff.1 h1; have := ltF_iff.1 h2; omega)
  ntrans x y z h1 h2 := ltF_no.2 (by have := ltF_no.1 h1; have := ltF_no.1 h2; omega)

theorem cellsI (x : Int) : (AV.int .i64 x).cells.length = 1 := rfl

theorem fallP {x y : Int} : PureP (findFn tab) 47 [.int .i64 x, .int .i64 y] (· = .int .i64 (cmpI y x)) := by
  refine pureP_of rfl rfl ?_
  (conv => whnf); repeat' (first | (refine callK_of compare ?_; rintro _ rfl; conv => whnf) | ((with_reducible show need _ _); refine needA ?_; conv => whnf) | ((with_reducible show wrapK _ _ _); refine wrapA ?_; conv => whnf) | ((with_reducible show nthK _ _ _); refine nthA ?_; conv => whnf) | ((with_reducible show getK _ _); refine getA ?_; conv => whnf) | ((with_reducible show eqK _ _); refine eqA ?_; conv => whnf) | (refine pcase.mk (fun hc => ?_) (fun hc => ?_) <;> (try rw [List.length_nil] at hc) <;> first | (exfalso; omega) | (exact absurd rfl hc) | conv => whnf) | (refine bcase_intro (fun hc => ?_) (fun hc => ?_) <;> conv => whnf))
  rfl

theorem pcaseF {x y : Int} {A B : Prop} (h1 : ltF x y = true → A) (h2 : ltF x y = false → B) : pcase (cmpI y x < 0) A B :=
  ⟨fun h => h1 (decide_eq_true h), fun h => h2 (decide_eq_false h)⟩

attribute [irreducible] ltF

end AI
end Go.Proofs.YtokdbmakkoleiaaGreat
