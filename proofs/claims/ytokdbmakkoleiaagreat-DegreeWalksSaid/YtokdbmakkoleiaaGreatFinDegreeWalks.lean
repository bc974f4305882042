/- The law 'DegreeWalks' answers true for every input: the statement, from the law about the evaluator. No conditions. -/
import Derived.Test.YtokdbmakkoleiaaGreatRows
import Derived.Test.YtokdbmakkoleiaaGreatDwAll
namespace Go.Proofs.YtokdbmakkoleiaaGreat
namespace FinDegreeWalks
open Go.ChangeShapes Go.WideShapes Go.ChangeAt Go.RowKit AI

theorem own : ownKnob Tryz.prog.godebug = none := by kernel_rfl
theorem laidOut : laidOutB Tryz.prog = true := by kernel_rfl

set_option maxRecDepth 100000 in
theorem lifted (os : Os) (started : os.Started) (H : Type) (enc : TypeId × Value → H) :
    ReturnsInHanded {} Tryz.checked os 5 .any (Rows.degreeWalksSpec.pre6 enc Tryz.prog Tryz.f5 Rows.degreeWalksRow.domain false) (Rows.degreeWalksSpec.post enc Tryz.prog Tryz.f5 false true false false) := by
  refine returnsInHanded_of_change (C := Tryz.checked) own started (by kernel_rfl) Tryz.func5
    (ChangeSpec.witness6 (enc := enc) (C := Tryz.checked) false ⟨#[], #[.agg #[.slice none 0 0, .slice none 0 0, .int .i64 0, .int .i64 0], .string ⟨#[]⟩, .string ⟨#[]⟩], []⟩ 8 (by kernel_rfl) (by kernel_rfl) (by kernel_rfl) (by kernel_rfl)) ?_
  intro W base args ds gs before hval hW _ _
  exact law_calls (P := Tryz.prog) (fun n => run_ok n) [25, 22, 56, 23, 48, 46, 83, 81, 79, 45, 9, 3] (by kernel_rfl) Rows.degreeWalksSpec rfl (fun ds hds => by
      match ds, hds with
      | [_, _, _], _ => rfl) (tb := 4) (by kernel_rfl) (by kernel_rfl) laidOut (of_decide_eq_true (by kernel_rfl)) (of_decide_eq_true (by kernel_rfl)) hval hW (fun xs h => law_walks xs (by rw [Tryz.params5] at h; exact h))

theorem over : Rows.degreeWalksRow.holds Tryz.pinned (OpenSpec.ofChange Rows.degreeWalksSpec) :=
  OpenClaim.holds_of_wide 5 Tryz.f5 rfl rfl rfl rfl rfl rfl rfl ⟨rfl, rfl, rfl, rfl, rfl⟩ rfl rfl rfl rfl rfl (by kernel_rfl) Tryz.func5 (by kernel_rfl)
    (of_decide_eq_true (by kernel_rfl)) (by unfold Func.isWrapper; first | (rw [if_pos (by decide +kernel)]; kernel_rfl) | (rw [if_neg (by decide +kernel)]; exact ⟨rfl, rfl⟩))
    (fun os started H enc _ => lifted os started H enc)

/-- ████ THE STATEMENT ████ -/
theorem proved : Rows.DegreeWalksSaid := over
#print axioms proved
end FinDegreeWalks
end Go.Proofs.YtokdbmakkoleiaaGreat
