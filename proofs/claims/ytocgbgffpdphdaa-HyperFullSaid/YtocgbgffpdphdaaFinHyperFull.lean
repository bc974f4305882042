/- The law 'HyperFull' answers true for every input: the statement, from the law about the evaluator. No conditions. -/
import Derived.Test.YtocgbgffpdphdaaRows
import Derived.Test.YtocgbgffpdphdaaClose
import Derived.Test.YtocgbgffpdphdaaHyL5
set_option linter.unusedVariables false
namespace Go.Proofs.Ytocgbgffpdphdaa
namespace FinHyperFull
open Go.ChangeShapes Go.WideShapes Go.ChangeAt Go.RowKit AI

theorem own : ownKnob Try.prog.godebug = none := by kernel_rfl
theorem laidOut : laidOutB Try.prog = true := by kernel_rfl

set_option maxRecDepth 100000 in
theorem lifted (os : Os) (started : os.Started) (H : Type) (enc : TypeId × Value → H) :
    ReturnsInHanded {} Try.checked os 8 .any (Rows.hyperFullSpec.pre6 enc Try.prog Try.f8 Rows.hyperFullRow.domain false) (Rows.hyperFullSpec.post enc Try.prog Try.f8 false true false false) := by
  refine returnsInHanded_of_change (C := Try.checked) own started (by kernel_rfl) Try.func8
    (ChangeSpec.witness6 (enc := enc) (C := Try.checked) false ⟨#[], #[.agg #[.int .i64 0, .slice none 0 0]], []⟩ 8 (by kernel_rfl) (by kernel_rfl) (by kernel_rfl) (by kernel_rfl)) ?_
  intro W base args ds gs before hval hW _ _
  exact law_calls (P := Try.prog) (fun n => run_ok n) (d := 12) Rows.hyperFullSpec rfl (fun ds hds => by
      match ds, hds with
      | [_], _ => rfl) (tb := 4) (by kernel_rfl) (by kernel_rfl) laidOut (of_decide_eq_true (by kernel_rfl)) (of_decide_eq_true (by kernel_rfl)) hval hW (fun xs h => law8 xs (by rw [Try.params8] at h; exact h))

theorem over : Rows.hyperFullRow.holds Try.pinned (OpenSpec.ofChange Rows.hyperFullSpec) :=
  OpenClaim.holds_of_wide 8 Try.f8 rfl rfl rfl rfl rfl rfl rfl ⟨rfl, rfl, rfl, rfl, rfl⟩ rfl rfl rfl rfl rfl (by kernel_rfl) Try.func8 (by kernel_rfl)
    (of_decide_eq_true (by kernel_rfl)) (by unfold Func.isWrapper; first | (rw [if_pos (by decide +kernel)]; kernel_rfl) | (rw [if_neg (by decide +kernel)]; exact ⟨rfl, rfl⟩))
    (fun os started H enc _ => lifted os started H enc)

/-- ████ THE STATEMENT ████ -/
theorem proved : Rows.HyperFullSaid := over
#print axioms proved
end FinHyperFull
end Go.Proofs.Ytocgbgffpdphdaa
