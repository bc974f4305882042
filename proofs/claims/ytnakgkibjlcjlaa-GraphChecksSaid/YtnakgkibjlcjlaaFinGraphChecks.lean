/- The law 'GraphChecks' answers true for every input: the statement, from the law about the evaluator. No conditions. -/
import Derived.Test.YtnakgkibjlcjlaaRows
import Derived.Test.YtnakgkibjlcjlaaGcLaw
namespace Go.Proofs.Ytnakgkibjlcjlaa
namespace FinGraphChecks
open Go.ChangeShapes Go.WideShapes Go.ChangeAt Go.RowKit AI

theorem own : ownKnob Try.prog.godebug = none := by kernel_rfl
theorem laidOut : laidOutB Try.prog = true := by kernel_rfl

set_option maxRecDepth 100000 in
theorem lifted (os : Os) (started : os.Started) (H : Type) (enc : TypeId × Value → H) :
    ReturnsInHanded {} Try.checked os 6 .any (Rows.graphChecksSpec.pre6 enc Try.prog Try.f6 Rows.graphChecksRow.domain false) (Rows.graphChecksSpec.post enc Try.prog Try.f6 false true false false) := by
  refine returnsInHanded_of_change (C := Try.checked) own started (by kernel_rfl) Try.func6
    (ChangeSpec.witness6 (enc := enc) (C := Try.checked) false ⟨#[], #[.agg #[.slice none 0 0, .slice none 0 0, .int .i64 0, .int .i64 0]], []⟩ 8 (by kernel_rfl) (by kernel_rfl) (by kernel_rfl) (by kernel_rfl)) ?_
  intro W base args ds gs before hval hW _ _
  exact law_calls (P := Try.prog) (fun n => run_ok n) [25, 22, 39, 23, 44, 37, 86, 56, 54, 27, 9, 3] (by kernel_rfl) Rows.graphChecksSpec rfl (fun ds hds => by
      match ds, hds with
      | [_], _ => rfl) (tb := 4) (by kernel_rfl) (by kernel_rfl) laidOut (of_decide_eq_true (by kernel_rfl)) (of_decide_eq_true (by kernel_rfl)) hval hW (fun xs h => law_checks xs (by rw [Try.params6] at h; exact h))

theorem over : Rows.graphChecksRow.holds Try.pinned (OpenSpec.ofChange Rows.graphChecksSpec) :=
  OpenClaim.holds_of_wide 6 Try.f6 rfl rfl rfl rfl rfl rfl rfl ⟨rfl, rfl, rfl, rfl, rfl⟩ rfl rfl rfl rfl rfl (by kernel_rfl) Try.func6 (by kernel_rfl)
    (of_decide_eq_true (by kernel_rfl)) (by unfold Func.isWrapper; first | (rw [if_pos (by decide +kernel)]; kernel_rfl) | (rw [if_neg (by decide +kernel)]; exact ⟨rfl, rfl⟩))
    (fun os started H enc _ => lifted os started H enc)

/-- ████ THE STATEMENT ████ -/
theorem proved : Rows.GraphChecksSaid := over
#print axioms proved
end FinGraphChecks
end Go.Proofs.Ytnakgkibjlcjlaa
