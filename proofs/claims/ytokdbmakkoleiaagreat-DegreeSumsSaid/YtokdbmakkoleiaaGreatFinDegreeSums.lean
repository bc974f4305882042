/- The law 'DegreeSums' answers true for every input: the statement, from the law about the evaluator. No conditions. -/
import Derived.Test.YtokdbmakkoleiaaGreatRows
import Derived.Test.YtokdbmakkoleiaaGreatSmLaw
namespace Go.Proofs.YtokdbmakkoleiaaGreat
namespace FinDegreeSums
open Go.ChangeShapes Go.WideShapes Go.ChangeAt Go.RowKit AI

theorem own : ownKnob Tryz.prog.godebug = none := by kernel_rfl
theorem laidOut : laidOutB Tryz.prog = true := by kernel_rfl

set_option maxRecDepth 100000 in
theorem lifted (os : Os) (started : os.Started) (H : Type) (enc : TypeId × Value → H) :
    ReturnsInHanded {} Tryz.checked os 4 .any (Rows.degreeSumsSpec.pre6 enc Tryz.prog Tryz.f4 Rows.degreeSumsRow.domain false) (Rows.degreeSumsSpec.post enc Tryz.prog Tryz.f4 false true false false) := by
  refine returnsInHanded_of_change (C := Tryz.checked) own started (by kernel_rfl) Tryz.func4
    (ChangeSpec.witness6 (enc := enc) (C := Tryz.checked) false ⟨#[], #[.agg #[.slice none 0 0, .slice none 0 0, .int .i64 0, .int .i64 0]], []⟩ 8 (by kernel_rfl) (by kernel_rfl) (by kernel_rfl) (by kernel_rfl)) ?_
  intro W base args ds gs before hval hW _ _
  exact law_calls (P := Tryz.prog) (fun n => run_ok n) [25, 22, 56, 23, 48, 46, 83, 81, 79, 45, 9, 3] (by kernel_rfl) Rows.degreeSumsSpec rfl (fun ds hds => by
      match ds, hds with
      | [_], _ => rfl) (tb := 4) (by kernel_rfl) (by kernel_rfl) laidOut (of_decide_eq_true (by kernel_rfl)) (of_decide_eq_true (by kernel_rfl)) hval hW (fun xs h => law_sums xs (by rw [Tryz.params4] at h; exact h))

theorem over : Rows.degreeSumsRow.holds Tryz.pinned (OpenSpec.ofChange Rows.degreeSumsSpec) :=
  OpenClaim.holds_of_wide 4 Tryz.f4 rfl rfl rfl rfl rfl rfl rfl ⟨rfl, rfl, rfl, rfl, rfl⟩ rfl rfl rfl rfl rfl (by kernel_rfl) Tryz.func4 (by kernel_rfl)
    (of_decide_eq_true (by kernel_rfl)) (by unfold Func.isWrapper; first | (rw [if_pos (by decide +kernel)]; kernel_rfl) | (rw [if_neg (by decide +kernel)]; exact ⟨rfl, rfl⟩))
    (fun os started H enc _ => lifted os started H enc)

/-- ████ THE STATEMENT ████ -/
theorem proved : Rows.DegreeSumsSaid := over
#print axioms proved
end FinDegreeSums
end Go.Proofs.YtokdbmakkoleiaaGreat
