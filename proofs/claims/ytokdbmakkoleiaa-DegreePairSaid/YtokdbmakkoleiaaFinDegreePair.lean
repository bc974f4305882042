/- The law 'DegreePair' answers true for every input: the statement, from the law about the evaluator. No conditions. -/
import Derived.Test.YtokdbmakkoleiaaRows
import Derived.Test.YtokdbmakkoleiaaDpLaw
namespace Go.Proofs.Ytokdbmakkoleiaa
namespace FinDegreePair
open Go.ChangeShapes Go.WideShapes Go.ChangeAt Go.RowKit AI

theorem own : ownKnob Try.prog.godebug = none := by kernel_rfl
theorem laidOut : laidOutB Try.prog = true := by kernel_rfl

set_option maxRecDepth 100000 in
theorem lifted (os : Os) (started : os.Started) (H : Type) (enc : TypeId × Value → H) :
    ReturnsInHanded {} Try.checked os 4 .any (Rows.degreePairSpec.pre6 enc Try.prog Try.f4 Rows.degreePairRow.domain false) (Rows.degreePairSpec.post enc Try.prog Try.f4 false true false false) := by
  refine returnsInHanded_of_change (C := Try.checked) own started (by kernel_rfl) Try.func4
    (ChangeSpec.witness6 (enc := enc) (C := Try.checked) false ⟨#[], #[.slice none 0 0, .slice none 0 0], []⟩ 8 (by kernel_rfl) (by kernel_rfl) (by kernel_rfl) (by kernel_rfl)) ?_
  intro W base args ds gs before hval hW _ _
  exact law_calls (P := Try.prog) (fun n => run_ok n) [33, 3] (by kernel_rfl) Rows.degreePairSpec rfl (fun ds hds => by
      match ds, hds with
      | [_, _], _ => rfl) (tb := 4) (by kernel_rfl) (by kernel_rfl) laidOut (of_decide_eq_true (by kernel_rfl)) (of_decide_eq_true (by kernel_rfl)) hval hW (fun xs h => law_pair xs (by rw [Try.params4] at h; exact h))

theorem over : Rows.degreePairRow.holds Try.pinned (OpenSpec.ofChange Rows.degreePairSpec) :=
  OpenClaim.holds_of_wide 4 Try.f4 rfl rfl rfl rfl rfl rfl rfl ⟨rfl, rfl, rfl, rfl, rfl⟩ rfl rfl rfl rfl rfl (by kernel_rfl) Try.func4 (by kernel_rfl)
    (of_decide_eq_true (by kernel_rfl)) (by unfold Func.isWrapper; first | (rw [if_pos (by decide +kernel)]; kernel_rfl) | (rw [if_neg (by decide +kernel)]; exact ⟨rfl, rfl⟩))
    (fun os started H enc _ => lifted os started H enc)

/-- ████ THE STATEMENT ████ -/
theorem proved : Rows.DegreePairSaid := over
#print axioms proved
end FinDegreePair
end Go.Proofs.Ytokdbmakkoleiaa
