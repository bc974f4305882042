/- The null value. -/
import Derived.Test.YtkknpgebiihkfaaGreatDoorMT
set_option linter.unusedVariables false
set_option maxRecDepth 4000
namespace Go.Proofs.YtkknpgebiihkfaaGreatDoor
namespace AI

def gv0 : GV := ⟨0, 0, 0, [], false, []⟩
theorem gv0_ok : gv0.ok := ⟨by unfold I64 gv0; dsimp only; omega, by unfold I64 gv0; dsimp only; omega, by unfold I64 gv0; dsimp only; omega, by simp [Ln, gv0], by simp [Ln, gv0], fun _ => rfl, by simp [gv0]⟩
def isNull (v : GV) : Prop := v.k = 0 ∧ v.n = 0 ∧ v.d = 0 ∧ v.s = [] ∧ v.l.length = 0
instance (v : GV) : Decidable (isNull v) := by unfold isNull; infer_instance
theorem null_gv0 : isNull gv0 := ⟨rfl, rfl, rfl, rfl, rfl⟩

end AI
end Go.Proofs.YtkknpgebiihkfaaGreatDoor
