/- A value in a list of values. -/
import Derived.Test.YtokdbmakkoleiaaGreatGrTy
set_option linter.unusedVariables false
namespace Go.Proofs.YtokdbmakkoleiaaGreat
namespace AI

theorem like_at {l : List AV} (h : ∀ x ∈ l, Like Tryz.prog 81 x) (i : Nat) :
    ∃ g : GV, ∀ hi : i < l.length, nth l (Int.toNat (Nat.cast i)) = some g.av ∧ l[i] = g.av ∧ g.ok := by
  by_cases hi : i < l.length
  · obtain ⟨g, e, hg⟩ := like_value (h _ (List.getElem_mem hi))
    exact ⟨g, fun _ => ⟨by rw [← e]; exact nR hi, e, hg⟩⟩
  · exact ⟨⟨0, 0, 0, [], true, []⟩, fun h => absurd h hi⟩

end AI
end Go.Proofs.YtokdbmakkoleiaaGreat
