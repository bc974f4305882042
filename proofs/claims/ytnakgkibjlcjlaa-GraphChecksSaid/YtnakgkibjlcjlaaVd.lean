/- More on lists of things: appending, parts. -/
import Derived.Test.YtnakgkibjlcjlaaVb
set_option linter.unusedVariables false
namespace Go.Proofs.Ytnakgkibjlcjlaa
namespace AI

section
variable {α : Type} {f : α → AV}

theorem allSize_vs {es : Nat} (hf : ∀ x, (f x).cells.length = es) (l : List α) : AllSize es (vs f l) := by
  intro y hy
  simp only [vs, List.mem_map] at hy
  obtain ⟨z, _, rfl⟩ := hy
  exact hf z

theorem sub_vs (l : List α) (a n : Nat) : sub (vs f l) a n = vs f ((l.drop a).take n) := by simp [sub, vs, List.map_drop, List.map_take]

theorem apV1 {es g len : Nat} {nn cl : Bool} {l : List α} {x : α} {bytes : Nat} {K : Nat → Bool → Bool → List AV → Prop} (hf : ∀ x, (f x).cells.length = es) (hl : len = l.length) (hr : (l.length + 1) * bytes ≤ 2 ^ 46) (h : K (l.length + 1) true cl (vs f (l ++ [x]))) :
    appendK g g es es len nn cl true (vs f l) [f x] bytes K := by
  subst hl
  refine ⟨⟨rfl, rfl, by simp, by intro y hy; simp at hy; subst hy; exact hf x, roomy_of hr⟩, ?_⟩
  have e1 : (nn || !([f x] : List AV).isEmpty) = true := by simp
  have e2 : (cl && true) = cl := by simp
  rw [e1, e2, snoc_vs]
  exact h

theorem apVm {es g len : Nat} {nn cl : Bool} {l l' : List α} {ys : List AV} {bytes : Nat} {K : Nat → Bool → Bool → List AV → Prop} (he : ys = vs f l') (hf : ∀ x, (f x).cells.length = es) (hl : len = l.length) (hr : (l.length + l'.length) * bytes ≤ 2 ^ 46) (h : ∀ b, K (l.length + l'.length) b cl (vs f (l ++ l'))) :
    appendK g g es es len nn cl true (vs f l) ys bytes K := by
  subst hl he
  refine ⟨⟨rfl, rfl, by simp, allSize_vs hf l', by rw [lV]; exact roomy_of hr⟩, ?_⟩
  rw [lV, Bool.and_true, List.take_of_length_le (by simp)]
  have := h (nn || !(vs f l').isEmpty)
  simpa [vs] using this

end
end AI
end Go.Proofs.Ytnakgkibjlcjlaa
