/- The arguments of hyper's laws. -/
import Derived.Test.YtocgbgffpdphdaaHyA
import Derived.Test.YtocgbgffpdphdaaEntK
set_option linter.unusedVariables false
namespace Go.Proofs.Ytocgbgffpdphdaa
namespace AI

theorem smE_of {E : List (Bool × List Int)} (h1 : E.length ≤ maxLen) (h2 : ∀ p ∈ E, (p.1 = false → p.2 = []) ∧ p.2.length ≤ maxLen ∧ ∀ n ∈ p.2, (Lit.int .i64 n).wf = true) : SmE E :=
  ⟨Nat.lt_of_le_of_lt h1 maxLen_lt, fun p hp => Nat.lt_of_le_of_lt (h2 p hp).2.1 maxLen_lt⟩

theorem like_hyper {a : AV} (h : like Try.prog 12 24 a) : ∃ n ns E, a = .agg [.int .i64 n, .sl ns (iss E)] ∧ SmE E ∧ ∀ p ∈ E, p.1 = false → p.2 = [] := by
  obtain ⟨cs, rfl, h0⟩ := like_struct Try.underlying24 h
  obtain ⟨h1, h2⟩ := likeC_struct Try.underlying24 h0
  have hc : Try.prog.cellsOf 24 = 2 := by kernel_rfl
  have hc1 : Try.prog.cellsOf 3 = 1 := by kernel_rfl
  have hc2 : Try.prog.cellsOf 22 = 1 := by kernel_rfl
  rw [hc] at h1
  match cs, h1 with
  | [a, b], _ =>
    have f1 := h2 _ (List.mem_cons_self ..)
    have f2 := h2 _ (List.mem_cons_of_mem _ (List.mem_cons_self ..))
    simp only [hc1, hc2, List.drop_zero, List.drop_succ_cons, List.take_succ_cons, List.take_zero] at f1 f2
    obtain ⟨n, h3, _⟩ := likeC_int Try.underlying3 f1
    cases h3
    obtain ⟨b', h4, h5⟩ := likeC_like Try.underlying22 (fun fs => by simp) f2 rfl
    cases h4
    obtain ⟨ns, E, rfl, _, h6, h7⟩ := like_iss Try.underlying22 Try.underlying31 Try.underlying3 h5
    exact ⟨n, ns, E, rfl, smE_of h6 h7, fun p hp => (h7 p hp).1⟩

end AI
end Go.Proofs.Ytocgbgffpdphdaa
