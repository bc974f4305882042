/- The law 'GraphNames' answers true for every input: the statement, from the law about the evaluator. Condition: the listed package variable holds what the card says (tied to the program's text by the given tie). -/
import Derived.Test.YtnakgkibjlcjlaaDoorRows
import Derived.Test.YtnakgkibjlcjlaaDoorCards
import Derived.Test.YtnakgkibjlcjlaaDoorTie
import Derived.SevenTiedAt
import Derived.LaidLaws
import Derived.Handed
import Derived.Test.YtnakgkibjlcjlaaDoorGnLaw
namespace Go.Proofs.YtnakgkibjlcjlaaDoor
namespace FinGraphNames
open Go.ChangeShapes Go.WideShapes Go.ChangeAt Go.RowKit AI

theorem own : ownKnob Tryd.prog.godebug = none := by kernel_rfl
theorem laidOut : laidOutB Tryd.prog = true := by kernel_rfl

/-- the settled world, the listed variable laid -/
noncomputable def laidWorld (os : Os) : World :=
  let w0 := World.holding Tryd.prog os ⟨#[], #[], []⟩
  { w0 with heap := w0.heap.modify 0 fun
      | .cells _ t frozen => .cells #[.int .i64 0, .int .i64 1] t frozen
      | o => o }
set_option maxRecDepth 100000 in
theorem laid_met (os : Os) (args : Array Value) : laidMet Tryd.prog Rows.graphNamesRow.laid ((laidWorld os).forCall (fun _ _ => 0) ⟨#[], args, []⟩).memory :=
  laidMet_of_run (ps := [.cell 0 0, .cell 0 1]) 8 (by kernel_rfl) (by kernel_rfl) (by kernel_rfl)

set_option maxRecDepth 100000 in
theorem lifted (os : Os) (started : os.Started) (H : Type) (enc : TypeId × Value → H) :
    ReturnsInHanded {} Tryd.checked os 3 .any (fun w args => (Rows.graphNamesSpec.pre enc Tryd.prog Tryd.f3 Rows.graphNamesRow.domain false w args ∧ laidMet Tryd.prog Rows.graphNamesRow.laid w) ∧ sizedMet enc Tryd.prog Tryd.f3 (OpenSpec.ofChange Rows.graphNamesSpec) false w args)
      (Rows.graphNamesSpec.post enc Tryd.prog Tryd.f3 false true false false) := by
  refine returnsInHanded_of_change_and (C := Tryd.checked) (X := fun w _ => laidMet Tryd.prog Rows.graphNamesRow.laid w) (fun _ _ _ hh h => h.of_heap hh) own started (by kernel_rfl) Tryd.func3
    (ChangeSpec.witness_at (enc := enc) (C := Tryd.checked) (os := os) (X := fun w _ => laidMet Tryd.prog Rows.graphNamesRow.laid w) false (laidWorld os) #[.string ⟨#[]⟩] 8 rfl (by kernel_rfl) (by kernel_rfl) (by kernel_rfl) (by kernel_rfl) (by kernel_rfl) (laid_met os _)) ?_
  intro W base args ds gs before hval hW _ _ _ _
  exact law_calls (P := Tryd.prog) (fun n => run_ok n) [9] (by kernel_rfl) Rows.graphNamesSpec rfl (fun ds hds => by
      match ds, hds with
      | [_], _ => rfl) (tb := 4) (by kernel_rfl) (by kernel_rfl) laidOut (of_decide_eq_true (by kernel_rfl)) (of_decide_eq_true (by kernel_rfl)) hval hW (fun xs h => law_names xs (by rw [Tryd.params3] at h; exact h))

set_option maxRecDepth 100000 in
theorem over : Rows.graphNamesRow.holds Tryd.pinned (OpenSpec.ofChange Rows.graphNamesSpec) :=
  OpenClaim.holds_of_wide 3 Tryd.f3 rfl rfl rfl rfl rfl rfl rfl ⟨rfl, rfl, rfl, rfl, rfl⟩ rfl rfl rfl rfl rfl (by kernel_rfl) Tryd.func3 (by kernel_rfl)
    (of_decide_eq_true (by kernel_rfl)) (by unfold Func.isWrapper; first | (rw [if_pos (by decide +kernel)]; kernel_rfl) | (rw [if_neg (by decide +kernel)]; exact ⟨rfl, rfl⟩))
    (fun os started H enc _ => lifted os started H enc)

set_option maxRecDepth 100000 in
/-- ████ THE STATEMENT, ON ITS CARD ████ -/
theorem proved : Rows.GraphNamesCardSaid :=
  Claim7.holds_tied_plain_at .later [] [.data] true (true, "1a7801f69f35e2287d7a5aae114a1ec067bb1450206535fd2285a26a711eb8e1") false
    over (fun _ h => by cases h) (by kernel_rfl) (fun _ h => by cases h) graphNames_row_tie rfl ⟨rfl, rfl⟩ (by kernel_rfl) (by decide)
    (fun f fn h1 h2 => by
      obtain rfl : f = 3 := Option.some.inj (h1.symm.trans (by kernel_rfl))
      obtain rfl : fn = Tryd.f3 := Option.some.inj (h2.symm.trans Tryd.func3)
      refine ⟨by kernel_rfl, fun j t hj => ?_⟩
      match j, hj with
        | 0, hj =>
          obtain rfl : t = 9 := by rw [Tryd.params3] at hj; simpa using hj.symm
          exact (by kernel_rfl : Tryd.pinned.checked.prog.wantsStandIn 9 = false)
        | j + 1, hj => rw [Tryd.params3] at hj; simp at hj)
    (by kernel_rfl)
#print axioms proved
end FinGraphNames
end Go.Proofs.YtnakgkibjlcjlaaDoor
