/- The law 'IndexScan' answers true for every input: the statement, from the law about the evaluator. Condition: the listed package variable holds what the card says (tied to the program's text by the given tie). -/
import Derived.Test.YtbkibamoigmboaaGreatDoorRows
import Derived.Test.YtbkibamoigmboaaGreatDoorCards
import Derived.Test.YtbkibamoigmboaaGreatDoorTie
import Derived.SevenTiedAt
import Derived.LaidLaws
import Derived.Handed
import Derived.Test.YtbkibamoigmboaaGreatDoorIxSd
namespace Go.Proofs.YtbkibamoigmboaaGreatDoor
namespace FinIndexScan
open Go.ChangeShapes Go.WideShapes Go.ChangeAt Go.RowKit AI

theorem own : ownKnob Tryz.prog.godebug = none := by kernel_rfl
theorem laidOut : laidOutB Tryz.prog = true := by kernel_rfl

/-- the settled world, the listed variable laid -/
noncomputable def laidWorld (os : Os) : World :=
  let w0 := World.holding Tryz.prog os ⟨#[], #[], []⟩
  { w0 with heap := w0.heap.modify 0 fun
      | .cells _ t frozen => .cells #[.int .i64 0, .int .i64 1] t frozen
      | o => o }
set_option maxRecDepth 100000 in
theorem laid_met (os : Os) (args : Array Value) : laidMet Tryz.prog Rows.indexScanRow.laid ((laidWorld os).forCall (fun _ _ => 0) ⟨#[], args, []⟩).memory :=
  laidMet_of_run (ps := [.cell 0 0, .cell 0 1]) 8 (by kernel_rfl) (by kernel_rfl) (by kernel_rfl)

set_option maxRecDepth 100000 in
theorem lifted (os : Os) (started : os.Started) (H : Type) (enc : TypeId × Value → H) :
    ReturnsInHanded {} Tryz.checked os 9 .any (fun w args => (Rows.indexScanSpec.pre enc Tryz.prog Tryz.f9 Rows.indexScanRow.domain false w args ∧ laidMet Tryz.prog Rows.indexScanRow.laid w) ∧ sizedMet enc Tryz.prog Tryz.f9 (OpenSpec.ofChange Rows.indexScanSpec) false w args)
      (Rows.indexScanSpec.post enc Tryz.prog Tryz.f9 false true false false) := by
  refine returnsInHanded_of_change_and (C := Tryz.checked) (X := fun w _ => laidMet Tryz.prog Rows.indexScanRow.laid w) (fun _ _ _ hh h => h.of_heap hh) own started (by kernel_rfl) Tryz.func9
    (ChangeSpec.witness_at (enc := enc) (C := Tryz.checked) (os := os) (X := fun w _ => laidMet Tryz.prog Rows.indexScanRow.laid w) false (laidWorld os) #[.agg #[.slice none 0 0, .slice none 0 0, .slice none 0 0, .int .i64 0, .int .i64 0, .string ⟨#[]⟩, .string ⟨#[]⟩, .int .i64 0, .int .i64 0, .int .i64 0, .string ⟨#[]⟩, .slice none 0 0, .int .i64 0, .int .i64 0, .int .i64 0, .string ⟨#[]⟩, .slice none 0 0]] 8 rfl (by kernel_rfl) (by kernel_rfl) (by kernel_rfl) (by kernel_rfl) (by kernel_rfl) (laid_met os _)) ?_
  intro W base args ds gs before hval hW _ _ _ _
  exact law_calls (P := Tryz.prog) (fun n => run_ok n) ⟨_, Tryz.func9, rfl, by decide⟩ [45, 39, 56, 43, 41, 25, 22, 67, 26, 9, 65, 72, 23, 74, 3] (by kernel_rfl) Rows.indexScanSpec rfl (fun ds hds => by
      match ds, hds with
      | [_], _ => rfl) (tb := 4) (by kernel_rfl) (by kernel_rfl) laidOut (of_decide_eq_true (by kernel_rfl)) (of_decide_eq_true (by kernel_rfl)) hval hW (fun xs h => law_scan xs (by rw [Tryz.params9] at h; exact h))

set_option maxRecDepth 100000 in
theorem over : Rows.indexScanRow.holds Tryz.pinned (OpenSpec.ofChange Rows.indexScanSpec) :=
  OpenClaim.holds_of_wide 9 Tryz.f9 rfl rfl rfl rfl rfl rfl rfl ⟨rfl, rfl, rfl, rfl, rfl⟩ rfl rfl rfl rfl rfl (by kernel_rfl) Tryz.func9 (by kernel_rfl)
    (of_decide_eq_true (by kernel_rfl)) (by unfold Func.isWrapper; first | (rw [if_pos (by decide +kernel)]; kernel_rfl) | (rw [if_neg (by decide +kernel)]; exact ⟨rfl, rfl⟩))
    (fun os started H enc _ => lifted os started H enc)

set_option maxRecDepth 100000 in
/-- ████ THE STATEMENT, ON ITS CARD ████ -/
theorem proved : Rows.IndexScanCardSaid :=
  Claim7.holds_tied_plain_at .later [] [.data] true (true, "555508f6a65396de0e2f666cec7d197ffac9efb3934e8887a58d47bbeed40b66") true
    over (fun _ h => by cases h) (by kernel_rfl) (fun _ h => by cases h) indexScan_row_tie rfl ⟨rfl, rfl⟩ (by kernel_rfl) (by decide)
    (fun f fn h1 h2 => by
      obtain rfl : f = 9 := Option.some.inj (h1.symm.trans (by kernel_rfl))
      obtain rfl : fn = Tryz.f9 := Option.some.inj (h2.symm.trans Tryz.func9)
      refine ⟨by kernel_rfl, fun j t hj => ?_⟩
      match j, hj with
        | 0, hj =>
          obtain rfl : t = 45 := by rw [Tryz.params9] at hj; simpa using hj.symm
          exact (by kernel_rfl : Tryz.pinned.checked.prog.wantsStandIn 45 = false)
        | j + 1, hj => rw [Tryz.params9] at hj; simp at hj)
    (by kernel_rfl)
#print axioms proved
end FinIndexScan
end Go.Proofs.YtbkibamoigmboaaGreatDoor
