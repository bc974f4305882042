/-
  NARROWER THAN 'FOR EVERY INPUT', by the rows' own cells (each row's printed sentence says how): ShortestLevels: loops, laid · ShortestRight: loops, laid · ShortestSteps: loops, laid · ShortestTurned: loops, laid · ShortestWalks: loops, laid.
  DERIVED. THE GIVEN ROWS OF THIS SEAT. 5 by the template 'for every input the law returns true; each argument reads behind the call as it read before'; 0 by the template 'total and deterministic' (their statements: YthjeehjphekjmaaGreatDoorTotals.lean).
  GIVEN WITH THE SEED: the statements are not yours to turn. If you find one false, say at which input.
  Laid BY PROGRAM, IN A SANDBOX (cutbox-rows.mjs): the forced cells as the released guide's own fill.sh prints them over the translation cc0991c16b1638fe… (all of the seat's roots in one cut). By AI agents, Wed Nov 11 2026. No macro, syntax, notation, axiom, sorry.
-/
import Derived.Test.YthjeehjphekjmaaGreatDoorChecked
import GoSem.Claim
import GoSem.ClaimJoined
import GoSem.ClaimMapViews
import Derived.JoinedTies
import Derived.KernelRfl
namespace Go.Proofs.YthjeehjphekjmaaGreatDoor
/- THE CELL 'sum', in the pinned program and in every row, IS THE sha256 OF THE DUMP (.gsa) THAT YthjeehjphekjmaaGreatDoorProg.lean LOADS. Nothing in Lean hashes anything: it is a label: what it is worth is what the hold of that sum in a sandbox is worth. -/
noncomputable def Tryz.pinned : Pinned := { name := "ythjeehjphekjmaagreatdoor", sum := "cc0991c16b1638fe4ab62f4aceaf9a5f9ab9de5ce6fc068183d9c928f5c2a0ff", checked := Tryz.checked }
namespace Rows
def none {H : Type} : Left H := { results := [], args := [] }

/- WHAT THE LISTED PACKAGE-LEVEL VARIABLES READ AS WHEN THE CALL BEGINS. Each datum BY PROGRAM (the guide's laid-datum.mjs) off the statement by which the dump's own 'gosem.cut.vars' lays the variable. In a bare row this is a premise. The card (YthjeehjphekjmaaGreatDoorCards.lean) ties it to the program's text. -/
def laid_graphdb_frac_zero {H : Type} : DataW H := .agg [.lit (.int .i64 0), .lit (.int .i64 1)]

/-- 'graphdblaw25.ShortestLevels': WHATEVER THE INPUT: true; the input reads as it did. -/
def shortestLevelsSpec : ChangeSpec := { name := "shortestLevels", fn := fun _ => fun
  | [d1, d2] => { results := [.lit (.bool true)], args := [d1, d2] }
  | _ => none }
def shortestLevelsRow : OpenClaim := { program := "ythjeehjphekjmaagreatdoor", sum := "cc0991c16b1638fe4ab62f4aceaf9a5f9ab9de5ce6fc068183d9c928f5c2a0ff", func := "graphdb/graphdblaw25.ShortestLevels", spec := "shortestLevels", inPlace := ["math/bits.Add64", "math/bits.Sub64"], unfollowed := true, recurses := true, named := ["graphdb/frac.zero"], loops := true, apart := false, laid := [("graphdb/frac.zero", laid_graphdb_frac_zero)] }
def ShortestLevelsSaid : Prop := shortestLevelsRow.holds Tryz.pinned (OpenSpec.ofChange shortestLevelsSpec)

/-- ITS FALSE NEIGHBOUR: 'it returns false'. Refute it at one input. -/
def shortestLevelsWrong : ChangeSpec := { name := "shortestLevels", fn := fun _ => fun
  | [d1, d2] => { results := [.lit (.bool false)], args := [d1, d2] }
  | _ => none }
def ShortestLevelsWrongFalsely : Prop := shortestLevelsRow.holds Tryz.pinned (OpenSpec.ofChange shortestLevelsWrong)

/-- 'graphdblaw25.ShortestRight': WHATEVER THE INPUT: true; the input reads as it did. -/
def shortestRightSpec : ChangeSpec := { name := "shortestRight", fn := fun _ => fun
  | [d1, d2] => { results := [.lit (.bool true)], args := [d1, d2] }
  | _ => none }
def shortestRightRow : OpenClaim := { program := "ythjeehjphekjmaagreatdoor", sum := "cc0991c16b1638fe4ab62f4aceaf9a5f9ab9de5ce6fc068183d9c928f5c2a0ff", func := "graphdb/graphdblaw25.ShortestRight", spec := "shortestRight", inPlace := ["math/bits.Add64", "math/bits.Sub64"], unfollowed := true, recurses := true, named := ["graphdb/frac.zero"], loops := true, apart := false, laid := [("graphdb/frac.zero", laid_graphdb_frac_zero)] }
def ShortestRightSaid : Prop := shortestRightRow.holds Tryz.pinned (OpenSpec.ofChange shortestRightSpec)

/-- ITS FALSE NEIGHBOUR: 'it returns false'. Refute it at one input. -/
def shortestRightWrong : ChangeSpec := { name := "shortestRight", fn := fun _ => fun
  | [d1, d2] => { results := [.lit (.bool false)], args := [d1, d2] }
  | _ => none }
def ShortestRightWrongFalsely : Prop := shortestRightRow.holds Tryz.pinned (OpenSpec.ofChange shortestRightWrong)

/-- 'graphdblaw25.ShortestSteps': WHATEVER THE INPUT: true; the input reads as it did. -/
def shortestStepsSpec : ChangeSpec := { name := "shortestSteps", fn := fun _ => fun
  | [d1, d2] => { results := [.lit (.bool true)], args := [d1, d2] }
  | _ => none }
def shortestStepsRow : OpenClaim := { program := "ythjeehjphekjmaagreatdoor", sum := "cc0991c16b1638fe4ab62f4aceaf9a5f9ab9de5ce6fc068183d9c928f5c2a0ff", func := "graphdb/graphdblaw25.ShortestSteps", spec := "shortestSteps", inPlace := ["math/bits.Add64", "math/bits.Sub64"], unfollowed := true, recurses := true, named := ["graphdb/frac.zero"], loops := true, apart := false, laid := [("graphdb/frac.zero", laid_graphdb_frac_zero)] }
def ShortestStepsSaid : Prop := shortestStepsRow.holds Tryz.pinned (OpenSpec.ofChange shortestStepsSpec)

/-- ITS FALSE NEIGHBOUR: 'it returns false'. Refute it at one input. -/
def shortestStepsWrong : ChangeSpec := { name := "shortestSteps", fn := fun _ => fun
  | [d1, d2] => { results := [.lit (.bool false)], args := [d1, d2] }
  | _ => none }
def ShortestStepsWrongFalsely : Prop := shortestStepsRow.holds Tryz.pinned (OpenSpec.ofChange shortestStepsWrong)

/-- 'graphdblaw25.ShortestTurned': WHATEVER THE INPUT: true; the input reads as it did. -/
def shortestTurnedSpec : ChangeSpec := { name := "shortestTurned", fn := fun _ => fun
  | [d1, d2] => { results := [.lit (.bool true)], args := [d1, d2] }
  | _ => none }
def shortestTurnedRow : OpenClaim := { program := "ythjeehjphekjmaagreatdoor", sum := "cc0991c16b1638fe4ab62f4aceaf9a5f9ab9de5ce6fc068183d9c928f5c2a0ff", func := "graphdb/graphdblaw25.ShortestTurned", spec := "shortestTurned", inPlace := ["math/bits.Add64", "math/bits.Sub64"], unfollowed := true, recurses := true, named := ["graphdb/frac.zero"], loops := true, apart := false, laid := [("graphdb/frac.zero", laid_graphdb_frac_zero)] }
def ShortestTurnedSaid : Prop := shortestTurnedRow.holds Tryz.pinned (OpenSpec.ofChange shortestTurnedSpec)

/-- ITS FALSE NEIGHBOUR: 'it returns false'. Refute it at one input. -/
def shortestTurnedWrong : ChangeSpec := { name := "shortestTurned", fn := fun _ => fun
  | [d1, d2] => { results := [.lit (.bool false)], args := [d1, d2] }
  | _ => none }
def ShortestTurnedWrongFalsely : Prop := shortestTurnedRow.holds Tryz.pinned (OpenSpec.ofChange shortestTurnedWrong)

/-- 'graphdblaw25.ShortestWalks': WHATEVER THE INPUT: true; the input reads as it did. -/
def shortestWalksSpec : ChangeSpec := { name := "shortestWalks", fn := fun _ => fun
  | [d1, d2] => { results := [.lit (.bool true)], args := [d1, d2] }
  | _ => none }
def shortestWalksRow : OpenClaim := { program := "ythjeehjphekjmaagreatdoor", sum := "cc0991c16b1638fe4ab62f4aceaf9a5f9ab9de5ce6fc068183d9c928f5c2a0ff", func := "graphdb/graphdblaw25.ShortestWalks", spec := "shortestWalks", inPlace := ["math/bits.Add64", "math/bits.Sub64"], unfollowed := true, recurses := true, named := ["graphdb/frac.zero"], loops := true, apart := false, laid := [("graphdb/frac.zero", laid_graphdb_frac_zero)] }
def ShortestWalksSaid : Prop := shortestWalksRow.holds Tryz.pinned (OpenSpec.ofChange shortestWalksSpec)

/-- ITS FALSE NEIGHBOUR: 'it returns false'. Refute it at one input. -/
def shortestWalksWrong : ChangeSpec := { name := "shortestWalks", fn := fun _ => fun
  | [d1, d2] => { results := [.lit (.bool false)], args := [d1, d2] }
  | _ => none }
def ShortestWalksWrongFalsely : Prop := shortestWalksRow.holds Tryz.pinned (OpenSpec.ofChange shortestWalksWrong)

/- THE SECOND FORM. 'bulk': how many values and letters a reading holds, each counted each time it is reached (what is shared counts as often as it is met; a slice's spare places count too). A statement '..UptoSaid' is the law's where the arguments, and the package variables that the reading takes, are together of bulk at most 1048576: NARROWER than '..Said'. Prove '..Said' where nothing that the law and all that it calls make is longer than what came in: it says more and counts as full. Else prove '..UptoSaid'. A law counts once. -/
mutual
def uptoBulk {H : Type} : DataW H → Nat
  | .lit (.string bytes) => bytes.length + 1
  | .lit _ => 1
  | .nil => 1
  | .ptr d => uptoBulk d + 1
  | .slice elems spare => uptoBulkAll elems + uptoBulkAll spare + 1
  | .agg parts => uptoBulkAll parts + 1
  | .iface _ d => uptoBulk d + 1
  | .map entries => uptoBulkEntries entries + 1
  | .held _ => 1
def uptoBulkAll {H : Type} : List (DataW H) → Nat
  | [] => 0
  | d :: r => uptoBulk d + uptoBulkAll r
def uptoBulkEntries {H : Type} : List (Lit × DataW H) → Nat
  | [] => 0
  | x :: r => uptoBulkEntry x + uptoBulkEntries r
def uptoBulkEntry {H : Type} : Lit × DataW H → Nat
  | (.string bytes, d) => bytes.length + uptoBulk d + 1
  | (_, d) => uptoBulk d + 1
 end
def uptoSmall : (H : Type) → List (DataW H) → Bool := fun _ ds => decide (uptoBulkAll ds ≤ 1048576)
def OpenSpec.upto (s : _root_.Go.ChangeSpec) : _root_.Go.OpenSpec := { _root_.Go.OpenSpec.ofChange s with cond := some uptoSmall }

/-- 'graphdblaw25.ShortestLevels', WHERE WHAT IT READS IS OF BULK AT MOST 1048576: true; the input reads as it did. -/
def shortestLevelsUptoRow : OpenClaim := { program := "ythjeehjphekjmaagreatdoor", sum := "cc0991c16b1638fe4ab62f4aceaf9a5f9ab9de5ce6fc068183d9c928f5c2a0ff", func := "graphdb/graphdblaw25.ShortestLevels", spec := "shortestLevels", inPlace := ["math/bits.Add64", "math/bits.Sub64"], unfollowed := true, recurses := true, named := ["graphdb/frac.zero"], loops := true, apart := false, laid := [("graphdb/frac.zero", laid_graphdb_frac_zero)], narrowed := true }
def ShortestLevelsUptoSaid : Prop := shortestLevelsUptoRow.holds Tryz.pinned (OpenSpec.upto shortestLevelsSpec)

/-- 'graphdblaw25.ShortestRight', WHERE WHAT IT READS IS OF BULK AT MOST 1048576: true; the input reads as it did. -/
def shortestRightUptoRow : OpenClaim := { program := "ythjeehjphekjmaagreatdoor", sum := "cc0991c16b1638fe4ab62f4aceaf9a5f9ab9de5ce6fc068183d9c928f5c2a0ff", func := "graphdb/graphdblaw25.ShortestRight", spec := "shortestRight", inPlace := ["math/bits.Add64", "math/bits.Sub64"], unfollowed := true, recurses := true, named := ["graphdb/frac.zero"], loops := true, apart := false, laid := [("graphdb/frac.zero", laid_graphdb_frac_zero)], narrowed := true }
def ShortestRightUptoSaid : Prop := shortestRightUptoRow.holds Tryz.pinned (OpenSpec.upto shortestRightSpec)

/-- 'graphdblaw25.ShortestSteps', WHERE WHAT IT READS IS OF BULK AT MOST 1048576: true; the input reads as it did. -/
def shortestStepsUptoRow : OpenClaim := { program := "ythjeehjphekjmaagreatdoor", sum := "cc0991c16b1638fe4ab62f4aceaf9a5f9ab9de5ce6fc068183d9c928f5c2a0ff", func := "graphdb/graphdblaw25.ShortestSteps", spec := "shortestSteps", inPlace := ["math/bits.Add64", "math/bits.Sub64"], unfollowed := true, recurses := true, named := ["graphdb/frac.zero"], loops := true, apart := false, laid := [("graphdb/frac.zero", laid_graphdb_frac_zero)], narrowed := true }
def ShortestStepsUptoSaid : Prop := shortestStepsUptoRow.holds Tryz.pinned (OpenSpec.upto shortestStepsSpec)

/-- 'graphdblaw25.ShortestTurned', WHERE WHAT IT READS IS OF BULK AT MOST 1048576: true; the input reads as it did. -/
def shortestTurnedUptoRow : OpenClaim := { program := "ythjeehjphekjmaagreatdoor", sum := "cc0991c16b1638fe4ab62f4aceaf9a5f9ab9de5ce6fc068183d9c928f5c2a0ff", func := "graphdb/graphdblaw25.ShortestTurned", spec := "shortestTurned", inPlace := ["math/bits.Add64", "math/bits.Sub64"], unfollowed := true, recurses := true, named := ["graphdb/frac.zero"], loops := true, apart := false, laid := [("graphdb/frac.zero", laid_graphdb_frac_zero)], narrowed := true }
def ShortestTurnedUptoSaid : Prop := shortestTurnedUptoRow.holds Tryz.pinned (OpenSpec.upto shortestTurnedSpec)

/-- 'graphdblaw25.ShortestWalks', WHERE WHAT IT READS IS OF BULK AT MOST 1048576: true; the input reads as it did. -/
def shortestWalksUptoRow : OpenClaim := { program := "ythjeehjphekjmaagreatdoor", sum := "cc0991c16b1638fe4ab62f4aceaf9a5f9ab9de5ce6fc068183d9c928f5c2a0ff", func := "graphdb/graphdblaw25.ShortestWalks", spec := "shortestWalks", inPlace := ["math/bits.Add64", "math/bits.Sub64"], unfollowed := true, recurses := true, named := ["graphdb/frac.zero"], loops := true, apart := false, laid := [("graphdb/frac.zero", laid_graphdb_frac_zero)], narrowed := true }
def ShortestWalksUptoSaid : Prop := shortestWalksUptoRow.holds Tryz.pinned (OpenSpec.upto shortestWalksSpec)

end Rows
end Go.Proofs.YthjeehjphekjmaaGreatDoor
