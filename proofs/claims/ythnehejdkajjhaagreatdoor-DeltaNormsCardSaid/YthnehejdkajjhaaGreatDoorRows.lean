/-
  NARROWER THAN 'FOR EVERY INPUT', by the rows' own cells (each row's printed sentence says how): DeltaSettles: loops, laid · DeltaNorms: loops, laid · DeltaJoins: loops, laid · DegreeSteps: loops, laid.
  DERIVED. THE GIVEN ROWS OF THIS SEAT. 4 by the template 'for every input the law returns true; each argument reads behind the call as it read before'; 0 by the template 'total and deterministic' (their statements: YthnehejdkajjhaaGreatDoorTotals.lean).
  GIVEN WITH THE SEED: the statements are not yours to turn. If you find one false, say at which input.
  Laid BY PROGRAM, IN A SANDBOX (cutbox-rows.mjs): the forced cells as the released guide's own fill.sh prints them over the translation 8d611aadc0496b39… (all of the seat's roots in one cut). By AI agents, Wed Nov 11 2026. No macro, syntax, notation, axiom, sorry.
-/
import Derived.Test.YthnehejdkajjhaaGreatDoorChecked
import GoSem.Claim
import GoSem.ClaimJoined
import GoSem.ClaimMapViews
import Derived.JoinedTies
import Derived.KernelRfl
namespace Go.Proofs.YthnehejdkajjhaaGreatDoor
/- THE CELL 'sum', in the pinned program and in every row, IS THE sha256 OF THE DUMP (.gsa) THAT YthnehejdkajjhaaGreatDoorProg.lean LOADS. Nothing in Lean hashes anything: it is a label: what it is worth is what the hold of that sum in a sandbox is worth. -/
noncomputable def Tryz.pinned : Pinned := { name := "ythnehejdkajjhaagreatdoor", sum := "8d611aadc0496b39eea0d54d7462a85d2091c01f52a52d9baba8a8fe086c31d6", checked := Tryz.checked }
namespace Rows
def none {H : Type} : Left H := { results := [], args := [] }

/- WHAT THE LISTED PACKAGE-LEVEL VARIABLES READ AS WHEN THE CALL BEGINS. Each datum BY PROGRAM (the guide's laid-datum.mjs) off the statement by which the dump's own 'gosem.cut.vars' lays the variable. In a bare row this is a premise. The card (YthnehejdkajjhaaGreatDoorCards.lean) ties it to the program's text. -/
def laid_graphdb_frac_zero {H : Type} : DataW H := .agg [.lit (.int .i64 0), .lit (.int .i64 1)]

/-- 'graphdblaw11.DeltaSettles': WHATEVER THE INPUT: true; the input reads as it did. -/
def deltaSettlesSpec : ChangeSpec := { name := "deltaSettles", fn := fun _ => fun
  | [d1, d2] => { results := [.lit (.bool true)], args := [d1, d2] }
  | _ => none }
def deltaSettlesRow : OpenClaim := { program := "ythnehejdkajjhaagreatdoor", sum := "8d611aadc0496b39eea0d54d7462a85d2091c01f52a52d9baba8a8fe086c31d6", func := "graphdb/graphdblaw11.DeltaSettles", spec := "deltaSettles", inPlace := ["math/bits.Add64", "math/bits.Sub64", "slices.overlaps[graphdb/api.Node]", "slices.overlaps[string]", "slices.overlaps[graphdb/api.Prop]", "slices.overlaps[graphdb/api.Edge]"], unfollowed := true, recurses := true, named := ["graphdb/frac.zero"], loops := true, apart := false, laid := [("graphdb/frac.zero", laid_graphdb_frac_zero)] }
def DeltaSettlesSaid : Prop := deltaSettlesRow.holds Tryz.pinned (OpenSpec.ofChange deltaSettlesSpec)

/-- ITS FALSE NEIGHBOUR: 'it returns false'. Refute it at one input. -/
def deltaSettlesWrong : ChangeSpec := { name := "deltaSettles", fn := fun _ => fun
  | [d1, d2] => { results := [.lit (.bool false)], args := [d1, d2] }
  | _ => none }
def DeltaSettlesWrongFalsely : Prop := deltaSettlesRow.holds Tryz.pinned (OpenSpec.ofChange deltaSettlesWrong)

/-- 'graphdblaw11.DeltaNorms': WHATEVER THE INPUT: true; the input reads as it did. -/
def deltaNormsSpec : ChangeSpec := { name := "deltaNorms", fn := fun _ => fun
  | [d1, d2, d3] => { results := [.lit (.bool true)], args := [d1, d2, d3] }
  | _ => none }
def deltaNormsRow : OpenClaim := { program := "ythnehejdkajjhaagreatdoor", sum := "8d611aadc0496b39eea0d54d7462a85d2091c01f52a52d9baba8a8fe086c31d6", func := "graphdb/graphdblaw11.DeltaNorms", spec := "deltaNorms", inPlace := ["math/bits.Add64", "math/bits.Sub64", "slices.overlaps[graphdb/api.Node]", "slices.overlaps[string]", "slices.overlaps[graphdb/api.Prop]", "slices.overlaps[graphdb/api.Edge]"], unfollowed := true, recurses := true, named := ["graphdb/frac.zero"], loops := true, apart := false, laid := [("graphdb/frac.zero", laid_graphdb_frac_zero)] }
def DeltaNormsSaid : Prop := deltaNormsRow.holds Tryz.pinned (OpenSpec.ofChange deltaNormsSpec)

/-- ITS FALSE NEIGHBOUR: 'it returns false'. Refute it at one input. -/
def deltaNormsWrong : ChangeSpec := { name := "deltaNorms", fn := fun _ => fun
  | [d1, d2, d3] => { results := [.lit (.bool false)], args := [d1, d2, d3] }
  | _ => none }
def DeltaNormsWrongFalsely : Prop := deltaNormsRow.holds Tryz.pinned (OpenSpec.ofChange deltaNormsWrong)

/-- 'graphdblaw11.DeltaJoins': WHATEVER THE INPUT: true; the input reads as it did. -/
def deltaJoinsSpec : ChangeSpec := { name := "deltaJoins", fn := fun _ => fun
  | [d1, d2, d3] => { results := [.lit (.bool true)], args := [d1, d2, d3] }
  | _ => none }
def deltaJoinsRow : OpenClaim := { program := "ythnehejdkajjhaagreatdoor", sum := "8d611aadc0496b39eea0d54d7462a85d2091c01f52a52d9baba8a8fe086c31d6", func := "graphdb/graphdblaw11.DeltaJoins", spec := "deltaJoins", inPlace := ["math/bits.Add64", "math/bits.Sub64", "slices.overlaps[graphdb/api.Node]", "slices.overlaps[string]", "slices.overlaps[graphdb/api.Prop]", "slices.overlaps[graphdb/api.Edge]"], unfollowed := true, recurses := true, named := ["graphdb/frac.zero"], loops := true, apart := false, laid := [("graphdb/frac.zero", laid_graphdb_frac_zero)] }
def DeltaJoinsSaid : Prop := deltaJoinsRow.holds Tryz.pinned (OpenSpec.ofChange deltaJoinsSpec)

/-- ITS FALSE NEIGHBOUR: 'it returns false'. Refute it at one input. -/
def deltaJoinsWrong : ChangeSpec := { name := "deltaJoins", fn := fun _ => fun
  | [d1, d2, d3] => { results := [.lit (.bool false)], args := [d1, d2, d3] }
  | _ => none }
def DeltaJoinsWrongFalsely : Prop := deltaJoinsRow.holds Tryz.pinned (OpenSpec.ofChange deltaJoinsWrong)

/-- 'graphdblaw16.DegreeSteps': WHATEVER THE INPUT: true; the input reads as it did. -/
def degreeStepsSpec : ChangeSpec := { name := "degreeSteps", fn := fun _ => fun
  | [d1, d2, d3] => { results := [.lit (.bool true)], args := [d1, d2, d3] }
  | _ => none }
def degreeStepsRow : OpenClaim := { program := "ythnehejdkajjhaagreatdoor", sum := "8d611aadc0496b39eea0d54d7462a85d2091c01f52a52d9baba8a8fe086c31d6", func := "graphdb/graphdblaw16.DegreeSteps", spec := "degreeSteps", inPlace := ["math/bits.Add64", "math/bits.Sub64", "slices.overlaps[graphdb/api.Node]", "slices.overlaps[string]", "slices.overlaps[graphdb/api.Prop]", "slices.overlaps[graphdb/api.Edge]"], unfollowed := true, recurses := true, named := ["graphdb/frac.zero"], loops := true, apart := false, laid := [("graphdb/frac.zero", laid_graphdb_frac_zero)] }
def DegreeStepsSaid : Prop := degreeStepsRow.holds Tryz.pinned (OpenSpec.ofChange degreeStepsSpec)

/-- ITS FALSE NEIGHBOUR: 'it returns false'. Refute it at one input. -/
def degreeStepsWrong : ChangeSpec := { name := "degreeSteps", fn := fun _ => fun
  | [d1, d2, d3] => { results := [.lit (.bool false)], args := [d1, d2, d3] }
  | _ => none }
def DegreeStepsWrongFalsely : Prop := degreeStepsRow.holds Tryz.pinned (OpenSpec.ofChange degreeStepsWrong)

/- THE SECOND FORM. 'bulk': how many values and letters a reading holds, each counted each time it is reached (what is shared counts as often as it is met; a slice's spare places count too). A statement '..UptoSaid' is the law's where the arguments, and the package variables that the reading takes, are together of bulk at most 1048576: NARROWER than '..Said'. Prove '..Said' where nothing that the law and all that it calls make is longer than what came in: it says more and counts as full. Else prove '..UptoSaid'. A law counts once. -/
mutual
def uptoBulk {H : Type} : DataW H → Nat
  | .lit (.string bytes) => bytes.length + 1
  | .lit _ => 1
  | .nil => 1
  | .ptr d => uptoBulk d + 1
  | .slice elems spare => uptoBulkAll elems + uptoBulkAll spare + 1
  | .agg parts => uptoBulkAll parts + 1
  | .iface _ d => uptoBulk d + 1
  | .map entries => uptoBulkEntries entries + 1
  | .held _ => 1
def uptoBulkAll {H : Type} : List (DataW H) → Nat
  | [] => 0
  | d :: r => uptoBulk d + uptoBulkAll r
def uptoBulkEntries {H : Type} : List (Lit × DataW H) → Nat
  | [] => 0
  | x :: r => uptoBulkEntry x + uptoBulkEntries r
def uptoBulkEntry {H : Type} : Lit × DataW H → Nat
  | (.string bytes, d) => bytes.length + uptoBulk d + 1
  | (_, d) => uptoBulk d + 1
 end
def uptoSmall : (H : Type) → List (DataW H) → Bool := fun _ ds => decide (uptoBulkAll ds ≤ 1048576)
def OpenSpec.upto (s : _root_.Go.ChangeSpec) : _root_.Go.OpenSpec := { _root_.Go.OpenSpec.ofChange s with cond := some uptoSmall }

/-- 'graphdblaw11.DeltaSettles', WHERE WHAT IT READS IS OF BULK AT MOST 1048576: true; the input reads as it did. -/
def deltaSettlesUptoRow : OpenClaim := { program := "ythnehejdkajjhaagreatdoor", sum := "8d611aadc0496b39eea0d54d7462a85d2091c01f52a52d9baba8a8fe086c31d6", func := "graphdb/graphdblaw11.DeltaSettles", spec := "deltaSettles", inPlace := ["math/bits.Add64", "math/bits.Sub64", "slices.overlaps[graphdb/api.Node]", "slices.overlaps[string]", "slices.overlaps[graphdb/api.Prop]", "slices.overlaps[graphdb/api.Edge]"], unfollowed := true, recurses := true, named := ["graphdb/frac.zero"], loops := true, apart := false, laid := [("graphdb/frac.zero", laid_graphdb_frac_zero)], narrowed := true }
def DeltaSettlesUptoSaid : Prop := deltaSettlesUptoRow.holds Tryz.pinned (OpenSpec.upto deltaSettlesSpec)

/-- 'graphdblaw11.DeltaNorms', WHERE WHAT IT READS IS OF BULK AT MOST 1048576: true; the input reads as it did. -/
def deltaNormsUptoRow : OpenClaim := { program := "ythnehejdkajjhaagreatdoor", sum := "8d611aadc0496b39eea0d54d7462a85d2091c01f52a52d9baba8a8fe086c31d6", func := "graphdb/graphdblaw11.DeltaNorms", spec := "deltaNorms", inPlace := ["math/bits.Add64", "math/bits.Sub64", "slices.overlaps[graphdb/api.Node]", "slices.overlaps[string]", "slices.overlaps[graphdb/api.Prop]", "slices.overlaps[graphdb/api.Edge]"], unfollowed := true, recurses := true, named := ["graphdb/frac.zero"], loops := true, apart := false, laid := [("graphdb/frac.zero", laid_graphdb_frac_zero)], narrowed := true }
def DeltaNormsUptoSaid : Prop := deltaNormsUptoRow.holds Tryz.pinned (OpenSpec.upto deltaNormsSpec)

/-- 'graphdblaw11.DeltaJoins', WHERE WHAT IT READS IS OF BULK AT MOST 1048576: true; the input reads as it did. -/
def deltaJoinsUptoRow : OpenClaim := { program := "ythnehejdkajjhaagreatdoor", sum := "8d611aadc0496b39eea0d54d7462a85d2091c01f52a52d9baba8a8fe086c31d6", func := "graphdb/graphdblaw11.DeltaJoins", spec := "deltaJoins", inPlace := ["math/bits.Add64", "math/bits.Sub64", "slices.overlaps[graphdb/api.Node]", "slices.overlaps[string]", "slices.overlaps[graphdb/api.Prop]", "slices.overlaps[graphdb/api.Edge]"], unfollowed := true, recurses := true, named := ["graphdb/frac.zero"], loops := true, apart := false, laid := [("graphdb/frac.zero", laid_graphdb_frac_zero)], narrowed := true }
def DeltaJoinsUptoSaid : Prop := deltaJoinsUptoRow.holds Tryz.pinned (OpenSpec.upto deltaJoinsSpec)

/-- 'graphdblaw16.DegreeSteps', WHERE WHAT IT READS IS OF BULK AT MOST 1048576: true; the input reads as it did. -/
def degreeStepsUptoRow : OpenClaim := { program := "ythnehejdkajjhaagreatdoor", sum := "8d611aadc0496b39eea0d54d7462a85d2091c01f52a52d9baba8a8fe086c31d6", func := "graphdb/graphdblaw16.DegreeSteps", spec := "degreeSteps", inPlace := ["math/bits.Add64", "math/bits.Sub64", "slices.overlaps[graphdb/api.Node]", "slices.overlaps[string]", "slices.overlaps[graphdb/api.Prop]", "slices.overlaps[graphdb/api.Edge]"], unfollowed := true, recurses := true, named := ["graphdb/frac.zero"], loops := true, apart := false, laid := [("graphdb/frac.zero", laid_graphdb_frac_zero)], narrowed := true }
def DegreeStepsUptoSaid : Prop := degreeStepsUptoRow.holds Tryz.pinned (OpenSpec.upto degreeStepsSpec)

end Rows
end Go.Proofs.YthnehejdkajjhaaGreatDoor
