/-
  NARROWER THAN 'FOR EVERY INPUT', by the rows' own cells (each row's printed sentence says how): CentralityTells: loops, laid · CentralitySums: loops, laid · CentralityTriangles: loops, laid · CentralityKeeps: loops, laid.
  DERIVED. THE GIVEN ROWS OF THIS SEAT. 4 by the template 'for every input the law returns true; each argument reads behind the call as it read before'; 0 by the template 'total and deterministic' (their statements: YtchcadfjbkkgmaaGreatDoorTotals.lean).
  GIVEN WITH THE SEED: the statements are not yours to turn. If you find one false, say at which input.
  Laid BY PROGRAM, IN A SANDBOX (cutbox-rows.mjs): the forced cells as the released guide's own fill.sh prints them over the translation e4e58acb0255853c… (all of the seat's roots in one cut). By AI agents, Wed Nov 11 2026. No macro, syntax, notation, axiom, sorry.
-/
import Derived.Test.YtchcadfjbkkgmaaGreatDoorChecked
import GoSem.Claim
import GoSem.ClaimJoined
import GoSem.ClaimMapViews
import Derived.JoinedTies
import Derived.KernelRfl
namespace Go.Proofs.YtchcadfjbkkgmaaGreatDoor
/- THE CELL 'sum', in the pinned program and in every row, IS THE sha256 OF THE DUMP (.gsa) THAT YtchcadfjbkkgmaaGreatDoorProg.lean LOADS. Nothing in Lean hashes anything: it is a label: what it is worth is what the hold of that sum in a sandbox is worth. -/
noncomputable def Tryz.pinned : Pinned := { name := "ytchcadfjbkkgmaagreatdoor", sum := "e4e58acb0255853c87426ac1513a969a15f0383df6df28389e17f3d2c44cf0a1", checked := Tryz.checked }
namespace Rows
def none {H : Type} : Left H := { results := [], args := [] }

/- WHAT THE LISTED PACKAGE-LEVEL VARIABLES READ AS WHEN THE CALL BEGINS. Each datum BY PROGRAM (the guide's laid-datum.mjs) off the statement by which the dump's own 'gosem.cut.vars' lays the variable. In a bare row this is a premise. The card (YtchcadfjbkkgmaaGreatDoorCards.lean) ties it to the program's text. -/
def laid_graphdb_frac_zero {H : Type} : DataW H := .agg [.lit (.int .i64 0), .lit (.int .i64 1)]

/-- 'graphdblaw52.CentralityTells': WHATEVER THE INPUT: true; the input reads as it did. -/
def centralityTellsSpec : ChangeSpec := { name := "centralityTells", fn := fun _ => fun
  | [d1, d2, d3] => { results := [.lit (.bool true)], args := [d1, d2, d3] }
  | _ => none }
def centralityTellsRow : OpenClaim := { program := "ytchcadfjbkkgmaagreatdoor", sum := "e4e58acb0255853c87426ac1513a969a15f0383df6df28389e17f3d2c44cf0a1", func := "graphdb/graphdblaw52.CentralityTells", spec := "centralityTells", inPlace := ["math/bits.Add64", "math/bits.Sub64"], unfollowed := true, recurses := true, named := ["graphdb/frac.zero", "math/bits.divideError", "math/bits.overflowError"], loops := true, apart := false, laid := [("graphdb/frac.zero", laid_graphdb_frac_zero)] }
def CentralityTellsSaid : Prop := centralityTellsRow.holds Tryz.pinned (OpenSpec.ofChange centralityTellsSpec)

/-- ITS FALSE NEIGHBOUR: 'it returns false'. Refute it at one input. -/
def centralityTellsWrong : ChangeSpec := { name := "centralityTells", fn := fun _ => fun
  | [d1, d2, d3] => { results := [.lit (.bool false)], args := [d1, d2, d3] }
  | _ => none }
def CentralityTellsWrongFalsely : Prop := centralityTellsRow.holds Tryz.pinned (OpenSpec.ofChange centralityTellsWrong)

/-- 'graphdblaw52.CentralitySums': WHATEVER THE INPUT: true; the input reads as it did. -/
def centralitySumsSpec : ChangeSpec := { name := "centralitySums", fn := fun _ => fun
  | [d1, d2] => { results := [.lit (.bool true)], args := [d1, d2] }
  | _ => none }
def centralitySumsRow : OpenClaim := { program := "ytchcadfjbkkgmaagreatdoor", sum := "e4e58acb0255853c87426ac1513a969a15f0383df6df28389e17f3d2c44cf0a1", func := "graphdb/graphdblaw52.CentralitySums", spec := "centralitySums", inPlace := ["math/bits.Add64", "math/bits.Sub64"], unfollowed := true, recurses := true, named := ["graphdb/frac.zero", "math/bits.divideError", "math/bits.overflowError"], loops := true, apart := false, laid := [("graphdb/frac.zero", laid_graphdb_frac_zero)] }
def CentralitySumsSaid : Prop := centralitySumsRow.holds Tryz.pinned (OpenSpec.ofChange centralitySumsSpec)

/-- ITS FALSE NEIGHBOUR: 'it returns false'. Refute it at one input. -/
def centralitySumsWrong : ChangeSpec := { name := "centralitySums", fn := fun _ => fun
  | [d1, d2] => { results := [.lit (.bool false)], args := [d1, d2] }
  | _ => none }
def CentralitySumsWrongFalsely : Prop := centralitySumsRow.holds Tryz.pinned (OpenSpec.ofChange centralitySumsWrong)

/-- 'graphdblaw52.CentralityTriangles': WHATEVER THE INPUT: true; the input reads as it did. -/
def centralityTrianglesSpec : ChangeSpec := { name := "centralityTriangles", fn := fun _ => fun
  | [d1, d2, d3] => { results := [.lit (.bool true)], args := [d1, d2, d3] }
  | _ => none }
def centralityTrianglesRow : OpenClaim := { program := "ytchcadfjbkkgmaagreatdoor", sum := "e4e58acb0255853c87426ac1513a969a15f0383df6df28389e17f3d2c44cf0a1", func := "graphdb/graphdblaw52.CentralityTriangles", spec := "centralityTriangles", inPlace := ["math/bits.Add64", "math/bits.Sub64", "slices.overlaps[graphdb/api.Node]", "slices.overlaps[string]", "slices.overlaps[graphdb/api.Prop]", "slices.overlaps[graphdb/api.Edge]"], unfollowed := true, recurses := true, named := ["graphdb/frac.zero", "math/bits.divideError", "math/bits.overflowError"], loops := true, apart := false, laid := [("graphdb/frac.zero", laid_graphdb_frac_zero)] }
def CentralityTrianglesSaid : Prop := centralityTrianglesRow.holds Tryz.pinned (OpenSpec.ofChange centralityTrianglesSpec)

/-- ITS FALSE NEIGHBOUR: 'it returns false'. Refute it at one input. -/
def centralityTrianglesWrong : ChangeSpec := { name := "centralityTriangles", fn := fun _ => fun
  | [d1, d2, d3] => { results := [.lit (.bool false)], args := [d1, d2, d3] }
  | _ => none }
def CentralityTrianglesWrongFalsely : Prop := centralityTrianglesRow.holds Tryz.pinned (OpenSpec.ofChange centralityTrianglesWrong)

/-- 'graphdblaw52.CentralityKeeps': WHATEVER THE INPUT: true; the input reads as it did. -/
def centralityKeepsSpec : ChangeSpec := { name := "centralityKeeps", fn := fun _ => fun
  | [d1, d2, d3] => { results := [.lit (.bool true)], args := [d1, d2, d3] }
  | _ => none }
def centralityKeepsRow : OpenClaim := { program := "ytchcadfjbkkgmaagreatdoor", sum := "e4e58acb0255853c87426ac1513a969a15f0383df6df28389e17f3d2c44cf0a1", func := "graphdb/graphdblaw52.CentralityKeeps", spec := "centralityKeeps", inPlace := ["math/bits.Add64", "math/bits.Sub64", "slices.overlaps[graphdb/api.Node]", "slices.overlaps[string]", "slices.overlaps[graphdb/api.Prop]", "slices.overlaps[graphdb/api.Edge]"], unfollowed := true, recurses := true, named := ["graphdb/frac.zero", "math/bits.divideError", "math/bits.overflowError"], loops := true, apart := false, laid := [("graphdb/frac.zero", laid_graphdb_frac_zero)] }
def CentralityKeepsSaid : Prop := centralityKeepsRow.holds Tryz.pinned (OpenSpec.ofChange centralityKeepsSpec)

/-- ITS FALSE NEIGHBOUR: 'it returns false'. Refute it at one input. -/
def centralityKeepsWrong : ChangeSpec := { name := "centralityKeeps", fn := fun _ => fun
  | [d1, d2, d3] => { results := [.lit (.bool false)], args := [d1, d2, d3] }
  | _ => none }
def CentralityKeepsWrongFalsely : Prop := centralityKeepsRow.holds Tryz.pinned (OpenSpec.ofChange centralityKeepsWrong)

/- THE SECOND FORM. 'bulk': how many values and letters a reading holds, each counted each time it is reached (what is shared counts as often as it is met; a slice's spare places count too). A statement '..UptoSaid' is the law's where the arguments, and the package variables that the reading takes, are together of bulk at most 1048576: NARROWER than '..Said'. Prove '..Said' where nothing that the law and all that it calls make is longer than what came in: it says more and counts as full. Else prove '..UptoSaid'. A law counts once. -/
mutual
def uptoBulk {H : Type} : DataW H → Nat
  | .lit (.string bytes) => bytes.length + 1
  | .lit _ => 1
  | .nil => 1
  | .ptr d => uptoBulk d + 1
  | .slice elems spare => uptoBulkAll elems + uptoBulkAll spare + 1
  | .agg parts => uptoBulkAll parts + 1
  | .iface _ d => uptoBulk d + 1
  | .map entries => uptoBulkEntries entries + 1
  | .held _ => 1
def uptoBulkAll {H : Type} : List (DataW H) → Nat
  | [] => 0
  | d :: r => uptoBulk d + uptoBulkAll r
def uptoBulkEntries {H : Type} : List (Lit × DataW H) → Nat
  | [] => 0
  | x :: r => uptoBulkEntry x + uptoBulkEntries r
def uptoBulkEntry {H : Type} : Lit × DataW H → Nat
  | (.string bytes, d) => bytes.length + uptoBulk d + 1
  | (_, d) => uptoBulk d + 1
 end
def uptoSmall : (H : Type) → List (DataW H) → Bool := fun _ ds => decide (uptoBulkAll ds ≤ 1048576)
def OpenSpec.upto (s : _root_.Go.ChangeSpec) : _root_.Go.OpenSpec := { _root_.Go.OpenSpec.ofChange s with cond := some uptoSmall }

/-- 'graphdblaw52.CentralityTells', WHERE WHAT IT READS IS OF BULK AT MOST 1048576: true; the input reads as it did. -/
def centralityTellsUptoRow : OpenClaim := { program := "ytchcadfjbkkgmaagreatdoor", sum := "e4e58acb0255853c87426ac1513a969a15f0383df6df28389e17f3d2c44cf0a1", func := "graphdb/graphdblaw52.CentralityTells", spec := "centralityTells", inPlace := ["math/bits.Add64", "math/bits.Sub64"], unfollowed := true, recurses := true, named := ["graphdb/frac.zero", "math/bits.divideError", "math/bits.overflowError"], loops := true, apart := false, laid := [("graphdb/frac.zero", laid_graphdb_frac_zero)], narrowed := true }
def CentralityTellsUptoSaid : Prop := centralityTellsUptoRow.holds Tryz.pinned (OpenSpec.upto centralityTellsSpec)

/-- 'graphdblaw52.CentralitySums', WHERE WHAT IT READS IS OF BULK AT MOST 1048576: true; the input reads as it did. -/
def centralitySumsUptoRow : OpenClaim := { program := "ytchcadfjbkkgmaagreatdoor", sum := "e4e58acb0255853c87426ac1513a969a15f0383df6df28389e17f3d2c44cf0a1", func := "graphdb/graphdblaw52.CentralitySums", spec := "centralitySums", inPlace := ["math/bits.Add64", "math/bits.Sub64"], unfollowed := true, recurses := true, named := ["graphdb/frac.zero", "math/bits.divideError", "math/bits.overflowError"], loops := true, apart := false, laid := [("graphdb/frac.zero", laid_graphdb_frac_zero)], narrowed := true }
def CentralitySumsUptoSaid : Prop := centralitySumsUptoRow.holds Tryz.pinned (OpenSpec.upto centralitySumsSpec)

/-- 'graphdblaw52.CentralityTriangles', WHERE WHAT IT READS IS OF BULK AT MOST 1048576: true; the input reads as it did. -/
def centralityTrianglesUptoRow : OpenClaim := { program := "ytchcadfjbkkgmaagreatdoor", sum := "e4e58acb0255853c87426ac1513a969a15f0383df6df28389e17f3d2c44cf0a1", func := "graphdb/graphdblaw52.CentralityTriangles", spec := "centralityTriangles", inPlace := ["math/bits.Add64", "math/bits.Sub64", "slices.overlaps[graphdb/api.Node]", "slices.overlaps[string]", "slices.overlaps[graphdb/api.Prop]", "slices.overlaps[graphdb/api.Edge]"], unfollowed := true, recurses := true, named := ["graphdb/frac.zero", "math/bits.divideError", "math/bits.overflowError"], loops := true, apart := false, laid := [("graphdb/frac.zero", laid_graphdb_frac_zero)], narrowed := true }
def CentralityTrianglesUptoSaid : Prop := centralityTrianglesUptoRow.holds Tryz.pinned (OpenSpec.upto centralityTrianglesSpec)

/-- 'graphdblaw52.CentralityKeeps', WHERE WHAT IT READS IS OF BULK AT MOST 1048576: true; the input reads as it did. -/
def centralityKeepsUptoRow : OpenClaim := { program := "ytchcadfjbkkgmaagreatdoor", sum := "e4e58acb0255853c87426ac1513a969a15f0383df6df28389e17f3d2c44cf0a1", func := "graphdb/graphdblaw52.CentralityKeeps", spec := "centralityKeeps", inPlace := ["math/bits.Add64", "math/bits.Sub64", "slices.overlaps[graphdb/api.Node]", "slices.overlaps[string]", "slices.overlaps[graphdb/api.Prop]", "slices.overlaps[graphdb/api.Edge]"], unfollowed := true, recurses := true, named := ["graphdb/frac.zero", "math/bits.divideError", "math/bits.overflowError"], loops := true, apart := false, laid := [("graphdb/frac.zero", laid_graphdb_frac_zero)], narrowed := true }
def CentralityKeepsUptoSaid : Prop := centralityKeepsUptoRow.holds Tryz.pinned (OpenSpec.upto centralityKeepsSpec)

end Rows
end Go.Proofs.YtchcadfjbkkgmaaGreatDoor
