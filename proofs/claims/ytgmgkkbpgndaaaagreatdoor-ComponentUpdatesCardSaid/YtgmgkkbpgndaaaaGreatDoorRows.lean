/-
  NARROWER THAN 'FOR EVERY INPUT', by the rows' own cells (each row's printed sentence says how): ComponentJoins: laid · ComponentUpdates: loops, laid · ComponentTopo: loops, laid · ComponentGrows: loops, laid.
  DERIVED. THE GIVEN ROWS OF THIS SEAT. 4 by the template 'for every input the law returns true; each argument reads behind the call as it read before'; 0 by the template 'total and deterministic' (their statements: YtgmgkkbpgndaaaaGreatDoorTotals.lean).
  GIVEN WITH THE SEED: the statements are not yours to turn. If you find one false, say at which input.
  Laid BY PROGRAM, IN A SANDBOX (cutbox-rows.mjs): the forced cells as the released guide's own fill.sh prints them over the translation f6281333b0bb0690… (all of the seat's roots in one cut). By AI agents, Wed Nov 11 2026. No macro, syntax, notation, axiom, sorry.
-/
import Derived.Test.YtgmgkkbpgndaaaaGreatDoorChecked
import GoSem.Claim
import GoSem.ClaimJoined
import GoSem.ClaimMapViews
import Derived.JoinedTies
import Derived.KernelRfl
namespace Go.Proofs.YtgmgkkbpgndaaaaGreatDoor
/- THE CELL 'sum', in the pinned program and in every row, IS THE sha256 OF THE DUMP (.gsa) THAT YtgmgkkbpgndaaaaGreatDoorProg.lean LOADS. Nothing in Lean hashes anything: it is a label: what it is worth is what the hold of that sum in a sandbox is worth. -/
noncomputable def Tryz.pinned : Pinned := { name := "ytgmgkkbpgndaaaagreatdoor", sum := "f6281333b0bb06904873c166353b674d175eede3d27711024f7c1289dce9bfdc", checked := Tryz.checked }
namespace Rows
def none {H : Type} : Left H := { results := [], args := [] }

/- WHAT THE LISTED PACKAGE-LEVEL VARIABLES READ AS WHEN THE CALL BEGINS. Each datum BY PROGRAM (the guide's laid-datum.mjs) off the statement by which the dump's own 'gosem.cut.vars' lays the variable. In a bare row this is a premise. The card (YtgmgkkbpgndaaaaGreatDoorCards.lean) ties it to the program's text. -/
def laid_graphdb_frac_zero {H : Type} : DataW H := .agg [.lit (.int .i64 0), .lit (.int .i64 1)]

/-- 'graphdblaw50.ComponentJoins': WHATEVER THE INPUT: true; the input reads as it did. -/
def componentJoinsSpec : ChangeSpec := { name := "componentJoins", fn := fun _ => fun
  | [d1, d2, d3] => { results := [.lit (.bool true)], args := [d1, d2, d3] }
  | _ => none }
def componentJoinsRow : OpenClaim := { program := "ytgmgkkbpgndaaaagreatdoor", sum := "f6281333b0bb06904873c166353b674d175eede3d27711024f7c1289dce9bfdc", func := "graphdb/graphdblaw50.ComponentJoins", spec := "componentJoins", inPlace := ["math/bits.Add64", "math/bits.Sub64", "slices.overlaps[graphdb/api.Node]", "slices.overlaps[string]", "slices.overlaps[graphdb/api.Prop]", "slices.overlaps[graphdb/api.Edge]"], unfollowed := true, recurses := true, named := ["graphdb/frac.zero"], apart := false, laid := [("graphdb/frac.zero", laid_graphdb_frac_zero)] }
def ComponentJoinsSaid : Prop := componentJoinsRow.holds Tryz.pinned (OpenSpec.ofChange componentJoinsSpec)

/-- ITS FALSE NEIGHBOUR: 'it returns false'. Refute it at one input. -/
def componentJoinsWrong : ChangeSpec := { name := "componentJoins", fn := fun _ => fun
  | [d1, d2, d3] => { results := [.lit (.bool false)], args := [d1, d2, d3] }
  | _ => none }
def ComponentJoinsWrongFalsely : Prop := componentJoinsRow.holds Tryz.pinned (OpenSpec.ofChange componentJoinsWrong)

/-- 'graphdblaw50.ComponentUpdates': WHATEVER THE INPUT: true; the input reads as it did. -/
def componentUpdatesSpec : ChangeSpec := { name := "componentUpdates", fn := fun _ => fun
  | [d] => { results := [.lit (.bool true)], args := [d] }
  | _ => none }
def componentUpdatesRow : OpenClaim := { program := "ytgmgkkbpgndaaaagreatdoor", sum := "f6281333b0bb06904873c166353b674d175eede3d27711024f7c1289dce9bfdc", func := "graphdb/graphdblaw50.ComponentUpdates", spec := "componentUpdates", inPlace := ["math/bits.Add64", "math/bits.Sub64", "slices.overlaps[graphdb/api.Node]", "slices.overlaps[string]", "slices.overlaps[graphdb/api.Prop]", "slices.overlaps[graphdb/api.Edge]"], unfollowed := true, recurses := true, named := ["graphdb/frac.zero"], loops := true, apart := false, laid := [("graphdb/frac.zero", laid_graphdb_frac_zero)] }
def ComponentUpdatesSaid : Prop := componentUpdatesRow.holds Tryz.pinned (OpenSpec.ofChange componentUpdatesSpec)

/-- ITS FALSE NEIGHBOUR: 'it returns false'. Refute it at one input. -/
def componentUpdatesWrong : ChangeSpec := { name := "componentUpdates", fn := fun _ => fun
  | [d] => { results := [.lit (.bool false)], args := [d] }
  | _ => none }
def ComponentUpdatesWrongFalsely : Prop := componentUpdatesRow.holds Tryz.pinned (OpenSpec.ofChange componentUpdatesWrong)

/-- 'graphdblaw50.ComponentTopo': WHATEVER THE INPUT: true; the input reads as it did. -/
def componentTopoSpec : ChangeSpec := { name := "componentTopo", fn := fun _ => fun
  | [d1, d2] => { results := [.lit (.bool true)], args := [d1, d2] }
  | _ => none }
def componentTopoRow : OpenClaim := { program := "ytgmgkkbpgndaaaagreatdoor", sum := "f6281333b0bb06904873c166353b674d175eede3d27711024f7c1289dce9bfdc", func := "graphdb/graphdblaw50.ComponentTopo", spec := "componentTopo", inPlace := ["math/bits.Add64", "math/bits.Sub64", "slices.overlaps[graphdb/api.Node]", "slices.overlaps[string]", "slices.overlaps[graphdb/api.Prop]", "slices.overlaps[graphdb/api.Edge]"], unfollowed := true, recurses := true, named := ["graphdb/frac.zero"], loops := true, apart := false, laid := [("graphdb/frac.zero", laid_graphdb_frac_zero)] }
def ComponentTopoSaid : Prop := componentTopoRow.holds Tryz.pinned (OpenSpec.ofChange componentTopoSpec)

/-- ITS FALSE NEIGHBOUR: 'it returns false'. Refute it at one input. -/
def componentTopoWrong : ChangeSpec := { name := "componentTopo", fn := fun _ => fun
  | [d1, d2] => { results := [.lit (.bool false)], args := [d1, d2] }
  | _ => none }
def ComponentTopoWrongFalsely : Prop := componentTopoRow.holds Tryz.pinned (OpenSpec.ofChange componentTopoWrong)

/-- 'graphdblaw50.ComponentGrows': WHATEVER THE INPUT: true; the input reads as it did. -/
def componentGrowsSpec : ChangeSpec := { name := "componentGrows", fn := fun _ => fun
  | [d1, d2, d3] => { results := [.lit (.bool true)], args := [d1, d2, d3] }
  | _ => none }
def componentGrowsRow : OpenClaim := { program := "ytgmgkkbpgndaaaagreatdoor", sum := "f6281333b0bb06904873c166353b674d175eede3d27711024f7c1289dce9bfdc", func := "graphdb/graphdblaw50.ComponentGrows", spec := "componentGrows", inPlace := ["math/bits.Add64", "math/bits.Sub64", "slices.overlaps[graphdb/api.Node]", "slices.overlaps[string]", "slices.overlaps[graphdb/api.Prop]", "slices.overlaps[graphdb/api.Edge]"], unfollowed := true, recurses := true, named := ["graphdb/frac.zero"], loops := true, apart := false, laid := [("graphdb/frac.zero", laid_graphdb_frac_zero)] }
def ComponentGrowsSaid : Prop := componentGrowsRow.holds Tryz.pinned (OpenSpec.ofChange componentGrowsSpec)

/-- ITS FALSE NEIGHBOUR: 'it returns false'. Refute it at one input. -/
def componentGrowsWrong : ChangeSpec := { name := "componentGrows", fn := fun _ => fun
  | [d1, d2, d3] => { results := [.lit (.bool false)], args := [d1, d2, d3] }
  | _ => none }
def ComponentGrowsWrongFalsely : Prop := componentGrowsRow.holds Tryz.pinned (OpenSpec.ofChange componentGrowsWrong)

/- THE SECOND FORM. 'bulk': how many values and letters a reading holds, each counted each time it is reached (what is shared counts as often as it is met; a slice's spare places count too). A statement '..UptoSaid' is the law's where the arguments, and the package variables that the reading takes, are together of bulk at most 1048576: NARROWER than '..Said'. Prove '..Said' where nothing that the law and all that it calls make is longer than what came in: it says more and counts as full. Else prove '..UptoSaid'. A law counts once. -/
mutual
def uptoBulk {H : Type} : DataW H → Nat
  | .lit (.string bytes) => bytes.length + 1
  | .lit _ => 1
  | .nil => 1
  | .ptr d => uptoBulk d + 1
  | .slice elems spare => uptoBulkAll elems + uptoBulkAll spare + 1
  | .agg parts => uptoBulkAll parts + 1
  | .iface _ d => uptoBulk d + 1
  | .map entries => uptoBulkEntries entries + 1
  | .held _ => 1
def uptoBulkAll {H : Type} : List (DataW H) → Nat
  | [] => 0
  | d :: r => uptoBulk d + uptoBulkAll r
def uptoBulkEntries {H : Type} : List (Lit × DataW H) → Nat
  | [] => 0
  | x :: r => uptoBulkEntry x + uptoBulkEntries r
def uptoBulkEntry {H : Type} : Lit × DataW H → Nat
  | (.string bytes, d) => bytes.length + uptoBulk d + 1
  | (_, d) => uptoBulk d + 1
 end
def uptoSmall : (H : Type) → List (DataW H) → Bool := fun _ ds => decide (uptoBulkAll ds ≤ 1048576)
def OpenSpec.upto (s : _root_.Go.ChangeSpec) : _root_.Go.OpenSpec := { _root_.Go.OpenSpec.ofChange s with cond := some uptoSmall }

/-- 'graphdblaw50.ComponentJoins', WHERE WHAT IT READS IS OF BULK AT MOST 1048576: true; the input reads as it did. -/
def componentJoinsUptoRow : OpenClaim := { program := "ytgmgkkbpgndaaaagreatdoor", sum := "f6281333b0bb06904873c166353b674d175eede3d27711024f7c1289dce9bfdc", func := "graphdb/graphdblaw50.ComponentJoins", spec := "componentJoins", inPlace := ["math/bits.Add64", "math/bits.Sub64", "slices.overlaps[graphdb/api.Node]", "slices.overlaps[string]", "slices.overlaps[graphdb/api.Prop]", "slices.overlaps[graphdb/api.Edge]"], unfollowed := true, recurses := true, named := ["graphdb/frac.zero"], apart := false, laid := [("graphdb/frac.zero", laid_graphdb_frac_zero)], narrowed := true }
def ComponentJoinsUptoSaid : Prop := componentJoinsUptoRow.holds Tryz.pinned (OpenSpec.upto componentJoinsSpec)

/-- 'graphdblaw50.ComponentUpdates', WHERE WHAT IT READS IS OF BULK AT MOST 1048576: true; the input reads as it did. -/
def componentUpdatesUptoRow : OpenClaim := { program := "ytgmgkkbpgndaaaagreatdoor", sum := "f6281333b0bb06904873c166353b674d175eede3d27711024f7c1289dce9bfdc", func := "graphdb/graphdblaw50.ComponentUpdates", spec := "componentUpdates", inPlace := ["math/bits.Add64", "math/bits.Sub64", "slices.overlaps[graphdb/api.Node]", "slices.overlaps[string]", "slices.overlaps[graphdb/api.Prop]", "slices.overlaps[graphdb/api.Edge]"], unfollowed := true, recurses := true, named := ["graphdb/frac.zero"], loops := true, apart := false, laid := [("graphdb/frac.zero", laid_graphdb_frac_zero)], narrowed := true }
def ComponentUpdatesUptoSaid : Prop := componentUpdatesUptoRow.holds Tryz.pinned (OpenSpec.upto componentUpdatesSpec)

/-- 'graphdblaw50.ComponentTopo', WHERE WHAT IT READS IS OF BULK AT MOST 1048576: true; the input reads as it did. -/
def componentTopoUptoRow : OpenClaim := { program := "ytgmgkkbpgndaaaagreatdoor", sum := "f6281333b0bb06904873c166353b674d175eede3d27711024f7c1289dce9bfdc", func := "graphdb/graphdblaw50.ComponentTopo", spec := "componentTopo", inPlace := ["math/bits.Add64", "math/bits.Sub64", "slices.overlaps[graphdb/api.Node]", "slices.overlaps[string]", "slices.overlaps[graphdb/api.Prop]", "slices.overlaps[graphdb/api.Edge]"], unfollowed := true, recurses := true, named := ["graphdb/frac.zero"], loops := true, apart := false, laid := [("graphdb/frac.zero", laid_graphdb_frac_zero)], narrowed := true }
def ComponentTopoUptoSaid : Prop := componentTopoUptoRow.holds Tryz.pinned (OpenSpec.upto componentTopoSpec)

/-- 'graphdblaw50.ComponentGrows', WHERE WHAT IT READS IS OF BULK AT MOST 1048576: true; the input reads as it did. -/
def componentGrowsUptoRow : OpenClaim := { program := "ytgmgkkbpgndaaaagreatdoor", sum := "f6281333b0bb06904873c166353b674d175eede3d27711024f7c1289dce9bfdc", func := "graphdb/graphdblaw50.ComponentGrows", spec := "componentGrows", inPlace := ["math/bits.Add64", "math/bits.Sub64", "slices.overlaps[graphdb/api.Node]", "slices.overlaps[string]", "slices.overlaps[graphdb/api.Prop]", "slices.overlaps[graphdb/api.Edge]"], unfollowed := true, recurses := true, named := ["graphdb/frac.zero"], loops := true, apart := false, laid := [("graphdb/frac.zero", laid_graphdb_frac_zero)], narrowed := true }
def ComponentGrowsUptoSaid : Prop := componentGrowsUptoRow.holds Tryz.pinned (OpenSpec.upto componentGrowsSpec)

end Rows
end Go.Proofs.YtgmgkkbpgndaaaaGreatDoor
