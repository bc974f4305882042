/-
  NARROWER THAN 'FOR EVERY INPUT', by the rows' own cells (each row's printed sentence says how): IndexSets: loops, laid · IndexBuilds: loops, laid · IndexFinds: loops, laid · IndexUpdates: loops, laid · IndexOrder: loops, laid · IndexChain: loops, laid · IndexScan: loops, laid.
  DERIVED. THE GIVEN ROWS OF THIS SEAT. 7 by the template 'for every input the law returns true; each argument reads behind the call as it read before'; 0 by the template 'total and deterministic' (their statements: YtbkibamoigmboaaGreatDoorTotals.lean).
  GIVEN WITH THE SEED: the statements are not yours to turn. If you find one false, say at which input.
  Laid BY PROGRAM, IN A SANDBOX (cutbox-rows.mjs): the forced cells as the released guide's own fill.sh prints them over the translation ab050b36612631c7… (all of the seat's roots in one cut). By AI agents, Wed Nov 11 2026. No macro, syntax, notation, axiom, sorry.
-/
import Derived.Test.YtbkibamoigmboaaGreatDoorChecked
import GoSem.Claim
import GoSem.ClaimJoined
import GoSem.ClaimMapViews
import Derived.JoinedTies
import Derived.KernelRfl
namespace Go.Proofs.YtbkibamoigmboaaGreatDoor
/- THE CELL 'sum', in the pinned program and in every row, IS THE sha256 OF THE DUMP (.gsa) THAT YtbkibamoigmboaaGreatDoorProg.lean LOADS. Nothing in Lean hashes anything: it is a label: what it is worth is what the hold of that sum in a sandbox is worth. -/
noncomputable def Tryz.pinned : Pinned := { name := "ytbkibamoigmboaagreatdoor", sum := "ab050b36612631c78552598792607e46c79aa8ed31f022f2610ef339de67b072", checked := Tryz.checked }
namespace Rows
def none {H : Type} : Left H := { results := [], args := [] }

/- WHAT THE LISTED PACKAGE-LEVEL VARIABLES READ AS WHEN THE CALL BEGINS. Each datum BY PROGRAM (the guide's laid-datum.mjs) off the statement by which the dump's own 'gosem.cut.vars' lays the variable. In a bare row this is a premise. The card (YtbkibamoigmboaaGreatDoorCards.lean) ties it to the program's text. -/
def laid_graphdb_frac_zero {H : Type} : DataW H := .agg [.lit (.int .i64 0), .lit (.int .i64 1)]

/-- 'graphdblaw15.IndexSets': WHATEVER THE INPUT: true; the input reads as it did. -/
def indexSetsSpec : ChangeSpec := { name := "indexSets", fn := fun _ => fun
  | [d1, d2, d3] => { results := [.lit (.bool true)], args := [d1, d2, d3] }
  | _ => none }
def indexSetsRow : OpenClaim := { program := "ytbkibamoigmboaagreatdoor", sum := "ab050b36612631c78552598792607e46c79aa8ed31f022f2610ef339de67b072", func := "graphdb/graphdblaw15.IndexSets", spec := "indexSets", inPlace := ["math/bits.Add64", "math/bits.Sub64", "slices.overlaps[graphdb/api.Node]", "slices.overlaps[string]", "slices.overlaps[graphdb/api.Prop]", "slices.overlaps[graphdb/api.Edge]"], unfollowed := true, recurses := true, named := ["graphdb/frac.zero"], loops := true, apart := false, laid := [("graphdb/frac.zero", laid_graphdb_frac_zero)] }
def IndexSetsSaid : Prop := indexSetsRow.holds Tryz.pinned (OpenSpec.ofChange indexSetsSpec)

/-- ITS FALSE NEIGHBOUR: 'it returns false'. Refute it at one input. -/
def indexSetsWrong : ChangeSpec := { name := "indexSets", fn := fun _ => fun
  | [d1, d2, d3] => { results := [.lit (.bool false)], args := [d1, d2, d3] }
  | _ => none }
def IndexSetsWrongFalsely : Prop := indexSetsRow.holds Tryz.pinned (OpenSpec.ofChange indexSetsWrong)

/-- 'graphdblaw15.IndexBuilds': WHATEVER THE INPUT: true; the input reads as it did. -/
def indexBuildsSpec : ChangeSpec := { name := "indexBuilds", fn := fun _ => fun
  | [d] => { results := [.lit (.bool true)], args := [d] }
  | _ => none }
def indexBuildsRow : OpenClaim := { program := "ytbkibamoigmboaagreatdoor", sum := "ab050b36612631c78552598792607e46c79aa8ed31f022f2610ef339de67b072", func := "graphdb/graphdblaw15.IndexBuilds", spec := "indexBuilds", inPlace := ["math/bits.Add64", "math/bits.Sub64", "slices.overlaps[graphdb/api.Node]", "slices.overlaps[string]", "slices.overlaps[graphdb/api.Prop]", "slices.overlaps[graphdb/api.Edge]"], unfollowed := true, recurses := true, named := ["graphdb/frac.zero"], loops := true, apart := false, laid := [("graphdb/frac.zero", laid_graphdb_frac_zero)] }
def IndexBuildsSaid : Prop := indexBuildsRow.holds Tryz.pinned (OpenSpec.ofChange indexBuildsSpec)

/-- ITS FALSE NEIGHBOUR: 'it returns false'. Refute it at one input. -/
def indexBuildsWrong : ChangeSpec := { name := "indexBuilds", fn := fun _ => fun
  | [d] => { results := [.lit (.bool false)], args := [d] }
  | _ => none }
def IndexBuildsWrongFalsely : Prop := indexBuildsRow.holds Tryz.pinned (OpenSpec.ofChange indexBuildsWrong)

/-- 'graphdblaw15.IndexFinds': WHATEVER THE INPUT: true; the input reads as it did. -/
def indexFindsSpec : ChangeSpec := { name := "indexFinds", fn := fun _ => fun
  | [d] => { results := [.lit (.bool true)], args := [d] }
  | _ => none }
def indexFindsRow : OpenClaim := { program := "ytbkibamoigmboaagreatdoor", sum := "ab050b36612631c78552598792607e46c79aa8ed31f022f2610ef339de67b072", func := "graphdb/graphdblaw15.IndexFinds", spec := "indexFinds", inPlace := ["math/bits.Add64", "math/bits.Sub64", "slices.overlaps[graphdb/api.Node]", "slices.overlaps[string]", "slices.overlaps[graphdb/api.Prop]", "slices.overlaps[graphdb/api.Edge]"], unfollowed := true, recurses := true, named := ["graphdb/frac.zero"], loops := true, apart := false, laid := [("graphdb/frac.zero", laid_graphdb_frac_zero)] }
def IndexFindsSaid : Prop := indexFindsRow.holds Tryz.pinned (OpenSpec.ofChange indexFindsSpec)

/-- ITS FALSE NEIGHBOUR: 'it returns false'. Refute it at one input. -/
def indexFindsWrong : ChangeSpec := { name := "indexFinds", fn := fun _ => fun
  | [d] => { results := [.lit (.bool false)], args := [d] }
  | _ => none }
def IndexFindsWrongFalsely : Prop := indexFindsRow.holds Tryz.pinned (OpenSpec.ofChange indexFindsWrong)

/-- 'graphdblaw15.IndexUpdates': WHATEVER THE INPUT: true; the input reads as it did. -/
def indexUpdatesSpec : ChangeSpec := { name := "indexUpdates", fn := fun _ => fun
  | [d1, d2, d3] => { results := [.lit (.bool true)], args := [d1, d2, d3] }
  | _ => none }
def indexUpdatesRow : OpenClaim := { program := "ytbkibamoigmboaagreatdoor", sum := "ab050b36612631c78552598792607e46c79aa8ed31f022f2610ef339de67b072", func := "graphdb/graphdblaw15.IndexUpdates", spec := "indexUpdates", inPlace := ["math/bits.Add64", "math/bits.Sub64", "slices.overlaps[graphdb/api.Node]", "slices.overlaps[string]", "slices.overlaps[graphdb/api.Prop]", "slices.overlaps[graphdb/api.Edge]"], unfollowed := true, recurses := true, named := ["graphdb/frac.zero"], loops := true, apart := false, laid := [("graphdb/frac.zero", laid_graphdb_frac_zero)] }
def IndexUpdatesSaid : Prop := indexUpdatesRow.holds Tryz.pinned (OpenSpec.ofChange indexUpdatesSpec)

/-- ITS FALSE NEIGHBOUR: 'it returns false'. Refute it at one input. -/
def indexUpdatesWrong : ChangeSpec := { name := "indexUpdates", fn := fun _ => fun
  | [d1, d2, d3] => { results := [.lit (.bool false)], args := [d1, d2, d3] }
  | _ => none }
def IndexUpdatesWrongFalsely : Prop := indexUpdatesRow.holds Tryz.pinned (OpenSpec.ofChange indexUpdatesWrong)

/-- 'graphdblaw15.IndexOrder': WHATEVER THE INPUT: true; the input reads as it did. -/
def indexOrderSpec : ChangeSpec := { name := "indexOrder", fn := fun _ => fun
  | [d1, d2, d3] => { results := [.lit (.bool true)], args := [d1, d2, d3] }
  | _ => none }
def indexOrderRow : OpenClaim := { program := "ytbkibamoigmboaagreatdoor", sum := "ab050b36612631c78552598792607e46c79aa8ed31f022f2610ef339de67b072", func := "graphdb/graphdblaw15.IndexOrder", spec := "indexOrder", inPlace := ["math/bits.Add64", "math/bits.Sub64", "slices.overlaps[graphdb/api.Node]", "slices.overlaps[string]", "slices.overlaps[graphdb/api.Prop]", "slices.overlaps[graphdb/api.Edge]"], unfollowed := true, recurses := true, named := ["graphdb/frac.zero"], loops := true, apart := false, laid := [("graphdb/frac.zero", laid_graphdb_frac_zero)] }
def IndexOrderSaid : Prop := indexOrderRow.holds Tryz.pinned (OpenSpec.ofChange indexOrderSpec)

/-- ITS FALSE NEIGHBOUR: 'it returns false'. Refute it at one input. -/
def indexOrderWrong : ChangeSpec := { name := "indexOrder", fn := fun _ => fun
  | [d1, d2, d3] => { results := [.lit (.bool false)], args := [d1, d2, d3] }
  | _ => none }
def IndexOrderWrongFalsely : Prop := indexOrderRow.holds Tryz.pinned (OpenSpec.ofChange indexOrderWrong)

/-- 'graphdblaw15.IndexChain': WHATEVER THE INPUT: true; the input reads as it did. -/
def indexChainSpec : ChangeSpec := { name := "indexChain", fn := fun _ => fun
  | [d1, d2] => { results := [.lit (.bool true)], args := [d1, d2] }
  | _ => none }
def indexChainRow : OpenClaim := { program := "ytbkibamoigmboaagreatdoor", sum := "ab050b36612631c78552598792607e46c79aa8ed31f022f2610ef339de67b072", func := "graphdb/graphdblaw15.IndexChain", spec := "indexChain", inPlace := ["math/bits.Add64", "math/bits.Sub64", "slices.overlaps[graphdb/api.Node]", "slices.overlaps[string]", "slices.overlaps[graphdb/api.Prop]", "slices.overlaps[graphdb/api.Edge]"], unfollowed := true, recurses := true, named := ["graphdb/frac.zero"], loops := true, apart := false, laid := [("graphdb/frac.zero", laid_graphdb_frac_zero)] }
def IndexChainSaid : Prop := indexChainRow.holds Tryz.pinned (OpenSpec.ofChange indexChainSpec)

/-- ITS FALSE NEIGHBOUR: 'it returns false'. Refute it at one input. -/
def indexChainWrong : ChangeSpec := { name := "indexChain", fn := fun _ => fun
  | [d1, d2] => { results := [.lit (.bool false)], args := [d1, d2] }
  | _ => none }
def IndexChainWrongFalsely : Prop := indexChainRow.holds Tryz.pinned (OpenSpec.ofChange indexChainWrong)

/-- 'graphdblaw15.IndexScan': WHATEVER THE INPUT: true; the input reads as it did. -/
def indexScanSpec : ChangeSpec := { name := "indexScan", fn := fun _ => fun
  | [d] => { results := [.lit (.bool true)], args := [d] }
  | _ => none }
def indexScanRow : OpenClaim := { program := "ytbkibamoigmboaagreatdoor", sum := "ab050b36612631c78552598792607e46c79aa8ed31f022f2610ef339de67b072", func := "graphdb/graphdblaw15.IndexScan", spec := "indexScan", inPlace := ["math/bits.Add64", "math/bits.Sub64", "slices.overlaps[graphdb/api.Node]", "slices.overlaps[string]", "slices.overlaps[graphdb/api.Prop]", "slices.overlaps[graphdb/api.Edge]"], unfollowed := true, recurses := true, named := ["graphdb/frac.zero"], loops := true, apart := false, laid := [("graphdb/frac.zero", laid_graphdb_frac_zero)] }
def IndexScanSaid : Prop := indexScanRow.holds Tryz.pinned (OpenSpec.ofChange indexScanSpec)

/-- ITS FALSE NEIGHBOUR: 'it returns false'. Refute it at one input. -/
def indexScanWrong : ChangeSpec := { name := "indexScan", fn := fun _ => fun
  | [d] => { results := [.lit (.bool false)], args := [d] }
  | _ => none }
def IndexScanWrongFalsely : Prop := indexScanRow.holds Tryz.pinned (OpenSpec.ofChange indexScanWrong)

/- THE SECOND FORM. 'bulk': how many values and letters a reading holds, each counted each time it is reached (what is shared counts as often as it is met; a slice's spare places count too). A statement '..UptoSaid' is the law's where the arguments, and the package variables that the reading takes, are together of bulk at most 1048576: NARROWER than '..Said'. Prove '..Said' where nothing that the law and all that it calls make is longer than what came in: it says more and counts as full. Else prove '..UptoSaid'. A law counts once. -/
mutual
def uptoBulk {H : Type} : DataW H → Nat
  | .lit (.string bytes) => bytes.length + 1
  | .lit _ => 1
  | .nil => 1
  | .ptr d => uptoBulk d + 1
  | .slice elems spare => uptoBulkAll elems + uptoBulkAll spare + 1
  | .agg parts => uptoBulkAll parts + 1
  | .iface _ d => uptoBulk d + 1
  | .map entries => uptoBulkEntries entries + 1
  | .held _ => 1
def uptoBulkAll {H : Type} : List (DataW H) → Nat
  | [] => 0
  | d :: r => uptoBulk d + uptoBulkAll r
def uptoBulkEntries {H : Type} : List (Lit × DataW H) → Nat
  | [] => 0
  | x :: r => uptoBulkEntry x + uptoBulkEntries r
def uptoBulkEntry {H : Type} : Lit × DataW H → Nat
  | (.string bytes, d) => bytes.length + uptoBulk d + 1
  | (_, d) => uptoBulk d + 1
 end
def uptoSmall : (H : Type) → List (DataW H) → Bool := fun _ ds => decide (uptoBulkAll ds ≤ 1048576)
def OpenSpec.upto (s : _root_.Go.ChangeSpec) : _root_.Go.OpenSpec := { _root_.Go.OpenSpec.ofChange s with cond := some uptoSmall }

/-- 'graphdblaw15.IndexSets', WHERE WHAT IT READS IS OF BULK AT MOST 1048576: true; the input reads as it did. -/
def indexSetsUptoRow : OpenClaim := { program := "ytbkibamoigmboaagreatdoor", sum := "ab050b36612631c78552598792607e46c79aa8ed31f022f2610ef339de67b072", func := "graphdb/graphdblaw15.IndexSets", spec := "indexSets", inPlace := ["math/bits.Add64", "math/bits.Sub64", "slices.overlaps[graphdb/api.Node]", "slices.overlaps[string]", "slices.overlaps[graphdb/api.Prop]", "slices.overlaps[graphdb/api.Edge]"], unfollowed := true, recurses := true, named := ["graphdb/frac.zero"], loops := true, apart := false, laid := [("graphdb/frac.zero", laid_graphdb_frac_zero)], narrowed := true }
def IndexSetsUptoSaid : Prop := indexSetsUptoRow.holds Tryz.pinned (OpenSpec.upto indexSetsSpec)

/-- 'graphdblaw15.IndexBuilds', WHERE WHAT IT READS IS OF BULK AT MOST 1048576: true; the input reads as it did. -/
def indexBuildsUptoRow : OpenClaim := { program := "ytbkibamoigmboaagreatdoor", sum := "ab050b36612631c78552598792607e46c79aa8ed31f022f2610ef339de67b072", func := "graphdb/graphdblaw15.IndexBuilds", spec := "indexBuilds", inPlace := ["math/bits.Add64", "math/bits.Sub64", "slices.overlaps[graphdb/api.Node]", "slices.overlaps[string]", "slices.overlaps[graphdb/api.Prop]", "slices.overlaps[graphdb/api.Edge]"], unfollowed := true, recurses := true, named := ["graphdb/frac.zero"], loops := true, apart := false, laid := [("graphdb/frac.zero", laid_graphdb_frac_zero)], narrowed := true }
def IndexBuildsUptoSaid : Prop := indexBuildsUptoRow.holds Tryz.pinned (OpenSpec.upto indexBuildsSpec)

/-- 'graphdblaw15.IndexFinds', WHERE WHAT IT READS IS OF BULK AT MOST 1048576: true; the input reads as it did. -/
def indexFindsUptoRow : OpenClaim := { program := "ytbkibamoigmboaagreatdoor", sum := "ab050b36612631c78552598792607e46c79aa8ed31f022f2610ef339de67b072", func := "graphdb/graphdblaw15.IndexFinds", spec := "indexFinds", inPlace := ["math/bits.Add64", "math/bits.Sub64", "slices.overlaps[graphdb/api.Node]", "slices.overlaps[string]", "slices.overlaps[graphdb/api.Prop]", "slices.overlaps[graphdb/api.Edge]"], unfollowed := true, recurses := true, named := ["graphdb/frac.zero"], loops := true, apart := false, laid := [("graphdb/frac.zero", laid_graphdb_frac_zero)], narrowed := true }
def IndexFindsUptoSaid : Prop := indexFindsUptoRow.holds Tryz.pinned (OpenSpec.upto indexFindsSpec)

/-- 'graphdblaw15.IndexUpdates', WHERE WHAT IT READS IS OF BULK AT MOST 1048576: true; the input reads as it did. -/
def indexUpdatesUptoRow : OpenClaim := { program := "ytbkibamoigmboaagreatdoor", sum := "ab050b36612631c78552598792607e46c79aa8ed31f022f2610ef339de67b072", func := "graphdb/graphdblaw15.IndexUpdates", spec := "indexUpdates", inPlace := ["math/bits.Add64", "math/bits.Sub64", "slices.overlaps[graphdb/api.Node]", "slices.overlaps[string]", "slices.overlaps[graphdb/api.Prop]", "slices.overlaps[graphdb/api.Edge]"], unfollowed := true, recurses := true, named := ["graphdb/frac.zero"], loops := true, apart := false, laid := [("graphdb/frac.zero", laid_graphdb_frac_zero)], narrowed := true }
def IndexUpdatesUptoSaid : Prop := indexUpdatesUptoRow.holds Tryz.pinned (OpenSpec.upto indexUpdatesSpec)

/-- 'graphdblaw15.IndexOrder', WHERE WHAT IT READS IS OF BULK AT MOST 1048576: true; the input reads as it did. -/
def indexOrderUptoRow : OpenClaim := { program := "ytbkibamoigmboaagreatdoor", sum := "ab050b36612631c78552598792607e46c79aa8ed31f022f2610ef339de67b072", func := "graphdb/graphdblaw15.IndexOrder", spec := "indexOrder", inPlace := ["math/bits.Add64", "math/bits.Sub64", "slices.overlaps[graphdb/api.Node]", "slices.overlaps[string]", "slices.overlaps[graphdb/api.Prop]", "slices.overlaps[graphdb/api.Edge]"], unfollowed := true, recurses := true, named := ["graphdb/frac.zero"], loops := true, apart := false, laid := [("graphdb/frac.zero", laid_graphdb_frac_zero)], narrowed := true }
def IndexOrderUptoSaid : Prop := indexOrderUptoRow.holds Tryz.pinned (OpenSpec.upto indexOrderSpec)

/-- 'graphdblaw15.IndexChain', WHERE WHAT IT READS IS OF BULK AT MOST 1048576: true; the input reads as it did. -/
def indexChainUptoRow : OpenClaim := { program := "ytbkibamoigmboaagreatdoor", sum := "ab050b36612631c78552598792607e46c79aa8ed31f022f2610ef339de67b072", func := "graphdb/graphdblaw15.IndexChain", spec := "indexChain", inPlace := ["math/bits.Add64", "math/bits.Sub64", "slices.overlaps[graphdb/api.Node]", "slices.overlaps[string]", "slices.overlaps[graphdb/api.Prop]", "slices.overlaps[graphdb/api.Edge]"], unfollowed := true, recurses := true, named := ["graphdb/frac.zero"], loops := true, apart := false, laid := [("graphdb/frac.zero", laid_graphdb_frac_zero)], narrowed := true }
def IndexChainUptoSaid : Prop := indexChainUptoRow.holds Tryz.pinned (OpenSpec.upto indexChainSpec)

/-- 'graphdblaw15.IndexScan', WHERE WHAT IT READS IS OF BULK AT MOST 1048576: true; the input reads as it did. -/
def indexScanUptoRow : OpenClaim := { program := "ytbkibamoigmboaagreatdoor", sum := "ab050b36612631c78552598792607e46c79aa8ed31f022f2610ef339de67b072", func := "graphdb/graphdblaw15.IndexScan", spec := "indexScan", inPlace := ["math/bits.Add64", "math/bits.Sub64", "slices.overlaps[graphdb/api.Node]", "slices.overlaps[string]", "slices.overlaps[graphdb/api.Prop]", "slices.overlaps[graphdb/api.Edge]"], unfollowed := true, recurses := true, named := ["graphdb/frac.zero"], loops := true, apart := false, laid := [("graphdb/frac.zero", laid_graphdb_frac_zero)], narrowed := true }
def IndexScanUptoSaid : Prop := indexScanUptoRow.holds Tryz.pinned (OpenSpec.upto indexScanSpec)

end Rows
end Go.Proofs.YtbkibamoigmboaaGreatDoor
