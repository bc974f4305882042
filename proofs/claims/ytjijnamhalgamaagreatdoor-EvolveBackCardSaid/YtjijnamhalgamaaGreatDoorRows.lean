/-
  NARROWER THAN 'FOR EVERY INPUT', by the rows' own cells (each row's printed sentence says how): EvolveApplies: loops, laid · EvolveSound: loops, laid · EvolveParts: loops, laid · EvolveBack: loops, laid.
  DERIVED. THE GIVEN ROWS OF THIS SEAT. 4 by the template 'for every input the law returns true; each argument reads behind the call as it read before'; 0 by the template 'total and deterministic' (their statements: YtjijnamhalgamaaGreatDoorTotals.lean).
  GIVEN WITH THE SEED: the statements are not yours to turn. If you find one false, say at which input.
  Laid BY PROGRAM, IN A SANDBOX (cutbox-rows.mjs): the forced cells as the released guide's own fill.sh prints them over the translation 8ca2c7d400800fa6… (all of the seat's roots in one cut). By AI agents, Wed Nov 11 2026. No macro, syntax, notation, axiom, sorry.
-/
import Derived.Test.YtjijnamhalgamaaGreatDoorChecked
import GoSem.Claim
import GoSem.ClaimJoined
import GoSem.ClaimMapViews
import Derived.JoinedTies
import Derived.KernelRfl
namespace Go.Proofs.YtjijnamhalgamaaGreatDoor
/- THE CELL 'sum', in the pinned program and in every row, IS THE sha256 OF THE DUMP (.gsa) THAT YtjijnamhalgamaaGreatDoorProg.lean LOADS. Nothing in Lean hashes anything: it is a label: what it is worth is what the hold of that sum in a sandbox is worth. -/
noncomputable def Tryz.pinned : Pinned := { name := "ytjijnamhalgamaagreatdoor", sum := "8ca2c7d400800fa663f106ce423b01c31f5adad3945df4f7bfc887704b4a558d", checked := Tryz.checked }
namespace Rows
def none {H : Type} : Left H := { results := [], args := [] }

/- WHAT THE LISTED PACKAGE-LEVEL VARIABLES READ AS WHEN THE CALL BEGINS. Each datum BY PROGRAM (the guide's laid-datum.mjs) off the statement by which the dump's own 'gosem.cut.vars' lays the variable. In a bare row this is a premise. The card (YtjijnamhalgamaaGreatDoorCards.lean) ties it to the program's text. -/
def laid_graphdb_frac_zero {H : Type} : DataW H := .agg [.lit (.int .i64 0), .lit (.int .i64 1)]

/-- 'graphdblaw55.EvolveApplies': WHATEVER THE INPUT: true; the input reads as it did. -/
def evolveAppliesSpec : ChangeSpec := { name := "evolveApplies", fn := fun _ => fun
  | [d1, d2, d3] => { results := [.lit (.bool true)], args := [d1, d2, d3] }
  | _ => none }
def evolveAppliesRow : OpenClaim := { program := "ytjijnamhalgamaagreatdoor", sum := "8ca2c7d400800fa663f106ce423b01c31f5adad3945df4f7bfc887704b4a558d", func := "graphdb/graphdblaw55.EvolveApplies", spec := "evolveApplies", inPlace := ["math/bits.Add64", "math/bits.Sub64", "slices.overlaps[graphdb/api.Rule]", "slices.overlaps[graphdb/api.Node]", "slices.overlaps[string]", "slices.overlaps[graphdb/api.Prop]", "slices.overlaps[graphdb/api.Edge]"], unfollowed := true, recurses := true, named := ["graphdb/frac.zero"], loops := true, apart := false, laid := [("graphdb/frac.zero", laid_graphdb_frac_zero)] }
def EvolveAppliesSaid : Prop := evolveAppliesRow.holds Tryz.pinned (OpenSpec.ofChange evolveAppliesSpec)

/-- ITS FALSE NEIGHBOUR: 'it returns false'. Refute it at one input. -/
def evolveAppliesWrong : ChangeSpec := { name := "evolveApplies", fn := fun _ => fun
  | [d1, d2, d3] => { results := [.lit (.bool false)], args := [d1, d2, d3] }
  | _ => none }
def EvolveAppliesWrongFalsely : Prop := evolveAppliesRow.holds Tryz.pinned (OpenSpec.ofChange evolveAppliesWrong)

/-- 'graphdblaw55.EvolveSound': WHATEVER THE INPUT: true; the input reads as it did. -/
def evolveSoundSpec : ChangeSpec := { name := "evolveSound", fn := fun _ => fun
  | [d1, d2, d3] => { results := [.lit (.bool true)], args := [d1, d2, d3] }
  | _ => none }
def evolveSoundRow : OpenClaim := { program := "ytjijnamhalgamaagreatdoor", sum := "8ca2c7d400800fa663f106ce423b01c31f5adad3945df4f7bfc887704b4a558d", func := "graphdb/graphdblaw55.EvolveSound", spec := "evolveSound", inPlace := ["math/bits.Add64", "math/bits.Sub64", "slices.overlaps[graphdb/api.Rule]", "slices.overlaps[graphdb/api.Node]", "slices.overlaps[string]", "slices.overlaps[graphdb/api.Prop]", "slices.overlaps[graphdb/api.Edge]"], unfollowed := true, recurses := true, named := ["graphdb/frac.zero"], loops := true, apart := false, laid := [("graphdb/frac.zero", laid_graphdb_frac_zero)] }
def EvolveSoundSaid : Prop := evolveSoundRow.holds Tryz.pinned (OpenSpec.ofChange evolveSoundSpec)

/-- ITS FALSE NEIGHBOUR: 'it returns false'. Refute it at one input. -/
def evolveSoundWrong : ChangeSpec := { name := "evolveSound", fn := fun _ => fun
  | [d1, d2, d3] => { results := [.lit (.bool false)], args := [d1, d2, d3] }
  | _ => none }
def EvolveSoundWrongFalsely : Prop := evolveSoundRow.holds Tryz.pinned (OpenSpec.ofChange evolveSoundWrong)

/-- 'graphdblaw55.EvolveParts': WHATEVER THE INPUT: true; the input reads as it did. -/
def evolvePartsSpec : ChangeSpec := { name := "evolveParts", fn := fun _ => fun
  | [d1, d2, d3] => { results := [.lit (.bool true)], args := [d1, d2, d3] }
  | _ => none }
def evolvePartsRow : OpenClaim := { program := "ytjijnamhalgamaagreatdoor", sum := "8ca2c7d400800fa663f106ce423b01c31f5adad3945df4f7bfc887704b4a558d", func := "graphdb/graphdblaw55.EvolveParts", spec := "evolveParts", inPlace := ["math/bits.Add64", "math/bits.Sub64", "slices.overlaps[graphdb/api.Rule]", "slices.overlaps[graphdb/api.Node]", "slices.overlaps[string]", "slices.overlaps[graphdb/api.Prop]", "slices.overlaps[graphdb/api.Edge]"], unfollowed := true, recurses := true, named := ["graphdb/frac.zero"], loops := true, apart := false, laid := [("graphdb/frac.zero", laid_graphdb_frac_zero)] }
def EvolvePartsSaid : Prop := evolvePartsRow.holds Tryz.pinned (OpenSpec.ofChange evolvePartsSpec)

/-- ITS FALSE NEIGHBOUR: 'it returns false'. Refute it at one input. -/
def evolvePartsWrong : ChangeSpec := { name := "evolveParts", fn := fun _ => fun
  | [d1, d2, d3] => { results := [.lit (.bool false)], args := [d1, d2, d3] }
  | _ => none }
def EvolvePartsWrongFalsely : Prop := evolvePartsRow.holds Tryz.pinned (OpenSpec.ofChange evolvePartsWrong)

/-- 'graphdblaw55.EvolveBack': WHATEVER THE INPUT: true; the input reads as it did. -/
def evolveBackSpec : ChangeSpec := { name := "evolveBack", fn := fun _ => fun
  | [d1, d2, d3] => { results := [.lit (.bool true)], args := [d1, d2, d3] }
  | _ => none }
def evolveBackRow : OpenClaim := { program := "ytjijnamhalgamaagreatdoor", sum := "8ca2c7d400800fa663f106ce423b01c31f5adad3945df4f7bfc887704b4a558d", func := "graphdb/graphdblaw55.EvolveBack", spec := "evolveBack", inPlace := ["math/bits.Add64", "math/bits.Sub64", "slices.overlaps[graphdb/api.Rule]", "slices.overlaps[graphdb/api.Node]", "slices.overlaps[string]", "slices.overlaps[graphdb/api.Prop]", "slices.overlaps[graphdb/api.Edge]"], unfollowed := true, recurses := true, named := ["graphdb/frac.zero"], loops := true, apart := false, laid := [("graphdb/frac.zero", laid_graphdb_frac_zero)] }
def EvolveBackSaid : Prop := evolveBackRow.holds Tryz.pinned (OpenSpec.ofChange evolveBackSpec)

/-- ITS FALSE NEIGHBOUR: 'it returns false'. Refute it at one input. -/
def evolveBackWrong : ChangeSpec := { name := "evolveBack", fn := fun _ => fun
  | [d1, d2, d3] => { results := [.lit (.bool false)], args := [d1, d2, d3] }
  | _ => none }
def EvolveBackWrongFalsely : Prop := evolveBackRow.holds Tryz.pinned (OpenSpec.ofChange evolveBackWrong)

/- THE SECOND FORM. 'bulk': how many values and letters a reading holds, each counted each time it is reached (what is shared counts as often as it is met; a slice's spare places count too). A statement '..UptoSaid' is the law's where the arguments, and the package variables that the reading takes, are together of bulk at most 1048576: NARROWER than '..Said'. Prove '..Said' where nothing that the law and all that it calls make is longer than what came in: it says more and counts as full. Else prove '..UptoSaid'. A law counts once. -/
mutual
def uptoBulk {H : Type} : DataW H → Nat
  | .lit (.string bytes) => bytes.length + 1
  | .lit _ => 1
  | .nil => 1
  | .ptr d => uptoBulk d + 1
  | .slice elems spare => uptoBulkAll elems + uptoBulkAll spare + 1
  | .agg parts => uptoBulkAll parts + 1
  | .iface _ d => uptoBulk d + 1
  | .map entries => uptoBulkEntries entries + 1
  | .held _ => 1
def uptoBulkAll {H : Type} : List (DataW H) → Nat
  | [] => 0
  | d :: r => uptoBulk d + uptoBulkAll r
def uptoBulkEntries {H : Type} : List (Lit × DataW H) → Nat
  | [] => 0
  | x :: r => uptoBulkEntry x + uptoBulkEntries r
def uptoBulkEntry {H : Type} : Lit × DataW H → Nat
  | (.string bytes, d) => bytes.length + uptoBulk d + 1
  | (_, d) => uptoBulk d + 1
 end
def uptoSmall : (H : Type) → List (DataW H) → Bool := fun _ ds => decide (uptoBulkAll ds ≤ 1048576)
def OpenSpec.upto (s : _root_.Go.ChangeSpec) : _root_.Go.OpenSpec := { _root_.Go.OpenSpec.ofChange s with cond := some uptoSmall }

/-- 'graphdblaw55.EvolveApplies', WHERE WHAT IT READS IS OF BULK AT MOST 1048576: true; the input reads as it did. -/
def evolveAppliesUptoRow : OpenClaim := { program := "ytjijnamhalgamaagreatdoor", sum := "8ca2c7d400800fa663f106ce423b01c31f5adad3945df4f7bfc887704b4a558d", func := "graphdb/graphdblaw55.EvolveApplies", spec := "evolveApplies", inPlace := ["math/bits.Add64", "math/bits.Sub64", "slices.overlaps[graphdb/api.Rule]", "slices.overlaps[graphdb/api.Node]", "slices.overlaps[string]", "slices.overlaps[graphdb/api.Prop]", "slices.overlaps[graphdb/api.Edge]"], unfollowed := true, recurses := true, named := ["graphdb/frac.zero"], loops := true, apart := false, laid := [("graphdb/frac.zero", laid_graphdb_frac_zero)], narrowed := true }
def EvolveAppliesUptoSaid : Prop := evolveAppliesUptoRow.holds Tryz.pinned (OpenSpec.upto evolveAppliesSpec)

/-- 'graphdblaw55.EvolveSound', WHERE WHAT IT READS IS OF BULK AT MOST 1048576: true; the input reads as it did. -/
def evolveSoundUptoRow : OpenClaim := { program := "ytjijnamhalgamaagreatdoor", sum := "8ca2c7d400800fa663f106ce423b01c31f5adad3945df4f7bfc887704b4a558d", func := "graphdb/graphdblaw55.EvolveSound", spec := "evolveSound", inPlace := ["math/bits.Add64", "math/bits.Sub64", "slices.overlaps[graphdb/api.Rule]", "slices.overlaps[graphdb/api.Node]", "slices.overlaps[string]", "slices.overlaps[graphdb/api.Prop]", "slices.overlaps[graphdb/api.Edge]"], unfollowed := true, recurses := true, named := ["graphdb/frac.zero"], loops := true, apart := false, laid := [("graphdb/frac.zero", laid_graphdb_frac_zero)], narrowed := true }
def EvolveSoundUptoSaid : Prop := evolveSoundUptoRow.holds Tryz.pinned (OpenSpec.upto evolveSoundSpec)

/-- 'graphdblaw55.EvolveParts', WHERE WHAT IT READS IS OF BULK AT MOST 1048576: true; the input reads as it did. -/
def evolvePartsUptoRow : OpenClaim := { program := "ytjijnamhalgamaagreatdoor", sum := "8ca2c7d400800fa663f106ce423b01c31f5adad3945df4f7bfc887704b4a558d", func := "graphdb/graphdblaw55.EvolveParts", spec := "evolveParts", inPlace := ["math/bits.Add64", "math/bits.Sub64", "slices.overlaps[graphdb/api.Rule]", "slices.overlaps[graphdb/api.Node]", "slices.overlaps[string]", "slices.overlaps[graphdb/api.Prop]", "slices.overlaps[graphdb/api.Edge]"], unfollowed := true, recurses := true, named := ["graphdb/frac.zero"], loops := true, apart := false, laid := [("graphdb/frac.zero", laid_graphdb_frac_zero)], narrowed := true }
def EvolvePartsUptoSaid : Prop := evolvePartsUptoRow.holds Tryz.pinned (OpenSpec.upto evolvePartsSpec)

/-- 'graphdblaw55.EvolveBack', WHERE WHAT IT READS IS OF BULK AT MOST 1048576: true; the input reads as it did. -/
def evolveBackUptoRow : OpenClaim := { program := "ytjijnamhalgamaagreatdoor", sum := "8ca2c7d400800fa663f106ce423b01c31f5adad3945df4f7bfc887704b4a558d", func := "graphdb/graphdblaw55.EvolveBack", spec := "evolveBack", inPlace := ["math/bits.Add64", "math/bits.Sub64", "slices.overlaps[graphdb/api.Rule]", "slices.overlaps[graphdb/api.Node]", "slices.overlaps[string]", "slices.overlaps[graphdb/api.Prop]", "slices.overlaps[graphdb/api.Edge]"], unfollowed := true, recurses := true, named := ["graphdb/frac.zero"], loops := true, apart := false, laid := [("graphdb/frac.zero", laid_graphdb_frac_zero)], narrowed := true }
def EvolveBackUptoSaid : Prop := evolveBackUptoRow.holds Tryz.pinned (OpenSpec.upto evolveBackSpec)

end Rows
end Go.Proofs.YtjijnamhalgamaaGreatDoor
