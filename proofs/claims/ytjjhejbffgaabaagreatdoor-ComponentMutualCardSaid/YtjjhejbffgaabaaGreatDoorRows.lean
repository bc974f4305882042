/-
  NARROWER THAN 'FOR EVERY INPUT', by the rows' own cells (each row's printed sentence says how): ComponentFinds: loops, laid · ComponentFine: loops, laid · ComponentSorts: loops, laid · ComponentMutual: loops, laid.
  DERIVED. THE GIVEN ROWS OF THIS SEAT. 4 by the template 'for every input the law returns true; each argument reads behind the call as it read before'; 0 by the template 'total and deterministic' (their statements: YtjjhejbffgaabaaGreatDoorTotals.lean).
  GIVEN WITH THE SEED: the statements are not yours to turn. If you find one false, say at which input.
  Laid BY PROGRAM, IN A SANDBOX (cutbox-rows.mjs): the forced cells as the released guide's own fill.sh prints them over the translation 18e9b6931f279206… (all of the seat's roots in one cut). By AI agents, Wed Nov 11 2026. No macro, syntax, notation, axiom, sorry.
-/
import Derived.Test.YtjjhejbffgaabaaGreatDoorChecked
import GoSem.Claim
import GoSem.ClaimJoined
import GoSem.ClaimMapViews
import Derived.JoinedTies
import Derived.KernelRfl
namespace Go.Proofs.YtjjhejbffgaabaaGreatDoor
/- THE CELL 'sum', in the pinned program and in every row, IS THE sha256 OF THE DUMP (.gsa) THAT YtjjhejbffgaabaaGreatDoorProg.lean LOADS. Nothing in Lean hashes anything: it is a label: what it is worth is what the hold of that sum in a sandbox is worth. -/
noncomputable def Tryz.pinned : Pinned := { name := "ytjjhejbffgaabaagreatdoor", sum := "18e9b6931f2792067ad7a0f704f383ce45c5a66683e876c28f1f47a6650a3a30", checked := Tryz.checked }
namespace Rows
def none {H : Type} : Left H := { results := [], args := [] }

/- WHAT THE LISTED PACKAGE-LEVEL VARIABLES READ AS WHEN THE CALL BEGINS. Each datum BY PROGRAM (the guide's laid-datum.mjs) off the statement by which the dump's own 'gosem.cut.vars' lays the variable. In a bare row this is a premise. The card (YtjjhejbffgaabaaGreatDoorCards.lean) ties it to the program's text. -/
def laid_graphdb_frac_zero {H : Type} : DataW H := .agg [.lit (.int .i64 0), .lit (.int .i64 1)]

/-- 'graphdblaw50.ComponentFinds': WHATEVER THE INPUT: true; the input reads as it did. -/
def componentFindsSpec : ChangeSpec := { name := "componentFinds", fn := fun _ => fun
  | [d1, d2] => { results := [.lit (.bool true)], args := [d1, d2] }
  | _ => none }
def componentFindsRow : OpenClaim := { program := "ytjjhejbffgaabaagreatdoor", sum := "18e9b6931f2792067ad7a0f704f383ce45c5a66683e876c28f1f47a6650a3a30", func := "graphdb/graphdblaw50.ComponentFinds", spec := "componentFinds", inPlace := ["math/bits.Add64", "math/bits.Sub64", "slices.overlaps[graphdb/api.Node]", "slices.overlaps[string]", "slices.overlaps[graphdb/api.Prop]", "slices.overlaps[graphdb/api.Edge]"], unfollowed := true, recurses := true, named := ["graphdb/frac.zero"], loops := true, apart := false, laid := [("graphdb/frac.zero", laid_graphdb_frac_zero)] }
def ComponentFindsSaid : Prop := componentFindsRow.holds Tryz.pinned (OpenSpec.ofChange componentFindsSpec)

/-- ITS FALSE NEIGHBOUR: 'it returns false'. Refute it at one input. -/
def componentFindsWrong : ChangeSpec := { name := "componentFinds", fn := fun _ => fun
  | [d1, d2] => { results := [.lit (.bool false)], args := [d1, d2] }
  | _ => none }
def ComponentFindsWrongFalsely : Prop := componentFindsRow.holds Tryz.pinned (OpenSpec.ofChange componentFindsWrong)

/-- 'graphdblaw50.ComponentFine': WHATEVER THE INPUT: true; the input reads as it did. -/
def componentFineSpec : ChangeSpec := { name := "componentFine", fn := fun _ => fun
  | [d1, d2] => { results := [.lit (.bool true)], args := [d1, d2] }
  | _ => none }
def componentFineRow : OpenClaim := { program := "ytjjhejbffgaabaagreatdoor", sum := "18e9b6931f2792067ad7a0f704f383ce45c5a66683e876c28f1f47a6650a3a30", func := "graphdb/graphdblaw50.ComponentFine", spec := "componentFine", inPlace := ["math/bits.Add64", "math/bits.Sub64", "slices.overlaps[graphdb/api.Node]", "slices.overlaps[string]", "slices.overlaps[graphdb/api.Prop]", "slices.overlaps[graphdb/api.Edge]"], unfollowed := true, recurses := true, named := ["graphdb/frac.zero"], loops := true, apart := false, laid := [("graphdb/frac.zero", laid_graphdb_frac_zero)] }
def ComponentFineSaid : Prop := componentFineRow.holds Tryz.pinned (OpenSpec.ofChange componentFineSpec)

/-- ITS FALSE NEIGHBOUR: 'it returns false'. Refute it at one input. -/
def componentFineWrong : ChangeSpec := { name := "componentFine", fn := fun _ => fun
  | [d1, d2] => { results := [.lit (.bool false)], args := [d1, d2] }
  | _ => none }
def ComponentFineWrongFalsely : Prop := componentFineRow.holds Tryz.pinned (OpenSpec.ofChange componentFineWrong)

/-- 'graphdblaw50.ComponentSorts': WHATEVER THE INPUT: true; the input reads as it did. -/
def componentSortsSpec : ChangeSpec := { name := "componentSorts", fn := fun _ => fun
  | [d1, d2] => { results := [.lit (.bool true)], args := [d1, d2] }
  | _ => none }
def componentSortsRow : OpenClaim := { program := "ytjjhejbffgaabaagreatdoor", sum := "18e9b6931f2792067ad7a0f704f383ce45c5a66683e876c28f1f47a6650a3a30", func := "graphdb/graphdblaw50.ComponentSorts", spec := "componentSorts", inPlace := ["math/bits.Add64", "math/bits.Sub64", "slices.overlaps[graphdb/api.Node]", "slices.overlaps[string]", "slices.overlaps[graphdb/api.Prop]", "slices.overlaps[graphdb/api.Edge]"], unfollowed := true, recurses := true, named := ["graphdb/frac.zero"], loops := true, apart := false, laid := [("graphdb/frac.zero", laid_graphdb_frac_zero)] }
def ComponentSortsSaid : Prop := componentSortsRow.holds Tryz.pinned (OpenSpec.ofChange componentSortsSpec)

/-- ITS FALSE NEIGHBOUR: 'it returns false'. Refute it at one input. -/
def componentSortsWrong : ChangeSpec := { name := "componentSorts", fn := fun _ => fun
  | [d1, d2] => { results := [.lit (.bool false)], args := [d1, d2] }
  | _ => none }
def ComponentSortsWrongFalsely : Prop := componentSortsRow.holds Tryz.pinned (OpenSpec.ofChange componentSortsWrong)

/-- 'graphdblaw50.ComponentMutual': WHATEVER THE INPUT: true; the input reads as it did. -/
def componentMutualSpec : ChangeSpec := { name := "componentMutual", fn := fun _ => fun
  | [d1, d2, d3] => { results := [.lit (.bool true)], args := [d1, d2, d3] }
  | _ => none }
def componentMutualRow : OpenClaim := { program := "ytjjhejbffgaabaagreatdoor", sum := "18e9b6931f2792067ad7a0f704f383ce45c5a66683e876c28f1f47a6650a3a30", func := "graphdb/graphdblaw50.ComponentMutual", spec := "componentMutual", inPlace := ["math/bits.Add64", "math/bits.Sub64", "slices.overlaps[graphdb/api.Node]", "slices.overlaps[string]", "slices.overlaps[graphdb/api.Prop]", "slices.overlaps[graphdb/api.Edge]"], unfollowed := true, recurses := true, named := ["graphdb/frac.zero"], loops := true, apart := false, laid := [("graphdb/frac.zero", laid_graphdb_frac_zero)] }
def ComponentMutualSaid : Prop := componentMutualRow.holds Tryz.pinned (OpenSpec.ofChange componentMutualSpec)

/-- ITS FALSE NEIGHBOUR: 'it returns false'. Refute it at one input. -/
def componentMutualWrong : ChangeSpec := { name := "componentMutual", fn := fun _ => fun
  | [d1, d2, d3] => { results := [.lit (.bool false)], args := [d1, d2, d3] }
  | _ => none }
def ComponentMutualWrongFalsely : Prop := componentMutualRow.holds Tryz.pinned (OpenSpec.ofChange componentMutualWrong)

/- THE SECOND FORM. 'bulk': how many values and letters a reading holds, each counted each time it is reached (what is shared counts as often as it is met; a slice's spare places count too). A statement '..UptoSaid' is the law's where the arguments, and the package variables that the reading takes, are together of bulk at most 1048576: NARROWER than '..Said'. Prove '..Said' where nothing that the law and all that it calls make is longer than what came in: it says more and counts as full. Else prove '..UptoSaid'. A law counts once. -/
mutual
def uptoBulk {H : Type} : DataW H → Nat
  | .lit (.string bytes) => bytes.length + 1
  | .lit _ => 1
  | .nil => 1
  | .ptr d => uptoBulk d + 1
  | .slice elems spare => uptoBulkAll elems + uptoBulkAll spare + 1
  | .agg parts => uptoBulkAll parts + 1
  | .iface _ d => uptoBulk d + 1
  | .map entries => uptoBulkEntries entries + 1
  | .held _ => 1
def uptoBulkAll {H : Type} : List (DataW H) → Nat
  | [] => 0
  | d :: r => uptoBulk d + uptoBulkAll r
def uptoBulkEntries {H : Type} : List (Lit × DataW H) → Nat
  | [] => 0
  | x :: r => uptoBulkEntry x + uptoBulkEntries r
def uptoBulkEntry {H : Type} : Lit × DataW H → Nat
  | (.string bytes, d) => bytes.length + uptoBulk d + 1
  | (_, d) => uptoBulk d + 1
 end
def uptoSmall : (H : Type) → List (DataW H) → Bool := fun _ ds => decide (uptoBulkAll ds ≤ 1048576)
def OpenSpec.upto (s : _root_.Go.ChangeSpec) : _root_.Go.OpenSpec := { _root_.Go.OpenSpec.ofChange s with cond := some uptoSmall }

/-- 'graphdblaw50.ComponentFinds', WHERE WHAT IT READS IS OF BULK AT MOST 1048576: true; the input reads as it did. -/
def componentFindsUptoRow : OpenClaim := { program := "ytjjhejbffgaabaagreatdoor", sum := "18e9b6931f2792067ad7a0f704f383ce45c5a66683e876c28f1f47a6650a3a30", func := "graphdb/graphdblaw50.ComponentFinds", spec := "componentFinds", inPlace := ["math/bits.Add64", "math/bits.Sub64", "slices.overlaps[graphdb/api.Node]", "slices.overlaps[string]", "slices.overlaps[graphdb/api.Prop]", "slices.overlaps[graphdb/api.Edge]"], unfollowed := true, recurses := true, named := ["graphdb/frac.zero"], loops := true, apart := false, laid := [("graphdb/frac.zero", laid_graphdb_frac_zero)], narrowed := true }
def ComponentFindsUptoSaid : Prop := componentFindsUptoRow.holds Tryz.pinned (OpenSpec.upto componentFindsSpec)

/-- 'graphdblaw50.ComponentFine', WHERE WHAT IT READS IS OF BULK AT MOST 1048576: true; the input reads as it did. -/
def componentFineUptoRow : OpenClaim := { program := "ytjjhejbffgaabaagreatdoor", sum := "18e9b6931f2792067ad7a0f704f383ce45c5a66683e876c28f1f47a6650a3a30", func := "graphdb/graphdblaw50.ComponentFine", spec := "componentFine", inPlace := ["math/bits.Add64", "math/bits.Sub64", "slices.overlaps[graphdb/api.Node]", "slices.overlaps[string]", "slices.overlaps[graphdb/api.Prop]", "slices.overlaps[graphdb/api.Edge]"], unfollowed := true, recurses := true, named := ["graphdb/frac.zero"], loops := true, apart := false, laid := [("graphdb/frac.zero", laid_graphdb_frac_zero)], narrowed := true }
def ComponentFineUptoSaid : Prop := componentFineUptoRow.holds Tryz.pinned (OpenSpec.upto componentFineSpec)

/-- 'graphdblaw50.ComponentSorts', WHERE WHAT IT READS IS OF BULK AT MOST 1048576: true; the input reads as it did. -/
def componentSortsUptoRow : OpenClaim := { program := "ytjjhejbffgaabaagreatdoor", sum := "18e9b6931f2792067ad7a0f704f383ce45c5a66683e876c28f1f47a6650a3a30", func := "graphdb/graphdblaw50.ComponentSorts", spec := "componentSorts", inPlace := ["math/bits.Add64", "math/bits.Sub64", "slices.overlaps[graphdb/api.Node]", "slices.overlaps[string]", "slices.overlaps[graphdb/api.Prop]", "slices.overlaps[graphdb/api.Edge]"], unfollowed := true, recurses := true, named := ["graphdb/frac.zero"], loops := true, apart := false, laid := [("graphdb/frac.zero", laid_graphdb_frac_zero)], narrowed := true }
def ComponentSortsUptoSaid : Prop := componentSortsUptoRow.holds Tryz.pinned (OpenSpec.upto componentSortsSpec)

/-- 'graphdblaw50.ComponentMutual', WHERE WHAT IT READS IS OF BULK AT MOST 1048576: true; the input reads as it did. -/
def componentMutualUptoRow : OpenClaim := { program := "ytjjhejbffgaabaagreatdoor", sum := "18e9b6931f2792067ad7a0f704f383ce45c5a66683e876c28f1f47a6650a3a30", func := "graphdb/graphdblaw50.ComponentMutual", spec := "componentMutual", inPlace := ["math/bits.Add64", "math/bits.Sub64", "slices.overlaps[graphdb/api.Node]", "slices.overlaps[string]", "slices.overlaps[graphdb/api.Prop]", "slices.overlaps[graphdb/api.Edge]"], unfollowed := true, recurses := true, named := ["graphdb/frac.zero"], loops := true, apart := false, laid := [("graphdb/frac.zero", laid_graphdb_frac_zero)], narrowed := true }
def ComponentMutualUptoSaid : Prop := componentMutualUptoRow.holds Tryz.pinned (OpenSpec.upto componentMutualSpec)

end Rows
end Go.Proofs.YtjjhejbffgaabaaGreatDoor
