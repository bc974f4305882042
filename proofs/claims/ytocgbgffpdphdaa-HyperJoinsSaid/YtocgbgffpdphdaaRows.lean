/-
  No cell of these rows narrows 'for every input' (looked for: loops, veiled, ifaces, maps, wideKeys, modest, calm, conditions, laid).
  DERIVED. THE GIVEN ROWS OF THIS SEAT. 6 by the template 'for every input the law returns true; each argument reads behind the call as it read before'; 0 by the template 'total and deterministic' (their statements: YtocgbgffpdphdaaTotals.lean).
  GIVEN WITH THE SEED: the statements are not yours to turn. If you find one false, say at which input.
  Laid BY PROGRAM, IN A SANDBOX (cutbox-rows.mjs): the forced cells as the released guide's own fill.sh prints them over the translation cbf83d8cfb0dfc32… (all of the seat's roots in one cut). By AI agents, Wed Nov 11 2026. No macro, syntax, notation, axiom, sorry.
-/
import Derived.Test.YtocgbgffpdphdaaChecked
import GoSem.Claim
import GoSem.ClaimJoined
import GoSem.ClaimMapViews
import Derived.JoinedTies
import Derived.KernelRfl
namespace Go.Proofs.Ytocgbgffpdphdaa
/- THE CELL 'sum', in the pinned program and in every row, IS THE sha256 OF THE DUMP (.gsa) THAT YtocgbgffpdphdaaProg.lean LOADS. Nothing in Lean hashes anything: it is a label: what it is worth is what the hold of that sum in a sandbox is worth. -/
noncomputable def Try.pinned : Pinned := { name := "ytocgbgffpdphdaa", sum := "cbf83d8cfb0dfc32cdfec94c9eeb93e5efc673d20150b40014ef5609bdc73684", checked := Try.checked }
namespace Rows
def none {H : Type} : Left H := { results := [], args := [] }

/-- 'graphdblaw29.HyperParts': WHATEVER THE INPUT: true; the input reads as it did. -/
def hyperPartsSpec : ChangeSpec := { name := "hyperParts", fn := fun _ => fun
  | [d] => { results := [.lit (.bool true)], args := [d] }
  | _ => none }
def hyperPartsRow : OpenClaim := { program := "ytocgbgffpdphdaa", sum := "cbf83d8cfb0dfc32cdfec94c9eeb93e5efc673d20150b40014ef5609bdc73684", func := "graphdb/graphdblaw29.HyperParts", spec := "hyperParts", unfollowed := true, recurses := true, apart := false }
def HyperPartsSaid : Prop := hyperPartsRow.holds Try.pinned (OpenSpec.ofChange hyperPartsSpec)

/-- ITS FALSE NEIGHBOUR: 'it returns false'. Refute it at one input. -/
def hyperPartsWrong : ChangeSpec := { name := "hyperParts", fn := fun _ => fun
  | [d] => { results := [.lit (.bool false)], args := [d] }
  | _ => none }
def HyperPartsWrongFalsely : Prop := hyperPartsRow.holds Try.pinned (OpenSpec.ofChange hyperPartsWrong)

/-- 'graphdblaw29.HyperReduces': WHATEVER THE INPUT: true; the input reads as it did. -/
def hyperReducesSpec : ChangeSpec := { name := "hyperReduces", fn := fun _ => fun
  | [d] => { results := [.lit (.bool true)], args := [d] }
  | _ => none }
def hyperReducesRow : OpenClaim := { program := "ytocgbgffpdphdaa", sum := "cbf83d8cfb0dfc32cdfec94c9eeb93e5efc673d20150b40014ef5609bdc73684", func := "graphdb/graphdblaw29.HyperReduces", spec := "hyperReduces", unfollowed := true, recurses := true, apart := false }
def HyperReducesSaid : Prop := hyperReducesRow.holds Try.pinned (OpenSpec.ofChange hyperReducesSpec)

/-- ITS FALSE NEIGHBOUR: 'it returns false'. Refute it at one input. -/
def hyperReducesWrong : ChangeSpec := { name := "hyperReduces", fn := fun _ => fun
  | [d] => { results := [.lit (.bool false)], args := [d] }
  | _ => none }
def HyperReducesWrongFalsely : Prop := hyperReducesRow.holds Try.pinned (OpenSpec.ofChange hyperReducesWrong)

/-- 'graphdblaw29.HyperTrees': WHATEVER THE INPUT: true; the input reads as it did. -/
def hyperTreesSpec : ChangeSpec := { name := "hyperTrees", fn := fun _ => fun
  | [d1, d2] => { results := [.lit (.bool true)], args := [d1, d2] }
  | _ => none }
def hyperTreesRow : OpenClaim := { program := "ytocgbgffpdphdaa", sum := "cbf83d8cfb0dfc32cdfec94c9eeb93e5efc673d20150b40014ef5609bdc73684", func := "graphdb/graphdblaw29.HyperTrees", spec := "hyperTrees", unfollowed := true, recurses := true, apart := false }
def HyperTreesSaid : Prop := hyperTreesRow.holds Try.pinned (OpenSpec.ofChange hyperTreesSpec)

/-- ITS FALSE NEIGHBOUR: 'it returns false'. Refute it at one input. -/
def hyperTreesWrong : ChangeSpec := { name := "hyperTrees", fn := fun _ => fun
  | [d1, d2] => { results := [.lit (.bool false)], args := [d1, d2] }
  | _ => none }
def HyperTreesWrongFalsely : Prop := hyperTreesRow.holds Try.pinned (OpenSpec.ofChange hyperTreesWrong)

/-- 'graphdblaw29.HyperJoins': WHATEVER THE INPUT: true; the input reads as it did. -/
def hyperJoinsSpec : ChangeSpec := { name := "hyperJoins", fn := fun _ => fun
  | [d] => { results := [.lit (.bool true)], args := [d] }
  | _ => none }
def hyperJoinsRow : OpenClaim := { program := "ytocgbgffpdphdaa", sum := "cbf83d8cfb0dfc32cdfec94c9eeb93e5efc673d20150b40014ef5609bdc73684", func := "graphdb/graphdblaw29.HyperJoins", spec := "hyperJoins", unfollowed := true, recurses := true, apart := false }
def HyperJoinsSaid : Prop := hyperJoinsRow.holds Try.pinned (OpenSpec.ofChange hyperJoinsSpec)

/-- ITS FALSE NEIGHBOUR: 'it returns false'. Refute it at one input. -/
def hyperJoinsWrong : ChangeSpec := { name := "hyperJoins", fn := fun _ => fun
  | [d] => { results := [.lit (.bool false)], args := [d] }
  | _ => none }
def HyperJoinsWrongFalsely : Prop := hyperJoinsRow.holds Try.pinned (OpenSpec.ofChange hyperJoinsWrong)

/-- 'graphdblaw29.HyperWitness': WHATEVER THE INPUT: true; the input reads as it did. -/
def hyperWitnessSpec : ChangeSpec := { name := "hyperWitness", fn := fun _ => fun
  | [d1, d2] => { results := [.lit (.bool true)], args := [d1, d2] }
  | _ => none }
def hyperWitnessRow : OpenClaim := { program := "ytocgbgffpdphdaa", sum := "cbf83d8cfb0dfc32cdfec94c9eeb93e5efc673d20150b40014ef5609bdc73684", func := "graphdb/graphdblaw29.HyperWitness", spec := "hyperWitness", unfollowed := true, recurses := true, apart := false }
def HyperWitnessSaid : Prop := hyperWitnessRow.holds Try.pinned (OpenSpec.ofChange hyperWitnessSpec)

/-- ITS FALSE NEIGHBOUR: 'it returns false'. Refute it at one input. -/
def hyperWitnessWrong : ChangeSpec := { name := "hyperWitness", fn := fun _ => fun
  | [d1, d2] => { results := [.lit (.bool false)], args := [d1, d2] }
  | _ => none }
def HyperWitnessWrongFalsely : Prop := hyperWitnessRow.holds Try.pinned (OpenSpec.ofChange hyperWitnessWrong)

/-- 'graphdblaw29.HyperFull': WHATEVER THE INPUT: true; the input reads as it did. -/
def hyperFullSpec : ChangeSpec := { name := "hyperFull", fn := fun _ => fun
  | [d] => { results := [.lit (.bool true)], args := [d] }
  | _ => none }
def hyperFullRow : OpenClaim := { program := "ytocgbgffpdphdaa", sum := "cbf83d8cfb0dfc32cdfec94c9eeb93e5efc673d20150b40014ef5609bdc73684", func := "graphdb/graphdblaw29.HyperFull", spec := "hyperFull", unfollowed := true, recurses := true, apart := false }
def HyperFullSaid : Prop := hyperFullRow.holds Try.pinned (OpenSpec.ofChange hyperFullSpec)

/-- ITS FALSE NEIGHBOUR: 'it returns false'. Refute it at one input. -/
def hyperFullWrong : ChangeSpec := { name := "hyperFull", fn := fun _ => fun
  | [d] => { results := [.lit (.bool false)], args := [d] }
  | _ => none }
def HyperFullWrongFalsely : Prop := hyperFullRow.holds Try.pinned (OpenSpec.ofChange hyperFullWrong)

/- THE SECOND FORM. 'bulk': how many values and letters a reading holds, each counted each time it is reached (what is shared counts as often as it is met; a slice's spare places count too). A statement '..UptoSaid' is the law's where the arguments, and the package variables that the reading takes, are together of bulk at most 1048576: NARROWER than '..Said'. Prove '..Said' where nothing that the law and all that it calls make is longer than what came in: it says more and counts as full. Else prove '..UptoSaid'. A law counts once. -/
mutual
def uptoBulk {H : Type} : DataW H → Nat
  | .lit (.string bytes) => bytes.length + 1
  | .lit _ => 1
  | .nil => 1
  | .ptr d => uptoBulk d + 1
  | .slice elems spare => uptoBulkAll elems + uptoBulkAll spare + 1
  | .agg parts => uptoBulkAll parts + 1
  | .iface _ d => uptoBulk d + 1
  | .map entries => uptoBulkEntries entries + 1
  | .held _ => 1
def uptoBulkAll {H : Type} : List (DataW H) → Nat
  | [] => 0
  | d :: r => uptoBulk d + uptoBulkAll r
def uptoBulkEntries {H : Type} : List (Lit × DataW H) → Nat
  | [] => 0
  | x :: r => uptoBulkEntry x + uptoBulkEntries r
def uptoBulkEntry {H : Type} : Lit × DataW H → Nat
  | (.string bytes, d) => bytes.length + uptoBulk d + 1
  | (_, d) => uptoBulk d + 1
 end
def uptoSmall : (H : Type) → List (DataW H) → Bool := fun _ ds => decide (uptoBulkAll ds ≤ 1048576)
def OpenSpec.upto (s : _root_.Go.ChangeSpec) : _root_.Go.OpenSpec := { _root_.Go.OpenSpec.ofChange s with cond := some uptoSmall }

/-- 'graphdblaw29.HyperParts', WHERE WHAT IT READS IS OF BULK AT MOST 1048576: true; the input reads as it did. -/
def hyperPartsUptoRow : OpenClaim := { program := "ytocgbgffpdphdaa", sum := "cbf83d8cfb0dfc32cdfec94c9eeb93e5efc673d20150b40014ef5609bdc73684", func := "graphdb/graphdblaw29.HyperParts", spec := "hyperParts", unfollowed := true, recurses := true, apart := false, narrowed := true }
def HyperPartsUptoSaid : Prop := hyperPartsUptoRow.holds Try.pinned (OpenSpec.upto hyperPartsSpec)

/-- 'graphdblaw29.HyperReduces', WHERE WHAT IT READS IS OF BULK AT MOST 1048576: true; the input reads as it did. -/
def hyperReducesUptoRow : OpenClaim := { program := "ytocgbgffpdphdaa", sum := "cbf83d8cfb0dfc32cdfec94c9eeb93e5efc673d20150b40014ef5609bdc73684", func := "graphdb/graphdblaw29.HyperReduces", spec := "hyperReduces", unfollowed := true, recurses := true, apart := false, narrowed := true }
def HyperReducesUptoSaid : Prop := hyperReducesUptoRow.holds Try.pinned (OpenSpec.upto hyperReducesSpec)

/-- 'graphdblaw29.HyperTrees', WHERE WHAT IT READS IS OF BULK AT MOST 1048576: true; the input reads as it did. -/
def hyperTreesUptoRow : OpenClaim := { program := "ytocgbgffpdphdaa", sum := "cbf83d8cfb0dfc32cdfec94c9eeb93e5efc673d20150b40014ef5609bdc73684", func := "graphdb/graphdblaw29.HyperTrees", spec := "hyperTrees", unfollowed := true, recurses := true, apart := false, narrowed := true }
def HyperTreesUptoSaid : Prop := hyperTreesUptoRow.holds Try.pinned (OpenSpec.upto hyperTreesSpec)

/-- 'graphdblaw29.HyperJoins', WHERE WHAT IT READS IS OF BULK AT MOST 1048576: true; the input reads as it did. -/
def hyperJoinsUptoRow : OpenClaim := { program := "ytocgbgffpdphdaa", sum := "cbf83d8cfb0dfc32cdfec94c9eeb93e5efc673d20150b40014ef5609bdc73684", func := "graphdb/graphdblaw29.HyperJoins", spec := "hyperJoins", unfollowed := true, recurses := true, apart := false, narrowed := true }
def HyperJoinsUptoSaid : Prop := hyperJoinsUptoRow.holds Try.pinned (OpenSpec.upto hyperJoinsSpec)

/-- 'graphdblaw29.HyperWitness', WHERE WHAT IT READS IS OF BULK AT MOST 1048576: true; the input reads as it did. -/
def hyperWitnessUptoRow : OpenClaim := { program := "ytocgbgffpdphdaa", sum := "cbf83d8cfb0dfc32cdfec94c9eeb93e5efc673d20150b40014ef5609bdc73684", func := "graphdb/graphdblaw29.HyperWitness", spec := "hyperWitness", unfollowed := true, recurses := true, apart := false, narrowed := true }
def HyperWitnessUptoSaid : Prop := hyperWitnessUptoRow.holds Try.pinned (OpenSpec.upto hyperWitnessSpec)

/-- 'graphdblaw29.HyperFull', WHERE WHAT IT READS IS OF BULK AT MOST 1048576: true; the input reads as it did. -/
def hyperFullUptoRow : OpenClaim := { program := "ytocgbgffpdphdaa", sum := "cbf83d8cfb0dfc32cdfec94c9eeb93e5efc673d20150b40014ef5609bdc73684", func := "graphdb/graphdblaw29.HyperFull", spec := "hyperFull", unfollowed := true, recurses := true, apart := false, narrowed := true }
def HyperFullUptoSaid : Prop := hyperFullUptoRow.holds Try.pinned (OpenSpec.upto hyperFullSpec)

end Rows
end Go.Proofs.Ytocgbgffpdphdaa
