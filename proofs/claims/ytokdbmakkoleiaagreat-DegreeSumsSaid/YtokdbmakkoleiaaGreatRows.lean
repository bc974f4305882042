/-
  NARROWER THAN 'FOR EVERY INPUT', by the rows' own cells (each row's printed sentence says how): DegreeOf: loops · DegreeSums: loops · DegreeWalks: loops.
  DERIVED. THE GIVEN ROWS OF THIS SEAT. 3 by the template 'for every input the law returns true; each argument reads behind the call as it read before'; 0 by the template 'total and deterministic' (their statements: YtokdbmakkoleiaaGreatTotals.lean).
  GIVEN WITH THE SEED: the statements are not yours to turn. If you find one false, say at which input.
  Laid BY PROGRAM, IN A SANDBOX (cutbox-rows.mjs): the forced cells as the released guide's own fill.sh prints them over the translation 1ba36e30ffe6af3f… (all of the seat's roots in one cut). By AI agents, Wed Nov 11 2026. No macro, syntax, notation, axiom, sorry.
-/
import Derived.Test.YtokdbmakkoleiaaGreatChecked
import GoSem.Claim
import GoSem.ClaimJoined
import GoSem.ClaimMapViews
import Derived.JoinedTies
import Derived.KernelRfl
namespace Go.Proofs.YtokdbmakkoleiaaGreat
/- THE CELL 'sum', in the pinned program and in every row, IS THE sha256 OF THE DUMP (.gsa) THAT YtokdbmakkoleiaaGreatProg.lean LOADS. Nothing in Lean hashes anything: it is a label: what it is worth is what the hold of that sum in a sandbox is worth. -/
noncomputable def Tryz.pinned : Pinned := { name := "ytokdbmakkoleiaagreat", sum := "1ba36e30ffe6af3fca51354f89215d839a3403723836195bda741ef1280d3d69", checked := Tryz.checked }
namespace Rows
def none {H : Type} : Left H := { results := [], args := [] }

/-- 'graphdblaw16.DegreeOf': WHATEVER THE INPUT: true; the input reads as it did. -/
def degreeOfSpec : ChangeSpec := { name := "degreeOf", fn := fun _ => fun
  | [d1, d2, d3] => { results := [.lit (.bool true)], args := [d1, d2, d3] }
  | _ => none }
def degreeOfRow : OpenClaim := { program := "ytokdbmakkoleiaagreat", sum := "1ba36e30ffe6af3fca51354f89215d839a3403723836195bda741ef1280d3d69", func := "graphdb/graphdblaw16.DegreeOf", spec := "degreeOf", unfollowed := true, recurses := true, loops := true, apart := false }
def DegreeOfSaid : Prop := degreeOfRow.holds Tryz.pinned (OpenSpec.ofChange degreeOfSpec)

/-- ITS FALSE NEIGHBOUR: 'it returns false'. Refute it at one input. -/
def degreeOfWrong : ChangeSpec := { name := "degreeOf", fn := fun _ => fun
  | [d1, d2, d3] => { results := [.lit (.bool false)], args := [d1, d2, d3] }
  | _ => none }
def DegreeOfWrongFalsely : Prop := degreeOfRow.holds Tryz.pinned (OpenSpec.ofChange degreeOfWrong)

/-- 'graphdblaw16.DegreeSums': WHATEVER THE INPUT: true; the input reads as it did. -/
def degreeSumsSpec : ChangeSpec := { name := "degreeSums", fn := fun _ => fun
  | [d] => { results := [.lit (.bool true)], args := [d] }
  | _ => none }
def degreeSumsRow : OpenClaim := { program := "ytokdbmakkoleiaagreat", sum := "1ba36e30ffe6af3fca51354f89215d839a3403723836195bda741ef1280d3d69", func := "graphdb/graphdblaw16.DegreeSums", spec := "degreeSums", unfollowed := true, recurses := true, loops := true, apart := false }
def DegreeSumsSaid : Prop := degreeSumsRow.holds Tryz.pinned (OpenSpec.ofChange degreeSumsSpec)

/-- ITS FALSE NEIGHBOUR: 'it returns false'. Refute it at one input. -/
def degreeSumsWrong : ChangeSpec := { name := "degreeSums", fn := fun _ => fun
  | [d] => { results := [.lit (.bool false)], args := [d] }
  | _ => none }
def DegreeSumsWrongFalsely : Prop := degreeSumsRow.holds Tryz.pinned (OpenSpec.ofChange degreeSumsWrong)

/-- 'graphdblaw16.DegreeWalks': WHATEVER THE INPUT: true; the input reads as it did. -/
def degreeWalksSpec : ChangeSpec := { name := "degreeWalks", fn := fun _ => fun
  | [d1, d2, d3] => { results := [.lit (.bool true)], args := [d1, d2, d3] }
  | _ => none }
def degreeWalksRow : OpenClaim := { program := "ytokdbmakkoleiaagreat", sum := "1ba36e30ffe6af3fca51354f89215d839a3403723836195bda741ef1280d3d69", func := "graphdb/graphdblaw16.DegreeWalks", spec := "degreeWalks", unfollowed := true, recurses := true, loops := true, apart := false }
def DegreeWalksSaid : Prop := degreeWalksRow.holds Tryz.pinned (OpenSpec.ofChange degreeWalksSpec)

/-- ITS FALSE NEIGHBOUR: 'it returns false'. Refute it at one input. -/
def degreeWalksWrong : ChangeSpec := { name := "degreeWalks", fn := fun _ => fun
  | [d1, d2, d3] => { results := [.lit (.bool false)], args := [d1, d2, d3] }
  | _ => none }
def DegreeWalksWrongFalsely : Prop := degreeWalksRow.holds Tryz.pinned (OpenSpec.ofChange degreeWalksWrong)

/- THE SECOND FORM. 'bulk': how many values and letters a reading holds, each counted each time it is reached (what is shared counts as often as it is met; a slice's spare places count too). A statement '..UptoSaid' is the law's where the arguments, and the package variables that the reading takes, are together of bulk at most 1048576: NARROWER than '..Said'. Prove '..Said' where nothing that the law and all that it calls make is longer than what came in: it says more and counts as full. Else prove '..UptoSaid'. A law counts once. -/
mutual
def uptoBulk {H : Type} : DataW H → Nat
  | .lit (.string bytes) => bytes.length + 1
  | .lit _ => 1
  | .nil => 1
  | .ptr d => uptoBulk d + 1
  | .slice elems spare => uptoBulkAll elems + uptoBulkAll spare + 1
  | .agg parts => uptoBulkAll parts + 1
  | .iface _ d => uptoBulk d + 1
  | .map entries => uptoBulkEntries entries + 1
  | .held _ => 1
def uptoBulkAll {H : Type} : List (DataW H) → Nat
  | [] => 0
  | d :: r => uptoBulk d + uptoBulkAll r
def uptoBulkEntries {H : Type} : List (Lit × DataW H) → Nat
  | [] => 0
  | x :: r => uptoBulkEntry x + uptoBulkEntries r
def uptoBulkEntry {H : Type} : Lit × DataW H → Nat
  | (.string bytes, d) => bytes.length + uptoBulk d + 1
  | (_, d) => uptoBulk d + 1
 end
def uptoSmall : (H : Type) → List (DataW H) → Bool := fun _ ds => decide (uptoBulkAll ds ≤ 1048576)
def OpenSpec.upto (s : _root_.Go.ChangeSpec) : _root_.Go.OpenSpec := { _root_.Go.OpenSpec.ofChange s with cond := some uptoSmall }

/-- 'graphdblaw16.DegreeOf', WHERE WHAT IT READS IS OF BULK AT MOST 1048576: true; the input reads as it did. -/
def degreeOfUptoRow : OpenClaim := { program := "ytokdbmakkoleiaagreat", sum := "1ba36e30ffe6af3fca51354f89215d839a3403723836195bda741ef1280d3d69", func := "graphdb/graphdblaw16.DegreeOf", spec := "degreeOf", unfollowed := true, recurses := true, loops := true, apart := false, narrowed := true }
def DegreeOfUptoSaid : Prop := degreeOfUptoRow.holds Tryz.pinned (OpenSpec.upto degreeOfSpec)

/-- 'graphdblaw16.DegreeSums', WHERE WHAT IT READS IS OF BULK AT MOST 1048576: true; the input reads as it did. -/
def degreeSumsUptoRow : OpenClaim := { program := "ytokdbmakkoleiaagreat", sum := "1ba36e30ffe6af3fca51354f89215d839a3403723836195bda741ef1280d3d69", func := "graphdb/graphdblaw16.DegreeSums", spec := "degreeSums", unfollowed := true, recurses := true, loops := true, apart := false, narrowed := true }
def DegreeSumsUptoSaid : Prop := degreeSumsUptoRow.holds Tryz.pinned (OpenSpec.upto degreeSumsSpec)

/-- 'graphdblaw16.DegreeWalks', WHERE WHAT IT READS IS OF BULK AT MOST 1048576: true; the input reads as it did. -/
def degreeWalksUptoRow : OpenClaim := { program := "ytokdbmakkoleiaagreat", sum := "1ba36e30ffe6af3fca51354f89215d839a3403723836195bda741ef1280d3d69", func := "graphdb/graphdblaw16.DegreeWalks", spec := "degreeWalks", unfollowed := true, recurses := true, loops := true, apart := false, narrowed := true }
def DegreeWalksUptoSaid : Prop := degreeWalksUptoRow.holds Tryz.pinned (OpenSpec.upto degreeWalksSpec)

end Rows
end Go.Proofs.YtokdbmakkoleiaaGreat
