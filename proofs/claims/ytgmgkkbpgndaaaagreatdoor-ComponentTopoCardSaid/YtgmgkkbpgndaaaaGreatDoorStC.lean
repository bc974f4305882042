/- A step of an editor as an entry of the table: its code with what it defers. -/
import Derived.Test.YtgmgkkbpgndaaaaGreatDoorMab
import Derived.Test.YtgmgkkbpgndaaaaGreatDoorGrCodeA
import Derived.Test.YtgmgkkbpgndaaaaGreatDoorGrCodeB
import Derived.Test.YtgmgkkbpgndaaaaGreatDoorGrCodeC
import Derived.Test.YtgmgkkbpgndaaaaGreatDoorGrCodeD
set_option linter.unusedVariables false
set_option maxRecDepth 4000
namespace Go.Proofs.YtgmgkkbpgndaaaaGreatDoor
namespace AI
open Go.RowKit
def acL:ACode→ACode
 | .seq a _=>a
 |c=>c
def acR:ACode→ACode
 | .seq _ b=>b
 |c=>c
noncomputable def stepDfr:DFn:=⟨2,acL c59,acL (acR c59),acR (acR (acR c59)),11,4,138,[.cell 4 none]⟩
theorem mixedS:Tryz.prog.follows .mixedOrders=true:=by kernel_rfl
noncomputable def stepB:Code:=bodyOf Tryz.f59
theorem step_okD:DfrOk Tryz.prog 59 stepDfr Tryz.f59 (anF Tryz.f59 a59) (seqL stepB) (seqL (seqR stepB)) (seqL (seqR (seqR stepB))) (seqR (seqR (seqR stepB))) 90 40 where
 hf:=Tryz.func59
 hname:=by kernel_rfl
 hb:=by kernel_rfl
 hle:=by decide
 hnp:=by kernel_rfl
 h1:=by kernel_rfl
 h2:=by kernel_rfl
 h3:=by kernel_rfl
 hrs:=by kernel_rfl
 hc:=by kernel_rfl
 hD:=fun Q a w hs h=>stepD Q a w hs fun a' h1 h2 h3=>h a' h1 h2 h3
 hinv:=fun x w=>by simp[go_sem]
 idle:=fun x w=>stepIdle x w
 catch_:=fun x k n w w' hx hst=>stepCatch x k n w w' hx hst
theorem step_ok:DfrSound Tryz.prog 59 stepDfr:=dfr_sound mixedS step_okD
end AI
end Go.Proofs.YtgmgkkbpgndaaaaGreatDoor
