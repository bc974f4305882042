/- A step of an editor as an entry of the table: its code with what it defers. -/
import Derived.Test.YtgmgkkbpgndaaaaGreatDoorPMab
import Derived.Test.YtgmgkkbpgndaaaaGreatDoorPGrCodeA
import Derived.Test.YtgmgkkbpgndaaaaGreatDoorPGrCodeB
import Derived.Test.YtgmgkkbpgndaaaaGreatDoorPGrCodeC
import Derived.Test.YtgmgkkbpgndaaaaGreatDoorPGrCodeD
set_option linter.unusedVariables false
set_option maxRecDepth 4000
namespace Go.Proofs.YtgmgkkbpgndaaaaGreatDoor
namespace AI
open Go.RowKit
def acL:CS→CS
 | .seq a _=>a
 |c=>c
def acR:CS→CS
 | .seq _ b=>b
 |c=>c
noncomputable def Qy:VI:=⟨2,acL c59,acL (acR c59),acR (acR (acR c59)),11,4,138,[.cell 4 none]⟩
theorem AgO:Tryz.prog.follows .mixedOrders=true:=by kernel_rfl
noncomputable def ZP:Code:=Ade Tryz.f59
theorem Adf:Afu Tryz.prog 59 Qy Tryz.f59 (anF Tryz.f59 a59) (AeE ZP) (AeE (Xz ZP)) (AeE (Xz (Xz ZP))) (Xz (Xz (Xz ZP))) 90 40 where
 hf:=Tryz.func59
 hname:=by kernel_rfl
 hb:=by kernel_rfl
 hle:=by decide
 hnp:=by kernel_rfl
 h1:=by kernel_rfl
 h2:=by kernel_rfl
 h3:=by kernel_rfl
 hrs:=by kernel_rfl
 hc:=by kernel_rfl
 hD:=fun Q a w hs h=>stepD Q a w hs fun a' h1 h2 h3=>h a' h1 h2 h3
 hinv:=fun x w=>by simp[go_sem]
 idle:=fun x w=>stepIdle x w
 catch_:=fun x k n w w' hx hst=>Aal x k n w w' hx hst
theorem step_ok:Lm Tryz.prog 59 Qy:=AaT AgO Adf
end AI
end Go.Proofs.YtgmgkkbpgndaaaaGreatDoor
