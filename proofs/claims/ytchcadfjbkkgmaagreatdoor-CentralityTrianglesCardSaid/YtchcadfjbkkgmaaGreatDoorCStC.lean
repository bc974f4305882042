/- A step of an editor as an entry of the table: its code with what it defers. -/
import Derived.Test.YtchcadfjbkkgmaaGreatDoorCMab
import Derived.Test.YtchcadfjbkkgmaaGreatDoorCGrCodeA
import Derived.Test.YtchcadfjbkkgmaaGreatDoorCGrCodeB
import Derived.Test.YtchcadfjbkkgmaaGreatDoorCGrCodeC
import Derived.Test.YtchcadfjbkkgmaaGreatDoorCGrCodeD
set_option linter.unusedVariables false
set_option maxRecDepth 4000
namespace Go.Proofs.YtchcadfjbkkgmaaGreatDoor
namespace AI
open Go.RowKit
def acL:Bd→Bd
 | .seq a _=>a
 |c=>c
def acR:Bd→Bd
 | .seq _ b=>b
 |c=>c
noncomputable def SL:X3:=⟨2,acL c121,acL (acR c121),acR (acR (acR c121)),11,4,199,[.cell 4 none]⟩
theorem Aj7:Tryz.prog.follows .mixedOrders=true:=by kernel_rfl
noncomputable def AbL:Code:=AdQ Tryz.f121
theorem Afd:AiE Tryz.prog 121 SL Tryz.f121 (anF Tryz.f121 a121) (Agx AbL) (Agx (X6 AbL)) (Agx (X6 (X6 AbL))) (X6 (X6 (X6 AbL))) 152 34 where
 hf:=Tryz.func121
 hname:=by kernel_rfl
 hb:=by kernel_rfl
 hle:=by decide
 hnp:=by kernel_rfl
 h1:=by kernel_rfl
 h2:=by kernel_rfl
 h3:=by kernel_rfl
 hrs:=by kernel_rfl
 hc:=by kernel_rfl
 hD:=fun Q a w hs h=>stepD Q a w hs fun a' h1 h2 h3=>h a' h1 h2 h3
 hinv:=fun x w=>by simp[go_sem]
 idle:=fun x w=>stepIdle x w
 catch_:=fun x k n w w' hx hst=>AcS x k n w w' hx hst
theorem step_ok:MK Tryz.prog 121 SL:=AcD Aj7 Afd
end AI
end Go.Proofs.YtchcadfjbkkgmaaGreatDoor
