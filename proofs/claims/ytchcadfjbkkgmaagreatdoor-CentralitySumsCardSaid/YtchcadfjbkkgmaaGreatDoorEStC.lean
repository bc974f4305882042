/- A step of an editor as an entry of the table: its code with what it defers. -/
import Derived.Test.YtchcadfjbkkgmaaGreatDoorEMab
import Derived.Test.YtchcadfjbkkgmaaGreatDoorEGrCodeA
import Derived.Test.YtchcadfjbkkgmaaGreatDoorEGrCodeB
import Derived.Test.YtchcadfjbkkgmaaGreatDoorEGrCodeC
import Derived.Test.YtchcadfjbkkgmaaGreatDoorEGrCodeD
set_option linter.unusedVariables false
set_option maxRecDepth 4000
namespace Go.Proofs.YtchcadfjbkkgmaaGreatDoor
namespace AI
open Go.RowKit
def acL:AQ→AQ
 | .seq a _=>a
 |c=>c
def acR:AQ→AQ
 | .seq _ b=>b
 |c=>c
noncomputable def Wi:DFn:=⟨2,acL c121,acL (acR c121),acR (acR (acR c121)),11,4,199,[.cell 4 none]⟩
theorem AhS:Tryz.prog.follows .mixedOrders=true:=by kernel_rfl
noncomputable def AaB:Code:=AdK Tryz.f121
theorem AdL:Agj Tryz.prog 121 Wi Tryz.f121 (anF Tryz.f121 a121) (AfG AaB) (AfG (XY AaB)) (AfG (XY (XY AaB))) (XY (XY (XY AaB))) 152 34 where
 hf:=Tryz.func121
 hname:=by kernel_rfl
 hb:=by kernel_rfl
 hle:=by decide
 hnp:=by kernel_rfl
 h1:=by kernel_rfl
 h2:=by kernel_rfl
 h3:=by kernel_rfl
 hrs:=by kernel_rfl
 hc:=by kernel_rfl
 hD:=fun Q a w hs h=>stepD Q a w hs fun a' h1 h2 h3=>h a' h1 h2 h3
 hinv:=fun x w=>by simp[go_sem]
 idle:=fun x w=>stepIdle x w
 catch_:=fun x k n w w' hx hst=>Abg x k n w w' hx hst
theorem step_ok:Ll Tryz.prog 121 Wi:=Abj AhS AdL
end AI
end Go.Proofs.YtchcadfjbkkgmaaGreatDoor
