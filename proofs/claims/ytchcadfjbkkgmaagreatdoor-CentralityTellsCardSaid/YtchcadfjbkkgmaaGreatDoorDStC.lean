/- A step of an editor as an entry of the table: its code with what it defers. -/
import Derived.Test.YtchcadfjbkkgmaaGreatDoorDMaa
import Derived.Test.YtchcadfjbkkgmaaGreatDoorDGrCodeA
import Derived.Test.YtchcadfjbkkgmaaGreatDoorDGrCodeB
import Derived.Test.YtchcadfjbkkgmaaGreatDoorDGrCodeC
import Derived.Test.YtchcadfjbkkgmaaGreatDoorDGrCodeD
set_option linter.unusedVariables false
set_option maxRecDepth 4000
namespace Go.Proofs.YtchcadfjbkkgmaaGreatDoor
namespace AI
open Go.RowKit
def acL:AQ→AQ
 | .seq a _=>a
 |c=>c
def acR:AQ→AQ
 | .seq _ b=>b
 |c=>c
noncomputable def WT:DFn:=⟨2,acL c121,acL (acR c121),acR (acR (acR c121)),11,4,199,[.cell 4 none]⟩
theorem Ail:Tryz.prog.follows .mixedOrders=true:=by kernel_rfl
noncomputable def AaY:Code:=Aej Tryz.f121
theorem Aek:AgY Tryz.prog 121 WT Tryz.f121 (anF Tryz.f121 a121) (Af7 AaY) (Af7 (Yi AaY)) (Af7 (Yi (Yi AaY))) (Yi (Yi (Yi AaY))) 152 34 where
 hf:=Tryz.func121
 hname:=by kernel_rfl
 hb:=by kernel_rfl
 hle:=by decide
 hnp:=by kernel_rfl
 h1:=by kernel_rfl
 h2:=by kernel_rfl
 h3:=by kernel_rfl
 hrs:=by kernel_rfl
 hc:=by kernel_rfl
 hD:=fun Q a w hs h=>stepD Q a w hs fun a' h1 h2 h3=>h a' h1 h2 h3
 hinv:=fun x w=>by simp[go_sem]
 idle:=fun x w=>stepIdle x w
 catch_:=fun x k n w w' hx hst=>AbR x k n w w' hx hst
theorem step_ok:LM Tryz.prog 121 WT:=Acd Ail Aek
end AI
end Go.Proofs.YtchcadfjbkkgmaaGreatDoor
