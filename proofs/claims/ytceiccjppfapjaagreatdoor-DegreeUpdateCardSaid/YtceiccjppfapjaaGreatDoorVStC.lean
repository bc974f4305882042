/- A step of an editor as an entry of the table: its code with what it defers. -/
import Derived.Test.YtceiccjppfapjaaGreatDoorVMaa
import Derived.Test.YtceiccjppfapjaaGreatDoorVGrCodeA
import Derived.Test.YtceiccjppfapjaaGreatDoorVGrCodeB
import Derived.Test.YtceiccjppfapjaaGreatDoorVGrCodeC
import Derived.Test.YtceiccjppfapjaaGreatDoorVGrCodeD
set_option linter.unusedVariables false
set_option maxRecDepth 4000
namespace Go.Proofs.YtceiccjppfapjaaGreatDoor
namespace AI
open Go.RowKit
def acL:AZ→AZ
 | .seq a _=>a
 |c=>c
def acR:AZ→AZ
 | .seq _ b=>b
 |c=>c
noncomputable def UO:Zu:=⟨2,acL c47,acL (acR c47),acR (acR (acR c47)),11,4,138,[.cell 4 none]⟩
theorem AnI:Tryz.prog.follows .mixedOrders=true:=by kernel_rfl
noncomputable def AdW:Code:=Ah5 Tryz.f47
theorem Ah6:Alh Tryz.prog 47 UO Tryz.f47 (anF Tryz.f47 a47) (Aks AdW) (Aks (Aa4 AdW)) (Aks (Aa4 (Aa4 AdW))) (Aa4 (Aa4 (Aa4 AdW))) 111 30 where
 hf:=Tryz.func47
 hname:=by kernel_rfl
 hb:=by kernel_rfl
 hle:=by decide
 hnp:=by kernel_rfl
 h1:=by kernel_rfl
 h2:=by kernel_rfl
 h3:=by kernel_rfl
 hrs:=by kernel_rfl
 hc:=by kernel_rfl
 hD:=fun Q a w hs h=>stepD Q a w hs fun a' h1 h2 h3=>h a' h1 h2 h3
 hinv:=fun x w=>by simp[go_sem]
 idle:=fun x w=>stepIdle x w
 catch_:=fun x k n w w' hx hst=>AeI x k n w w' hx hst
theorem step_ok:Oc Tryz.prog 47 UO:=Aet AnI Ah6
end AI
end Go.Proofs.YtceiccjppfapjaaGreatDoor
