/- A step of an editor as an entry of the table: its code with what it defers. -/
import Derived.Test.YtceiccjppfapjaaGreatDoorXMab
import Derived.Test.YtceiccjppfapjaaGreatDoorXGrCodeA
import Derived.Test.YtceiccjppfapjaaGreatDoorXGrCodeB
import Derived.Test.YtceiccjppfapjaaGreatDoorXGrCodeC
import Derived.Test.YtceiccjppfapjaaGreatDoorXGrCodeD
set_option linter.unusedVariables false
set_option maxRecDepth 4000
namespace Go.Proofs.YtceiccjppfapjaaGreatDoor
namespace AI
open Go.RowKit
def acL:Bh→Bh
 | .seq a _=>a
 |c=>c
def acR:Bh→Bh
 | .seq _ b=>b
 |c=>c
noncomputable def Qb:U6:=⟨2,acL c47,acL (acR c47),acR (acR (acR c47)),11,4,138,[.cell 4 none]⟩
theorem Ahd:Tryz.prog.follows .mixedOrders=true:=by kernel_rfl
noncomputable def Zn:Code:=AcT Tryz.f47
theorem AcX:AfE Tryz.prog 47 Qb Tryz.f47 (anF Tryz.f47 a47) (AeR Zn) (AeR (WS Zn)) (AeR (WS (WS Zn))) (WS (WS (WS Zn))) 111 30 where
 hf:=Tryz.func47
 hname:=by kernel_rfl
 hb:=by kernel_rfl
 hle:=by decide
 hnp:=by kernel_rfl
 h1:=by kernel_rfl
 h2:=by kernel_rfl
 h3:=by kernel_rfl
 hrs:=by kernel_rfl
 hc:=by kernel_rfl
 hD:=fun Q a w hs h=>stepD Q a w hs fun a' h1 h2 h3=>h a' h1 h2 h3
 hinv:=fun x w=>by simp[go_sem]
 idle:=fun x w=>stepIdle x w
 catch_:=fun x k n w w' hx hst=>Aao x k n w w' hx hst
theorem step_ok:KQ Tryz.prog 47 Qb:=Aaw Ahd AcX
end AI
end Go.Proofs.YtceiccjppfapjaaGreatDoor
