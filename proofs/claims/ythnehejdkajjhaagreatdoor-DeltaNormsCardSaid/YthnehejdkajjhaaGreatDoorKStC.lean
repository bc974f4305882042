/- A step of an editor as an entry of the table: its code with what it defers. -/
import Derived.Test.YthnehejdkajjhaaGreatDoorKMaa
import Derived.Test.YthnehejdkajjhaaGreatDoorKGrCodeA
import Derived.Test.YthnehejdkajjhaaGreatDoorKGrCodeB
import Derived.Test.YthnehejdkajjhaaGreatDoorKGrCodeC
import Derived.Test.YthnehejdkajjhaaGreatDoorKGrCodeD
set_option linter.unusedVariables false
set_option maxRecDepth 4000
namespace Go.Proofs.YthnehejdkajjhaaGreatDoor
namespace AI
open Go.RowKit
def acL:AY→AY
 | .seq a _=>a
 |c=>c
def acR:AY→AY
 | .seq _ b=>b
 |c=>c
noncomputable def Vr:DFn:=⟨2,acL c37,acL (acR c37),acR (acR (acR c37)),11,4,118,[.cell 4 none]⟩
theorem ApN:Tryz.prog.follows .mixedOrders=true:=by kernel_rfl
noncomputable def AeQ:Code:=Ajm Tryz.f37
theorem Ajr:Ane Tryz.prog 37 Vr Tryz.f37 (anF Tryz.f37 a37) (AlW AeQ) (AlW (Aca AeQ)) (AlW (Aca (Aca AeQ))) (Aca (Aca (Aca AeQ))) 84 30 where
 hf:=Tryz.func37
 hname:=by kernel_rfl
 hb:=by kernel_rfl
 hle:=by decide
 hnp:=by kernel_rfl
 h1:=by kernel_rfl
 h2:=by kernel_rfl
 h3:=by kernel_rfl
 hrs:=by kernel_rfl
 hc:=by kernel_rfl
 hD:=fun Q a w hs h=>stepD Q a w hs fun a' h1 h2 h3=>h a' h1 h2 h3
 hinv:=fun x w=>by simp[go_sem]
 idle:=fun x w=>stepIdle x w
 catch_:=fun x k n w w' hx hst=>Afw x k n w w' hx hst
theorem step_ok:OC Tryz.prog 37 Vr:=Af0 ApN Ajr
end AI
end Go.Proofs.YthnehejdkajjhaaGreatDoor
