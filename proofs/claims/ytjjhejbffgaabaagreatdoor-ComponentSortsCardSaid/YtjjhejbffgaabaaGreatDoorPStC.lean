/- A step of an editor as an entry of the table: its code with what it defers. -/
import Derived.Test.YtjjhejbffgaabaaGreatDoorMab
import Derived.Test.YtjjhejbffgaabaaGreatDoorPGrCodeA
import Derived.Test.YtjjhejbffgaabaaGreatDoorPGrCodeB
import Derived.Test.YtjjhejbffgaabaaGreatDoorPGrCodeC
import Derived.Test.YtjjhejbffgaabaaGreatDoorPGrCodeD
set_option linter.unusedVariables false
set_option maxRecDepth 4000
namespace Go.Proofs.YtjjhejbffgaabaaGreatDoor
namespace AI
open Go.RowKit
def acL:CW→CW
 | .seq a _=>a
 |c=>c
def acR:CW→CW
 | .seq _ b=>b
 |c=>c
noncomputable def Tn:ZQ:=⟨2,acL c99,acL (acR c99),acR (acR (acR c99)),11,4,174,[.cell 4 none]⟩
theorem Ado:Tryz.prog.follows .mixedOrders=true:=by kernel_rfl
noncomputable def XD:Code:=ZR Tryz.f99
theorem ZT:AcE Tryz.prog 99 Tn Tryz.f99 (anF Tryz.f99 a99) (AbO XD) (AbO (UC XD)) (AbO (UC (UC XD))) (UC (UC (UC XD))) 130 33 where
 hf:=Tryz.func99
 hname:=by kernel_rfl
 hb:=by kernel_rfl
 hle:=by decide
 hnp:=by kernel_rfl
 h1:=by kernel_rfl
 h2:=by kernel_rfl
 h3:=by kernel_rfl
 hrs:=by kernel_rfl
 hc:=by kernel_rfl
 hD:=fun Q a w hs h=>stepD Q a w hs fun a' h1 h2 h3=>h a' h1 h2 h3
 hinv:=fun x w=>by simp[go_sem]
 idle:=fun x w=>stepIdle x w
 catch_:=fun x k n w w' hx hst=>Yl x k n w w' hx hst
theorem step_ok:J4 Tryz.prog 99 Tn:=Ym Ado ZT
end AI
end Go.Proofs.YtjjhejbffgaabaaGreatDoor
