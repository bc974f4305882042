/- A step of an editor as an entry of the table: its code with what it defers. -/
import Derived.Test.YtjjhejbffgaabaaGreatDoorQMab
import Derived.Test.YtjjhejbffgaabaaGreatDoorQGrCodeA
import Derived.Test.YtjjhejbffgaabaaGreatDoorQGrCodeB
import Derived.Test.YtjjhejbffgaabaaGreatDoorQGrCodeC
import Derived.Test.YtjjhejbffgaabaaGreatDoorQGrCodeD
set_option linter.unusedVariables false
set_option maxRecDepth 4000
namespace Go.Proofs.YtjjhejbffgaabaaGreatDoor
namespace AI
open Go.RowKit
def acL:CP→CP
 | .seq a _=>a
 |c=>c
def acR:CP→CP
 | .seq _ b=>b
 |c=>c
noncomputable def RQ:Yg:=⟨2,acL c99,acL (acR c99),acR (acR (acR c99)),11,4,174,[.cell 4 none]⟩
theorem AcI:Tryz.prog.follows .mixedOrders=true:=by kernel_rfl
noncomputable def WO:Code:=Zf Tryz.f99
theorem Z4:Abu Tryz.prog 99 RQ Tryz.f99 (anF Tryz.f99 a99) (AaR WO) (AaR (TW WO)) (AaR (TW (TW WO))) (TW (TW (TW WO))) 130 33 where
 hf:=Tryz.func99
 hname:=by kernel_rfl
 hb:=by kernel_rfl
 hle:=by decide
 hnp:=by kernel_rfl
 h1:=by kernel_rfl
 h2:=by kernel_rfl
 h3:=by kernel_rfl
 hrs:=by kernel_rfl
 hc:=by kernel_rfl
 hD:=fun Q a w hs h=>stepD Q a w hs fun a' h1 h2 h3=>h a' h1 h2 h3
 hinv:=fun x w=>by simp[go_sem]
 idle:=fun x w=>stepIdle x w
 catch_:=fun x k n w w' hx hst=>Xa x k n w w' hx hst
theorem step_ok:JM Tryz.prog 99 RQ:=Xn AcI Z4
end AI
end Go.Proofs.YtjjhejbffgaabaaGreatDoor
