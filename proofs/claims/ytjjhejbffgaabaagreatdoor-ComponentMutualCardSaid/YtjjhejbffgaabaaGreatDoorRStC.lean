/- A step of an editor as an entry of the table: its code with what it defers. -/
import Derived.Test.YtjjhejbffgaabaaGreatDoorRMaa
import Derived.Test.YtjjhejbffgaabaaGreatDoorRGrCodeA
import Derived.Test.YtjjhejbffgaabaaGreatDoorRGrCodeB
import Derived.Test.YtjjhejbffgaabaaGreatDoorRGrCodeC
import Derived.Test.YtjjhejbffgaabaaGreatDoorRGrCodeD
set_option linter.unusedVariables false
set_option maxRecDepth 4000
namespace Go.Proofs.YtjjhejbffgaabaaGreatDoor
namespace AI
open Go.RowKit
def acL:AA→AA
 | .seq a _=>a
 |c=>c
def acR:AA→AA
 | .seq _ b=>b
 |c=>c
noncomputable def Ux:DFn:=⟨2,acL c99,acL (acR c99),acR (acR (acR c99)),11,4,174,[.cell 4 none]⟩
theorem AgS:Tryz.prog.follows .mixedOrders=true:=by kernel_rfl
noncomputable def Y5:Code:=AaN Tryz.f99
theorem Acj:Afa Tryz.prog 99 Ux Tryz.f99 (anF Tryz.f99 a99) (Adb Y5) (Adb (Vj Y5)) (Adb (Vj (Vj Y5))) (Vj (Vj (Vj Y5))) 130 33 where
 hf:=Tryz.func99
 hname:=by kernel_rfl
 hb:=by kernel_rfl
 hle:=by decide
 hnp:=by kernel_rfl
 h1:=by kernel_rfl
 h2:=by kernel_rfl
 h3:=by kernel_rfl
 hrs:=by kernel_rfl
 hc:=by kernel_rfl
 hD:=fun Q a w hs h=>stepD Q a w hs fun a' h1 h2 h3=>h a' h1 h2 h3
 hinv:=fun x w=>by simp[go_sem]
 idle:=fun x w=>stepIdle x w
 catch_:=fun x k n w w' hx hst=>ZL x k n w w' hx hst
theorem step_ok:KT Tryz.prog 99 Ux:=ZT AgS Acj
end AI
end Go.Proofs.YtjjhejbffgaabaaGreatDoor
