/- A step of an editor as an entry of the table: its code with what it defers. -/
import Derived.Test.YtjijnamhalgamaaGreatDoorPMaa
import Derived.Test.YtjijnamhalgamaaGreatDoorPGrCodeA
import Derived.Test.YtjijnamhalgamaaGreatDoorPGrCodeB
import Derived.Test.YtjijnamhalgamaaGreatDoorPGrCodeC
import Derived.Test.YtjijnamhalgamaaGreatDoorPGrCodeD
set_option linter.unusedVariables false
set_option maxRecDepth 4000
namespace Go.Proofs.YtjijnamhalgamaaGreatDoor
namespace AI
open Go.RowKit
def acL:Bf→Bf
 | .seq a _=>a
 |c=>c
def acR:Bf→Bf
 | .seq _ b=>b
 |c=>c
noncomputable def Rz:Xj:=⟨2,acL c60,acL (acR c60),acR (acR (acR c60)),11,4,154,[.cell 4 none]⟩
theorem Aln:Tryz.prog.follows .mixedOrders=true:=by kernel_rfl
noncomputable def Abz:Code:=AeR Tryz.f60
theorem AfQ:AiM Tryz.prog 60 Rz Tryz.f60 (anF Tryz.f60 a60) (Ahk Abz) (Ahk (Yh Abz)) (Ahk (Yh (Yh Abz))) (Yh (Yh (Yh Abz))) 126 31 where
 hf:=Tryz.func60
 hname:=by kernel_rfl
 hb:=by kernel_rfl
 hle:=by decide
 hnp:=by kernel_rfl
 h1:=by kernel_rfl
 h2:=by kernel_rfl
 h3:=by kernel_rfl
 hrs:=by kernel_rfl
 hc:=by kernel_rfl
 hD:=fun Q a w hs h=>stepD Q a w hs fun a' h1 h2 h3=>h a' h1 h2 h3
 hinv:=fun x w=>by simp[go_sem]
 idle:=fun x w=>stepIdle x w
 catch_:=fun x k n w w' hx hst=>AcL x k n w w' hx hst
theorem step_ok:MG Tryz.prog 60 Rz:=Aco Aln AfQ
end AI
end Go.Proofs.YtjijnamhalgamaaGreatDoor
