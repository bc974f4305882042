/- A step of an editor as an entry of the table: its code with what it defers. -/
import Derived.Test.YtjijnamhalgamaaGreatDoorTMaa
import Derived.Test.YtjijnamhalgamaaGreatDoorTGrCodeA
import Derived.Test.YtjijnamhalgamaaGreatDoorTGrCodeB
import Derived.Test.YtjijnamhalgamaaGreatDoorTGrCodeC
import Derived.Test.YtjijnamhalgamaaGreatDoorTGrCodeD
set_option linter.unusedVariables false
set_option maxRecDepth 4000
namespace Go.Proofs.YtjijnamhalgamaaGreatDoor
namespace AI
open Go.RowKit
def acL:Bg→Bg
 | .seq a _=>a
 |c=>c
def acR:Bg→Bg
 | .seq _ b=>b
 |c=>c
noncomputable def RN:Xj:=⟨2,acL c60,acL (acR c60),acR (acR (acR c60)),11,4,154,[.cell 4 none]⟩
theorem Aln:Tryz.prog.follows .mixedOrders=true:=by kernel_rfl
noncomputable def Abl:Code:=AeA Tryz.f60
theorem AfB:AiD Tryz.prog 60 RN Tryz.f60 (anF Tryz.f60 a60) (Ahc Abl) (Ahc (Yk Abl)) (Ahc (Yk (Yk Abl))) (Yk (Yk (Yk Abl))) 126 31 where
 hf:=Tryz.func60
 hname:=by kernel_rfl
 hb:=by kernel_rfl
 hle:=by decide
 hnp:=by kernel_rfl
 h1:=by kernel_rfl
 h2:=by kernel_rfl
 h3:=by kernel_rfl
 hrs:=by kernel_rfl
 hc:=by kernel_rfl
 hD:=fun Q a w hs h=>stepD Q a w hs fun a' h1 h2 h3=>h a' h1 h2 h3
 hinv:=fun x w=>by simp[go_sem]
 idle:=fun x w=>stepIdle x w
 catch_:=fun x k n w w' hx hst=>Acv x k n w w' hx hst
theorem step_ok:MQ Tryz.prog 60 RN:=Ab8 Aln AfB
end AI
end Go.Proofs.YtjijnamhalgamaaGreatDoor
