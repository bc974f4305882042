/- A step of an editor as an entry of the table: its code with what it defers. -/
import Derived.Test.YtnbibfalljlmfaaGreatDoorMac
import Derived.Test.YtnbibfalljlmfaaGreatDoorGrCodeA
import Derived.Test.YtnbibfalljlmfaaGreatDoorGrCodeB
import Derived.Test.YtnbibfalljlmfaaGreatDoorGrCodeC
import Derived.Test.YtnbibfalljlmfaaGreatDoorGrCodeD
set_option linter.unusedVariables false
set_option maxRecDepth 4000
namespace Go.Proofs.YtnbibfalljlmfaaGreatDoor
namespace AI
open Go.RowKit
def acL:Dw→Dw
  | .seq a _=>a
  |c=>c
def acR:Dw→Dw
  | .seq _ b=>b
  |c=>c
noncomputable def AEb:DFn:=⟨2,acL c41,acL (acR c41),acR (acR (acR c41)),11,4,115,[.cell 4 none]⟩
theorem mixedS:Tryz.prog.follows .mixedOrders=true:=by kernel_rfl
noncomputable def stepB:Code:=bodyOf Tryz.f41
theorem step_okD:DfrOk Tryz.prog 41 AEb Tryz.f41 (anF Tryz.f41 a41) (AKs stepB) (AKs (AwF stepB)) (AKs (AwF (AwF stepB))) (AwF (AwF (AwF stepB))) 86 27 where
  hf:=Tryz.func41
  hname:=by kernel_rfl
  hb:=by kernel_rfl
  hle:=by decide
  hnp:=by kernel_rfl
  h1:=by kernel_rfl
  h2:=by kernel_rfl
  h3:=by kernel_rfl
  hrs:=by kernel_rfl
  hc:=by kernel_rfl
  hD:=fun Q a w hs h=>stepD Q a w hs fun a' h1 h2 h3=>h a' h1 h2 h3
  hinv:=fun x w=>by simp[go_sem]
  idle:=fun x w=>stepIdle x w
  catch_:=fun x k n w w' hx hst=>stepCatch x k n w w' hx hst
theorem step_ok:DfrSound Tryz.prog 41 AEb:=dfr_sound mixedS step_okD
end AI
end Go.Proofs.YtnbibfalljlmfaaGreatDoor
