/- The worked example in the laws about indexes: reckoned by the kernel. -/
import Derived.Test.YtnbibfalljlmfaaGreatDoorGrCode
import Derived.Test.YtnbibfalljlmfaaGreatDoorVa
namespace Go.Proofs.YtnbibfalljlmfaaGreatDoor
namespace AI
set_option maxRecDepth 100000 in
theorem AxN:Awz (run (Dx tab) 80) 26 []=some (.bool true):=by kernel_rfl
theorem AbR:D8 (Dx tab) 26 [] (· =.bool (decide True)):=⟨.bool true,⟨80,AxN⟩,rfl⟩
end AI
end Go.Proofs.YtnbibfalljlmfaaGreatDoor
