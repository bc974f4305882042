/- The table of functions, printed by a program of mine. -/
import Derived.KernelRfl
import Derived.Test.YtegcpbncohoflaaGreatDoorGGrCodeA
import Derived.Test.YtegcpbncohoflaaGreatDoorGGrCodeB
import Derived.Test.YtegcpbncohoflaaGreatDoorGGrCodeC
import Derived.Test.YtegcpbncohoflaaGreatDoorGGrCodeD
import Derived.Test.YtegcpbncohoflaaGreatDoorGMaa
set_option maxRecDepth 100000
namespace Go.Proofs.YtegcpbncohoflaaGreatDoor
namespace AI
noncomputable def tab:List (Nat×IJ):=[
 (72,.ext Qm),
 (91,.ext addSpec),
 (93,.ext Kz),(3,.code a3),(4,.code a4),(5,.code a5),(6,.code a6),(7,.code a7),(8,.code a8),(9,.code a9),(10,.code a10),(11,.code a11),(12,.code a12),(13,.code a13),(14,.code a14),(15,.code a15),(16,.code a16),(17,.code a17),(18,.code a18),(19,.code a19),(20,.code a20),(21,.code a21),(22,.code a22),(23,.code a23),(24,.code a24),(25,.code a25),(26,.code a26),(27,.code a27),(28,.code a28),(29,.code a29),(30,.code a30),(31,.code a31),(32,.code a32),(33,.code a33),(34,.code a34),(35,.code a35),(36,.code a36),(37,.code a37),(38,.code a38),(39,.code a39),(40,.code a40),(41,.code a41),(42,.code a42),(43,.code a43),(44,.code a44),(45,.code a45),(46,.code a46),(47,.code a47),(48,.code a48),(49,.code a49),(50,.code a50),(51,.code a51),(52,.code a52),(53,.code a53),(54,.code a54),(55,.code a55),(56,.code a56),(57,.code a57),(58,.code a58),(59,.code a59),(60,.code a60),(61,.code a61),(62,.code a62),(63,.code a63),(64,.code a64),(65,.code a65),(66,.code a66),(67,.code a67),(68,.code a68),(69,.code a69),(70,.code a70),(71,.code a71),(73,.code a73),(74,.code a74),(75,.code a75),(76,.code a76),(77,.code a77),(78,.code a78),(79,.code a79),(80,.code a80),(81,.code a81),(82,.code a82),(83,.code a83),(84,.code a84),(85,.code a85),(86,.code a86),(87,.code a87),(88,.code a88),(89,.code a89),(90,.code a90),(92,.code a92),(94,.code a94),(95,.code a95),(96,.code a96),(97,.code a97),(98,.code a98),(99,.code a99),(100,.code a100),(101,.code a101),(102,.code a102),(103,.code a103)]
theorem AaR:QT Tryz.prog (Ae tab):=OI ⟨Abp,
 AaC,
 AaD,
 ex x3,ex x4,ex x5,ex x6,ex x7,ex x8,ex x9,ex x10,ex x11,ex x12,ex x13,ex x14,ex x15,ex x16,ex x17,ex x18,ex x19,ex x20,ex x21,ex x22,ex x23,ex x24,ex x25,ex x26,ex x27,ex x28,ex x29,ex x30,ex x31,ex x32,ex x33,ex x34,ex x35,ex x36,ex x37,ex x38,ex x39,ex x40,ex x41,ex x42,ex x43,ex x44,ex x45,ex x46,ex x47,ex x48,ex x49,ex x50,ex x51,ex x52,ex x53,ex x54,ex x55,ex x56,ex x57,ex x58,ex x59,ex x60,ex x61,ex x62,ex x63,ex x64,ex x65,ex x66,ex x67,ex x68,ex x69,ex x70,ex x71,ex x73,ex x74,ex x75,ex x76,ex x77,ex x78,ex x79,ex x80,ex x81,ex x82,ex x83,ex x84,ex x85,ex x86,ex x87,ex x88,ex x89,ex x90,ex x92,ex x94,ex x95,ex x96,ex x97,ex x98,ex x99,ex x100,ex x101,ex x102,ex x103,trivial⟩
theorem mixed:Tryz.prog.follows .mixedOrders=true:=by kernel_rfl
theorem AaA (n:Nat):AB Tryz.prog (run (Ae tab) n):=L9 mixed AaR n
end AI
end Go.Proofs.YtegcpbncohoflaaGreatDoor
