/- The table of functions, printed by a program of mine. -/
import Derived.KernelRfl
import Derived.Test.YtchcadfjbkkgmaaGreatDoorEStC
import Derived.Test.YtchcadfjbkkgmaaGreatDoorEMac
import Derived.Test.YtchcadfjbkkgmaaGreatDoorEMad
import Derived.Test.YtchcadfjbkkgmaaGreatDoorESqI
set_option maxRecDepth 100000
namespace Go.Proofs.YtchcadfjbkkgmaaGreatDoor
namespace AI
noncomputable def tab:List (Nat×Ht):=[
 (185,.ext Wh),
 (110,.ext addSpec),
 (112,.ext OH),
 (169,.ext Adu),
 (170,.ext Adv),
 (176,.ext AcB),
 (177,.ext AcC),
 (206,.ext AcG),
 (205,.ext AcH),
 (172,.ext AcV),
 (173,.ext AcW),
 (64,.ext Gw),(4,.code a4),(7,.code a7),(8,.code a8),(9,.code a9),(11,.code a11),(13,.code a13),(14,.code a14),(15,.code a15),(16,.code a16),(18,.code a18),(19,.code a19),(20,.code a20),(22,.code a22),(23,.code a23),(25,.code a25),(26,.code a26),(27,.code a27),(28,.code a28),(29,.code a29),(30,.code a30),(31,.code a31),(34,.code a34),(35,.code a35),(36,.code a36),(38,.code a38),(39,.code a39),(40,.code a40),(41,.code a41),(42,.code a42),(43,.code a43),(44,.code a44),(45,.code a45),(46,.code a46),(47,.code a47),(48,.code a48),(49,.code a49),(50,.code a50),(51,.code a51),(52,.code a52),(53,.code a53),(54,.code a54),(55,.code a55),(57,.code a57),(58,.code a58),(59,.code a59),(60,.code a60),(61,.code a61),(62,.code a62),(63,.code a63),(65,.code a65),(66,.code a66),(67,.code a67),(68,.code a68),(69,.code a69),(70,.code a70),(71,.code a71),(72,.code a72),(73,.code a73),(74,.code a74),(75,.code a75),(76,.code a76),(77,.code a77),(79,.code a79),(80,.code a80),(81,.code a81),(82,.code a82),(83,.code a83),(84,.code a84),(85,.code a85),(86,.code a86),(87,.code a87),(88,.code a88),(89,.code a89),(90,.code a90),(91,.code a91),(92,.code a92),(93,.code a93),(94,.code a94),(95,.code a95),(96,.code a96),(97,.code a97),(98,.code a98),(99,.code a99),(100,.code a100),(101,.code a101),(102,.code a102),(103,.code a103),(106,.code a106),(107,.code a107),(108,.code a108),(109,.code a109),(111,.code a111),(113,.code a113),(114,.code a114),(115,.code a115),(116,.code a116),(117,.code a117),(118,.code a118),(119,.code a119),(120,.code a120),(121,.dfr Wi),(122,.code a122),(123,.code a123),(124,.code a124),(125,.code a125),(126,.code a126),(127,.code a127),(128,.code a128),(129,.code a129),(130,.code a130),(131,.code a131),(132,.code a132),(133,.code a133),(134,.code a134),(144,.code a144),(145,.code a145),(146,.code a146),(147,.code a147),(148,.code a148),(149,.code a149),(150,.code a150),(151,.code a151),(152,.code a152),(153,.code a153),(154,.code a154),(155,.code a155),(156,.code a156),(157,.code a157),(163,.code a163),(164,.code a164),(165,.code a165),(166,.code a166),(167,.code a167),(168,.code a168),(171,.code a171),(174,.code a174),(175,.code a175),(178,.code a178),(179,.code a179),(180,.code a180),(181,.code a181),(182,.code a182),(183,.code a183),(184,.code a184),(186,.code a186),(187,.code a187),(189,.code a189),(190,.code a190),(191,.code a191),(192,.code a192),(193,.code a193),(194,.code a194),(195,.code a195),(198,.code a198),(199,.code a199),(202,.code a202),(203,.code a203),(204,.code a204),(207,.code a207),(208,.code a208),(211,.code a211),(212,.code a212),(213,.code a213),(214,.code a214),(215,.code a215),(216,.code a216),(218,.code a218),(223,.code a223),(224,.code a224),(225,.code a225)]
theorem Acr:Oi Tryz.prog (Ac tab):=Td ⟨Ajw,
 Ahn,
 Aho,
 Afp,
 Afq,
 AeP,
 AeQ,
 AeR,
 AeS,
 Ae6,
 Ae7,
 Ajx,
 ex x4,ex x7,ex x8,ex x9,ex x11,ex x13,ex x14,ex x15,ex x16,ex x18,ex x19,ex x20,ex x22,ex x23,ex x25,ex x26,ex x27,ex x28,ex x29,ex x30,ex x31,ex x34,ex x35,ex x36,ex x38,ex x39,ex x40,ex x41,ex x42,ex x43,ex x44,ex x45,ex x46,ex x47,ex x48,ex x49,ex x50,ex x51,ex x52,ex x53,ex x54,ex x55,ex x57,ex x58,ex x59,ex x60,ex x61,ex x62,ex x63,ex x65,ex x66,ex x67,ex x68,ex x69,ex x70,ex x71,ex x72,ex x73,ex x74,ex x75,ex x76,ex x77,ex x79,ex x80,ex x81,ex x82,ex x83,ex x84,ex x85,ex x86,ex x87,ex x88,ex x89,ex x90,ex x91,ex x92,ex x93,ex x94,ex x95,ex x96,ex x97,ex x98,ex x99,ex x100,ex x101,ex x102,ex x103,ex x106,ex x107,ex x108,ex x109,ex x111,ex x113,ex x114,ex x115,ex x116,ex x117,ex x118,ex x119,ex x120,step_ok,ex x122,ex x123,ex x124,ex x125,ex x126,ex x127,ex x128,ex x129,ex x130,ex x131,ex x132,ex x133,ex x134,ex x144,ex x145,ex x146,ex x147,ex x148,ex x149,ex x150,ex x151,ex x152,ex x153,ex x154,ex x155,ex x156,ex x157,ex x163,ex x164,ex x165,ex x166,ex x167,ex x168,ex x171,ex x174,ex x175,ex x178,ex x179,ex x180,ex x181,ex x182,ex x183,ex x184,ex x186,ex x187,ex x189,ex x190,ex x191,ex x192,ex x193,ex x194,ex x195,ex x198,ex x199,ex x202,ex x203,ex x204,ex x207,ex x208,ex x211,ex x212,ex x213,ex x214,ex x215,ex x216,ex x218,ex x223,ex x224,ex x225,trivial⟩
theorem mixed:Tryz.prog.follows .mixedOrders=true:=by kernel_rfl
theorem RS (n:Nat):Ak Tryz.prog (run (Ac tab) n):=Jz mixed Acr n
end AI
end Go.Proofs.YtchcadfjbkkgmaaGreatDoor
