/- The table of functions, printed by a program of mine. -/
import Derived.KernelRfl
import Derived.Test.YtgmgkkbpgndaaaaGreatDoorPStC
import Derived.Test.YtgmgkkbpgndaaaaGreatDoorPMac
import Derived.Test.YtgmgkkbpgndaaaaGreatDoorPMad
import Derived.Test.YtgmgkkbpgndaaaaGreatDoorPMae
import Derived.Test.YtgmgkkbpgndaaaaGreatDoorPMkI
set_option maxRecDepth 100000
namespace Go.Proofs.YtgmgkkbpgndaaaaGreatDoor
namespace AI
noncomputable def tab:List (Nat×H7):=[
 (173,.ext Vw),
 (218,.ext addSpec),
 (220,.ext Qq),
 (128,.ext Ado),
 (129,.ext Adp),
 (135,.ext Ac6),
 (136,.ext Ac7),
 (158,.ext Acf),
 (157,.ext Acg),
 (131,.ext Acm),
 (132,.ext Acn),
 (32,.ext Vy),(3,.code a3),(4,.code a4),(5,.code a5),(6,.code a6),(7,.code a7),(8,.code a8),(9,.code a9),(10,.code a10),(11,.code a11),(12,.code a12),(13,.code a13),(14,.code a14),(15,.code a15),(16,.code a16),(17,.code a17),(18,.code a18),(19,.code a19),(20,.code a20),(21,.code a21),(22,.code a22),(23,.code a23),(24,.code a24),(25,.code a25),(26,.code a26),(27,.code a27),(28,.code a28),(29,.code a29),(30,.code a30),(31,.code a31),(33,.code a33),(34,.code a34),(35,.code a35),(36,.code a36),(37,.code a37),(38,.code a38),(39,.code a39),(40,.code a40),(41,.code a41),(42,.code a42),(43,.code a43),(44,.code a44),(45,.code a45),(46,.code a46),(47,.code a47),(48,.code a48),(49,.code a49),(50,.code a50),(51,.code a51),(52,.code a52),(56,.code a56),(57,.code a57),(58,.code a58),(59,.dfr Qy),(60,.code a60),(61,.code a61),(62,.code a62),(63,.code a63),(64,.code a64),(65,.code a65),(66,.code a66),(67,.code a67),(68,.code a68),(69,.code a69),(70,.code a70),(71,.code a71),(72,.code a72),(73,.code a73),(74,.code a74),(75,.code a75),(76,.code a76),(77,.code a77),(78,.code a78),(79,.code a79),(80,.code a80),(84,.code a84),(85,.code a85),(86,.code a86),(87,.code a87),(88,.code a88),(89,.code a89),(91,.code a91),(92,.code a92),(93,.code a93),(94,.code a94),(95,.code a95),(96,.code a96),(97,.code a97),(98,.code a98),(99,.code a99),(100,.code a100),(101,.code a101),(102,.code a102),(103,.code a103),(104,.code a104),(105,.code a105),(106,.code a106),(107,.code a107),(119,.code a119),(120,.code a120),(121,.code a121),(122,.code a122),(123,.code a123),(124,.code a124),(125,.code a125),(126,.code a126),(127,.code a127),(130,.code a130),(133,.code a133),(134,.code a134),(137,.code a137),(138,.code a138),(139,.code a139),(140,.code a140),(146,.code a146),(147,.code a147),(150,.code a150),(151,.code a151),(154,.code a154),(155,.code a155),(156,.code a156),(159,.code a159),(160,.code a160),(163,.code a163),(164,.code a164),(165,.code a165),(166,.code a166),(167,.code a167),(168,.code a168),(169,.code a169),(170,.code a170),(171,.code a171),(172,.code a172),(174,.code a174),(175,.code a175),(177,.code a177),(178,.code a178),(179,.code a179),(181,.code a181),(186,.code a186),(187,.code a187),(188,.code a188),(189,.code a189),(190,.code a190),(191,.code a191),(192,.code a192),(193,.code a193),(194,.code a194),(195,.code a195),(196,.code a196),(197,.code a197),(198,.code a198),(200,.code a200),(201,.code a201),(202,.code a202),(207,.code a207),(208,.code a208),(209,.code a209),(210,.code a210),(211,.code a211),(212,.code a212),(213,.code a213),(214,.code a214),(216,.code a216),(217,.code a217),(219,.code a219)]
theorem AgV:Vp Tryz.prog (Ad tab):=SC ⟨Aiz,
 Ago,
 Agp,
 AeO,
 AeP,
 Aex,
 Aey,
 Aed,
 Aee,
 Aef,
 Aeg,
 AiF,
 ex x3,ex x4,ex x5,ex x6,ex x7,ex x8,ex x9,ex x10,ex x11,ex x12,ex x13,ex x14,ex x15,ex x16,ex x17,ex x18,ex x19,ex x20,ex x21,ex x22,ex x23,ex x24,ex x25,ex x26,ex x27,ex x28,ex x29,ex x30,ex x31,ex x33,ex x34,ex x35,ex x36,ex x37,ex x38,ex x39,ex x40,ex x41,ex x42,ex x43,ex x44,ex x45,ex x46,ex x47,ex x48,ex x49,ex x50,ex x51,ex x52,ex x56,ex x57,ex x58,step_ok,ex x60,ex x61,ex x62,ex x63,ex x64,ex x65,ex x66,ex x67,ex x68,ex x69,ex x70,ex x71,ex x72,ex x73,ex x74,ex x75,ex x76,ex x77,ex x78,ex x79,ex x80,ex x84,ex x85,ex x86,ex x87,ex x88,ex x89,ex x91,ex x92,ex x93,ex x94,ex x95,ex x96,ex x97,ex x98,ex x99,ex x100,ex x101,ex x102,ex x103,ex x104,ex x105,ex x106,ex x107,ex x119,ex x120,ex x121,ex x122,ex x123,ex x124,ex x125,ex x126,ex x127,ex x130,ex x133,ex x134,ex x137,ex x138,ex x139,ex x140,ex x146,ex x147,ex x150,ex x151,ex x154,ex x155,ex x156,ex x159,ex x160,ex x163,ex x164,ex x165,ex x166,ex x167,ex x168,ex x169,ex x170,ex x171,ex x172,ex x174,ex x175,ex x177,ex x178,ex x179,ex x181,ex x186,ex x187,ex x188,ex x189,ex x190,ex x191,ex x192,ex x193,ex x194,ex x195,ex x196,ex x197,ex x198,ex x200,ex x201,ex x202,ex x207,ex x208,ex x209,ex x210,ex x211,ex x212,ex x213,ex x214,ex x216,ex x217,ex x219,trivial⟩
theorem mixed:Tryz.prog.follows .mixedOrders=true:=by kernel_rfl
theorem Aba (n:Nat):AL Tryz.prog (run (Ad tab) n):=O5 mixed AgV n
end AI
end Go.Proofs.YtgmgkkbpgndaaaaGreatDoor
