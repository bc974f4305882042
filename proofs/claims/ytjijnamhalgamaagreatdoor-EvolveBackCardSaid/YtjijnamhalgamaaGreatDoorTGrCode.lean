/- The table of functions, printed by a program of mine. -/
import Derived.KernelRfl
import Derived.Test.YtjijnamhalgamaaGreatDoorTStC
import Derived.Test.YtjijnamhalgamaaGreatDoorTMab
import Derived.Test.YtjijnamhalgamaaGreatDoorTMac
import Derived.Test.YtjijnamhalgamaaGreatDoorTSqS
set_option maxRecDepth 100000
namespace Go.Proofs.YtjijnamhalgamaaGreatDoor
namespace AI
noncomputable def tab:List (Nat×Ir):=[
 (270,.ext VW),
 (300,.ext AjA),
 (302,.ext RF),
 (204,.ext Aec),
 (205,.ext Aed),
 (257,.ext AdI),
 (256,.ext AdJ),
 (200,.ext Afv),
 (201,.ext Afw),
 (115,.ext VU),
 (116,.ext YP),
 (174,.ext KA),(6,.code a6),(7,.code a7),(9,.code a9),(10,.code a10),(12,.code a12),(13,.code a13),(14,.code a14),(15,.code a15),(16,.code a16),(17,.code a17),(18,.code a18),(19,.code a19),(20,.code a20),(21,.code a21),(22,.code a22),(23,.code a23),(24,.code a24),(25,.code a25),(26,.code a26),(27,.code a27),(28,.code a28),(34,.code a34),(35,.code a35),(36,.code a36),(37,.code a37),(38,.code a38),(39,.code a39),(40,.code a40),(41,.code a41),(42,.code a42),(43,.code a43),(44,.code a44),(45,.code a45),(46,.code a46),(47,.code a47),(48,.code a48),(49,.code a49),(50,.code a50),(51,.code a51),(52,.code a52),(53,.code a53),(54,.code a54),(55,.code a55),(56,.code a56),(57,.code a57),(58,.code a58),(59,.code a59),(60,.dfr RN),(61,.code a61),(62,.code a62),(63,.code a63),(64,.code a64),(65,.code a65),(78,.code a78),(79,.code a79),(80,.code a80),(81,.code a81),(82,.code a82),(83,.code a83),(84,.code a84),(85,.code a85),(86,.code a86),(87,.code a87),(88,.code a88),(89,.code a89),(90,.code a90),(91,.code a91),(92,.code a92),(93,.code a93),(94,.code a94),(95,.code a95),(96,.code a96),(97,.code a97),(98,.code a98),(99,.code a99),(100,.code a100),(101,.code a101),(102,.code a102),(103,.code a103),(104,.code a104),(105,.code a105),(106,.code a106),(107,.code a107),(108,.code a108),(109,.code a109),(110,.code a110),(111,.code a111),(112,.code a112),(113,.code a113),(114,.code a114),(117,.code a117),(118,.code a118),(119,.code a119),(120,.code a120),(121,.code a121),(122,.code a122),(123,.code a123),(124,.code a124),(125,.code a125),(126,.code a126),(127,.code a127),(128,.code a128),(129,.code a129),(136,.code a136),(147,.code a147),(148,.code a148),(149,.code a149),(150,.code a150),(151,.code a151),(152,.code a152),(153,.code a153),(154,.code a154),(155,.code a155),(156,.code a156),(157,.code a157),(158,.code a158),(159,.code a159),(160,.code a160),(161,.code a161),(162,.code a162),(163,.code a163),(164,.code a164),(165,.code a165),(166,.code a166),(167,.code a167),(168,.code a168),(169,.code a169),(170,.code a170),(171,.code a171),(172,.code a172),(173,.code a173),(175,.code a175),(176,.code a176),(177,.code a177),(180,.code a180),(181,.code a181),(182,.code a182),(183,.code a183),(184,.code a184),(185,.code a185),(186,.code a186),(187,.code a187),(189,.code a189),(190,.code a190),(191,.code a191),(192,.code a192),(193,.code a193),(194,.code a194),(195,.code a195),(196,.code a196),(199,.code a199),(202,.code a202),(203,.code a203),(206,.code a206),(207,.code a207),(208,.code a208),(209,.code a209),(221,.code a221),(222,.code a222),(223,.code a223),(224,.code a224),(225,.code a225),(226,.code a226),(227,.code a227),(228,.code a228),(229,.code a229),(230,.code a230),(231,.code a231),(232,.code a232),(233,.code a233),(234,.code a234),(235,.code a235),(236,.code a236),(238,.code a238),(240,.code a240),(242,.code a242),(243,.code a243),(244,.code a244),(245,.code a245),(246,.code a246),(247,.code a247),(250,.code a250),(251,.code a251),(254,.code a254),(255,.code a255),(258,.code a258),(259,.code a259),(262,.code a262),(263,.code a263),(264,.code a264),(265,.code a265),(268,.code a268),(269,.code a269),(271,.code a271),(272,.code a272),(285,.code a285),(291,.code a291),(292,.code a292),(296,.code a296),(310,.code a310),(312,.code a312),(313,.code a313)]
theorem Ak6:Xe Tryz.prog (Ad tab):=Us ⟨AlN,
 AjI,
 AjJ,
 AgO,
 AgP,
 Agw,
 Agx,
 AhR,
 AhS,
 AfW,
 AfX,
 Akx,
 ex x6,ex x7,ex x9,ex x10,ex x12,ex x13,ex x14,ex x15,ex x16,ex x17,ex x18,ex x19,ex x20,ex x21,ex x22,ex x23,ex x24,ex x25,ex x26,ex x27,ex x28,ex x34,ex x35,ex x36,ex x37,ex x38,ex x39,ex x40,ex x41,ex x42,ex x43,ex x44,ex x45,ex x46,ex x47,ex x48,ex x49,ex x50,ex x51,ex x52,ex x53,ex x54,ex x55,ex x56,ex x57,ex x58,ex x59,step_ok,ex x61,ex x62,ex x63,ex x64,ex x65,ex x78,ex x79,ex x80,ex x81,ex x82,ex x83,ex x84,ex x85,ex x86,ex x87,ex x88,ex x89,ex x90,ex x91,ex x92,ex x93,ex x94,ex x95,ex x96,ex x97,ex x98,ex x99,ex x100,ex x101,ex x102,ex x103,ex x104,ex x105,ex x106,ex x107,ex x108,ex x109,ex x110,ex x111,ex x112,ex x113,ex x114,ex x117,ex x118,ex x119,ex x120,ex x121,ex x122,ex x123,ex x124,ex x125,ex x126,ex x127,ex x128,ex x129,ex x136,ex x147,ex x148,ex x149,ex x150,ex x151,ex x152,ex x153,ex x154,ex x155,ex x156,ex x157,ex x158,ex x159,ex x160,ex x161,ex x162,ex x163,ex x164,ex x165,ex x166,ex x167,ex x168,ex x169,ex x170,ex x171,ex x172,ex x173,ex x175,ex x176,ex x177,ex x180,ex x181,ex x182,ex x183,ex x184,ex x185,ex x186,ex x187,ex x189,ex x190,ex x191,ex x192,ex x193,ex x194,ex x195,ex x196,ex x199,ex x202,ex x203,ex x206,ex x207,ex x208,ex x209,ex x221,ex x222,ex x223,ex x224,ex x225,ex x226,ex x227,ex x228,ex x229,ex x230,ex x231,ex x232,ex x233,ex x234,ex x235,ex x236,ex x238,ex x240,ex x242,ex x243,ex x244,ex x245,ex x246,ex x247,ex x250,ex x251,ex x254,ex x255,ex x258,ex x259,ex x262,ex x263,ex x264,ex x265,ex x268,ex x269,ex x271,ex x272,ex x285,ex x291,ex x292,ex x296,ex x310,ex x312,ex x313,trivial⟩
theorem mixed:Tryz.prog.follows .mixedOrders=true:=by kernel_rfl
theorem Akn (n:Nat):AY Tryz.prog (run (Ad tab) n):=QH mixed Ak6 n
end AI
end Go.Proofs.YtjijnamhalgamaaGreatDoor
