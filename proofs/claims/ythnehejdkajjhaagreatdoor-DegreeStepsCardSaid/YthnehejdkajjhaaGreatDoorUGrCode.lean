/- The table of functions, printed by a program of mine. -/
import Derived.KernelRfl
import Derived.Test.YthnehejdkajjhaaGreatDoorUStC
import Derived.Test.YthnehejdkajjhaaGreatDoorUMab
import Derived.Test.YthnehejdkajjhaaGreatDoorUMac
set_option maxRecDepth 100000
namespace Go.Proofs.YthnehejdkajjhaaGreatDoor
namespace AI
noncomputable def tab:List (Nat×Jc):=[
 (278,.ext Aab),
 (295,.ext addSpec),
 (297,.ext Rt),
 (142,.ext Ajx),
 (143,.ext Ajy),
 (149,.ext Agy),
 (150,.ext Agz),
 (204,.ext AhP),
 (203,.ext AhQ),
 (145,.ext Aju),
 (146,.ext Ajv),
 (92,.ext Z8),(6,.code a6),(12,.code a12),(13,.code a13),(21,.code a21),(22,.code a22),(23,.code a23),(24,.code a24),(25,.code a25),(26,.code a26),(27,.code a27),(28,.code a28),(29,.code a29),(30,.code a30),(31,.code a31),(33,.code a33),(34,.code a34),(35,.code a35),(36,.code a36),(37,.dfr Vr),(38,.code a38),(45,.code a45),(46,.code a46),(47,.code a47),(48,.code a48),(49,.code a49),(50,.code a50),(51,.code a51),(52,.code a52),(53,.code a53),(54,.code a54),(55,.code a55),(56,.code a56),(57,.code a57),(58,.code a58),(59,.code a59),(60,.code a60),(61,.code a61),(62,.code a62),(63,.code a63),(64,.code a64),(68,.code a68),(69,.code a69),(70,.code a70),(71,.code a71),(72,.code a72),(73,.code a73),(74,.code a74),(75,.code a75),(76,.code a76),(77,.code a77),(78,.code a78),(79,.code a79),(80,.code a80),(81,.code a81),(82,.code a82),(83,.code a83),(84,.code a84),(85,.code a85),(86,.code a86),(87,.code a87),(88,.code a88),(94,.code a94),(95,.code a95),(96,.code a96),(97,.code a97),(98,.code a98),(99,.code a99),(100,.code a100),(101,.code a101),(102,.code a102),(103,.code a103),(104,.code a104),(105,.code a105),(106,.code a106),(109,.code a109),(113,.code a113),(114,.code a114),(115,.code a115),(116,.code a116),(117,.code a117),(118,.code a118),(119,.code a119),(120,.code a120),(121,.code a121),(122,.code a122),(123,.code a123),(124,.code a124),(125,.code a125),(126,.code a126),(127,.code a127),(128,.code a128),(129,.code a129),(130,.code a130),(131,.code a131),(132,.code a132),(133,.code a133),(134,.code a134),(135,.code a135),(136,.code a136),(137,.code a137),(138,.code a138),(139,.code a139),(140,.code a140),(141,.code a141),(144,.code a144),(147,.code a147),(148,.code a148),(151,.code a151),(152,.code a152),(153,.code a153),(154,.code a154),(155,.code a155),(156,.code a156),(157,.code a157),(158,.code a158),(159,.code a159),(173,.code a173),(174,.code a174),(175,.code a175),(176,.code a176),(177,.code a177),(178,.code a178),(179,.code a179),(180,.code a180),(181,.code a181),(182,.code a182),(183,.code a183),(184,.code a184),(185,.code a185),(186,.code a186),(187,.code a187),(188,.code a188),(189,.code a189),(190,.code a190),(191,.code a191),(192,.code a192),(193,.code a193),(196,.code a196),(197,.code a197),(200,.code a200),(201,.code a201),(202,.code a202),(205,.code a205),(206,.code a206),(209,.code a209),(210,.code a210),(211,.code a211),(212,.code a212),(213,.code a213),(214,.code a214),(215,.code a215),(216,.code a216),(220,.code a220),(222,.code a222),(223,.code a223),(226,.code a226),(227,.code a227),(228,.code a228),(229,.code a229),(230,.code a230),(231,.code a231),(232,.code a232),(233,.code a233),(234,.code a234),(235,.code a235),(236,.code a236),(237,.code a237),(238,.code a238),(239,.code a239),(240,.code a240),(241,.code a241),(242,.code a242),(243,.code a243),(244,.code a244),(245,.code a245),(246,.code a246),(247,.code a247),(248,.code a248),(249,.code a249),(251,.code a251),(256,.code a256),(257,.code a257),(258,.code a258),(259,.code a259),(260,.code a260),(261,.code a261),(262,.code a262),(263,.code a263),(264,.code a264),(266,.code a266),(267,.code a267),(268,.code a268),(269,.code a269),(270,.code a270),(271,.code a271),(272,.code a272),(273,.code a273),(274,.code a274),(275,.code a275),(276,.code a276),(277,.code a277),(279,.code a279),(280,.code a280),(285,.code a285),(286,.code a286),(287,.code a287),(288,.code a288),(289,.code a289),(290,.code a290),(291,.code a291),(293,.code a293),(294,.code a294),(296,.code a296),(298,.code a298)]
theorem ApR:Zt Tryz.prog (Ac tab):=Wq ⟨AsD,
 Ao8,
 Ao9,
 Al4,
 Al5,
 Aj4,
 Aj5,
 Ak5,
 Ak6,
 Al2,
 Al3,
 Alk,
 ex x6,ex x12,ex x13,ex x21,ex x22,ex x23,ex x24,ex x25,ex x26,ex x27,ex x28,ex x29,ex x30,ex x31,ex x33,ex x34,ex x35,ex x36,step_ok,ex x38,ex x45,ex x46,ex x47,ex x48,ex x49,ex x50,ex x51,ex x52,ex x53,ex x54,ex x55,ex x56,ex x57,ex x58,ex x59,ex x60,ex x61,ex x62,ex x63,ex x64,ex x68,ex x69,ex x70,ex x71,ex x72,ex x73,ex x74,ex x75,ex x76,ex x77,ex x78,ex x79,ex x80,ex x81,ex x82,ex x83,ex x84,ex x85,ex x86,ex x87,ex x88,ex x94,ex x95,ex x96,ex x97,ex x98,ex x99,ex x100,ex x101,ex x102,ex x103,ex x104,ex x105,ex x106,ex x109,ex x113,ex x114,ex x115,ex x116,ex x117,ex x118,ex x119,ex x120,ex x121,ex x122,ex x123,ex x124,ex x125,ex x126,ex x127,ex x128,ex x129,ex x130,ex x131,ex x132,ex x133,ex x134,ex x135,ex x136,ex x137,ex x138,ex x139,ex x140,ex x141,ex x144,ex x147,ex x148,ex x151,ex x152,ex x153,ex x154,ex x155,ex x156,ex x157,ex x158,ex x159,ex x173,ex x174,ex x175,ex x176,ex x177,ex x178,ex x179,ex x180,ex x181,ex x182,ex x183,ex x184,ex x185,ex x186,ex x187,ex x188,ex x189,ex x190,ex x191,ex x192,ex x193,ex x196,ex x197,ex x200,ex x201,ex x202,ex x205,ex x206,ex x209,ex x210,ex x211,ex x212,ex x213,ex x214,ex x215,ex x216,ex x220,ex x222,ex x223,ex x226,ex x227,ex x228,ex x229,ex x230,ex x231,ex x232,ex x233,ex x234,ex x235,ex x236,ex x237,ex x238,ex x239,ex x240,ex x241,ex x242,ex x243,ex x244,ex x245,ex x246,ex x247,ex x248,ex x249,ex x251,ex x256,ex x257,ex x258,ex x259,ex x260,ex x261,ex x262,ex x263,ex x264,ex x266,ex x267,ex x268,ex x269,ex x270,ex x271,ex x272,ex x273,ex x274,ex x275,ex x276,ex x277,ex x279,ex x280,ex x285,ex x286,ex x287,ex x288,ex x289,ex x290,ex x291,ex x293,ex x294,ex x296,ex x298,trivial⟩
theorem mixed:Tryz.prog.follows .mixedOrders=true:=by kernel_rfl
theorem Zv (n:Nat):Bz Tryz.prog (run (Ac tab) n):=TJ mixed ApR n
end AI
end Go.Proofs.YthnehejdkajjhaaGreatDoor
