/- The table of functions, printed by a program of mine. -/
import Derived.KernelRfl
import Derived.Test.YthnehejdkajjhaaGreatDoorKStC
import Derived.Test.YthnehejdkajjhaaGreatDoorKMab
import Derived.Test.YthnehejdkajjhaaGreatDoorKMac
import Derived.Test.YthnehejdkajjhaaGreatDoorKMad
import Derived.Test.YthnehejdkajjhaaGreatDoorKSqI
set_option maxRecDepth 100000
namespace Go.Proofs.YthnehejdkajjhaaGreatDoor
namespace AI
noncomputable def tab:List (Nat×Jc):=[
 (278,.ext Aab),
 (295,.ext addSpec),
 (297,.ext Rt),
 (142,.ext Ajx),
 (143,.ext Ajy),
 (149,.ext Agy),
 (150,.ext Agz),
 (204,.ext AhP),
 (203,.ext AhQ),
 (145,.ext Aju),
 (146,.ext Ajv),
 (92,.ext Z8),
 (42,.ext sortSpecQ),(3,.code a3),(4,.code a4),(7,.code a7),(8,.code a8),(9,.code a9),(10,.code a10),(11,.code a11),(12,.code a12),(13,.code a13),(14,.code a14),(15,.code a15),(16,.code a16),(17,.code a17),(18,.code a18),(19,.code a19),(20,.code a20),(22,.code a22),(24,.code a24),(30,.code a30),(31,.code a31),(32,.code a32),(33,.code a33),(34,.code a34),(35,.code a35),(36,.code a36),(37,.dfr Vr),(38,.code a38),(39,.code a39),(40,.code a40),(41,.code a41),(43,.code a43),(44,.code a44),(45,.code a45),(46,.code a46),(57,.code a57),(64,.code a64),(65,.code a65),(66,.code a66),(67,.code a67),(68,.code a68),(69,.code a69),(70,.code a70),(71,.code a71),(72,.code a72),(73,.code a73),(74,.code a74),(75,.code a75),(76,.code a76),(77,.code a77),(78,.code a78),(79,.code a79),(80,.code a80),(81,.code a81),(82,.code a82),(83,.code a83),(84,.code a84),(85,.code a85),(86,.code a86),(87,.code a87),(88,.code a88),(89,.code a89),(90,.code a90),(91,.code a91),(94,.code a94),(95,.code a95),(96,.code a96),(100,.code a100),(106,.code a106),(107,.code a107),(108,.code a108),(109,.code a109),(110,.code a110),(111,.code a111),(112,.code a112),(113,.code a113),(114,.code a114),(115,.code a115),(116,.code a116),(117,.code a117),(118,.code a118),(119,.code a119),(120,.code a120),(121,.code a121),(122,.code a122),(123,.code a123),(124,.code a124),(125,.code a125),(126,.code a126),(127,.code a127),(128,.code a128),(129,.code a129),(130,.code a130),(131,.code a131),(132,.code a132),(133,.code a133),(134,.code a134),(135,.code a135),(136,.code a136),(137,.code a137),(138,.code a138),(139,.code a139),(140,.code a140),(141,.code a141),(144,.code a144),(147,.code a147),(148,.code a148),(151,.code a151),(152,.code a152),(153,.code a153),(154,.code a154),(155,.code a155),(156,.code a156),(157,.code a157),(158,.code a158),(159,.code a159),(160,.code a160),(161,.code a161),(162,.code a162),(163,.code a163),(170,.code a170),(173,.code a173),(174,.code a174),(175,.code a175),(176,.code a176),(177,.code a177),(178,.code a178),(181,.code a181),(183,.code a183),(184,.code a184),(185,.code a185),(186,.code a186),(187,.code a187),(188,.code a188),(189,.code a189),(190,.code a190),(191,.code a191),(192,.code a192),(193,.code a193),(196,.code a196),(197,.code a197),(200,.code a200),(201,.code a201),(202,.code a202),(205,.code a205),(206,.code a206),(209,.code a209),(210,.code a210),(211,.code a211),(212,.code a212),(213,.code a213),(214,.code a214),(215,.code a215),(216,.code a216),(217,.code a217),(218,.code a218),(219,.code a219),(220,.code a220),(222,.code a222),(223,.code a223),(242,.code a242),(243,.code a243),(244,.code a244),(245,.code a245),(246,.code a246),(247,.code a247),(248,.code a248),(249,.code a249),(251,.code a251),(256,.code a256),(257,.code a257),(258,.code a258),(259,.code a259),(260,.code a260),(261,.code a261),(262,.code a262),(263,.code a263),(264,.code a264),(272,.code a272),(273,.code a273),(274,.code a274),(275,.code a275),(276,.code a276),(277,.code a277),(279,.code a279),(280,.code a280),(287,.code a287),(288,.code a288),(289,.code a289),(290,.code a290),(291,.code a291),(293,.code a293),(294,.code a294),(296,.code a296),(298,.code a298)]
theorem ApR:Zt Tryz.prog (Ac tab):=Wq ⟨AsD,
 Ao8,
 Ao9,
 Al4,
 Al5,
 Aj4,
 Aj5,
 Ak5,
 Ak6,
 Al2,
 Al3,
 Alk,
 sq_ok,
 ex x3,ex x4,ex x7,ex x8,ex x9,ex x10,ex x11,ex x12,ex x13,ex x14,ex x15,ex x16,ex x17,ex x18,ex x19,ex x20,ex x22,ex x24,ex x30,ex x31,ex x32,ex x33,ex x34,ex x35,ex x36,step_ok,ex x38,ex x39,ex x40,ex x41,ex x43,ex x44,ex x45,ex x46,ex x57,ex x64,ex x65,ex x66,ex x67,ex x68,ex x69,ex x70,ex x71,ex x72,ex x73,ex x74,ex x75,ex x76,ex x77,ex x78,ex x79,ex x80,ex x81,ex x82,ex x83,ex x84,ex x85,ex x86,ex x87,ex x88,ex x89,ex x90,ex x91,ex x94,ex x95,ex x96,ex x100,ex x106,ex x107,ex x108,ex x109,ex x110,ex x111,ex x112,ex x113,ex x114,ex x115,ex x116,ex x117,ex x118,ex x119,ex x120,ex x121,ex x122,ex x123,ex x124,ex x125,ex x126,ex x127,ex x128,ex x129,ex x130,ex x131,ex x132,ex x133,ex x134,ex x135,ex x136,ex x137,ex x138,ex x139,ex x140,ex x141,ex x144,ex x147,ex x148,ex x151,ex x152,ex x153,ex x154,ex x155,ex x156,ex x157,ex x158,ex x159,ex x160,ex x161,ex x162,ex x163,ex x170,ex x173,ex x174,ex x175,ex x176,ex x177,ex x178,ex x181,ex x183,ex x184,ex x185,ex x186,ex x187,ex x188,ex x189,ex x190,ex x191,ex x192,ex x193,ex x196,ex x197,ex x200,ex x201,ex x202,ex x205,ex x206,ex x209,ex x210,ex x211,ex x212,ex x213,ex x214,ex x215,ex x216,ex x217,ex x218,ex x219,ex x220,ex x222,ex x223,ex x242,ex x243,ex x244,ex x245,ex x246,ex x247,ex x248,ex x249,ex x251,ex x256,ex x257,ex x258,ex x259,ex x260,ex x261,ex x262,ex x263,ex x264,ex x272,ex x273,ex x274,ex x275,ex x276,ex x277,ex x279,ex x280,ex x287,ex x288,ex x289,ex x290,ex x291,ex x293,ex x294,ex x296,ex x298,trivial⟩
theorem mixed:Tryz.prog.follows .mixedOrders=true:=by kernel_rfl
theorem Zv (n:Nat):Bz Tryz.prog (run (Ac tab) n):=TJ mixed ApR n
end AI
end Go.Proofs.YthnehejdkajjhaaGreatDoor
