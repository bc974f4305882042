/- The table of functions, printed by a program of mine. -/
import Derived.KernelRfl
import Derived.Test.YtceiccjppfapjaaGreatDoorVStC
import Derived.Test.YtceiccjppfapjaaGreatDoorVMab
import Derived.Test.YtceiccjppfapjaaGreatDoorVMac
set_option maxRecDepth 100000
namespace Go.Proofs.YtceiccjppfapjaaGreatDoor
namespace AI
noncomputable def tab:List (Nat×Jh):=[
 (347,.ext Zi),
 (365,.ext addSpec),
 (367,.ext QI),
 (185,.ext Aik),
 (186,.ext Ail),
 (192,.ext Aib),
 (193,.ext Aic),
 (254,.ext Aim),
 (253,.ext Aio),
 (188,.ext AhT),
 (189,.ext AhU),(6,.code a6),(14,.code a14),(23,.code a23),(24,.code a24),(25,.code a25),(26,.code a26),(27,.code a27),(28,.code a28),(29,.code a29),(30,.code a30),(31,.code a31),(32,.code a32),(33,.code a33),(34,.code a34),(44,.code a44),(45,.code a45),(46,.code a46),(47,.dfr UO),(55,.code a55),(56,.code a56),(57,.code a57),(58,.code a58),(59,.code a59),(60,.code a60),(61,.code a61),(62,.code a62),(63,.code a63),(64,.code a64),(65,.code a65),(66,.code a66),(67,.code a67),(68,.code a68),(69,.code a69),(70,.code a70),(71,.code a71),(72,.code a72),(73,.code a73),(74,.code a74),(75,.code a75),(76,.code a76),(77,.code a77),(96,.code a96),(97,.code a97),(98,.code a98),(99,.code a99),(100,.code a100),(101,.code a101),(102,.code a102),(103,.code a103),(104,.code a104),(105,.code a105),(106,.code a106),(107,.code a107),(108,.code a108),(109,.code a109),(110,.code a110),(111,.code a111),(112,.code a112),(113,.code a113),(115,.code a115),(121,.code a121),(122,.code a122),(123,.code a123),(124,.code a124),(125,.code a125),(126,.code a126),(127,.code a127),(128,.code a128),(129,.code a129),(130,.code a130),(131,.code a131),(132,.code a132),(133,.code a133),(134,.code a134),(135,.code a135),(136,.code a136),(147,.code a147),(148,.code a148),(149,.code a149),(150,.code a150),(165,.code a165),(166,.code a166),(167,.code a167),(168,.code a168),(169,.code a169),(170,.code a170),(171,.code a171),(172,.code a172),(173,.code a173),(174,.code a174),(175,.code a175),(176,.code a176),(177,.code a177),(178,.code a178),(179,.code a179),(180,.code a180),(181,.code a181),(182,.code a182),(183,.code a183),(184,.code a184),(187,.code a187),(190,.code a190),(191,.code a191),(196,.code a196),(197,.code a197),(198,.code a198),(199,.code a199),(200,.code a200),(201,.code a201),(202,.code a202),(216,.code a216),(217,.code a217),(218,.code a218),(219,.code a219),(220,.code a220),(221,.code a221),(222,.code a222),(223,.code a223),(224,.code a224),(225,.code a225),(232,.code a232),(234,.code a234),(235,.code a235),(236,.code a236),(237,.code a237),(242,.code a242),(243,.code a243),(244,.code a244),(247,.code a247),(248,.code a248),(251,.code a251),(252,.code a252),(255,.code a255),(256,.code a256),(259,.code a259),(260,.code a260),(261,.code a261),(262,.code a262),(263,.code a263),(264,.code a264),(265,.code a265),(266,.code a266),(272,.code a272),(273,.code a273),(276,.code a276),(277,.code a277),(278,.code a278),(279,.code a279),(280,.code a280),(281,.code a281),(282,.code a282),(283,.code a283),(284,.code a284),(285,.code a285),(286,.code a286),(287,.code a287),(288,.code a288),(289,.code a289),(290,.code a290),(291,.code a291),(301,.code a301),(303,.code a303),(304,.code a304),(306,.code a306),(308,.code a308),(309,.code a309),(315,.code a315),(316,.code a316),(317,.code a317),(318,.code a318),(319,.code a319),(320,.code a320),(321,.code a321),(322,.code a322),(323,.code a323),(325,.code a325),(326,.code a326),(327,.code a327),(328,.code a328),(329,.code a329),(330,.code a330),(342,.code a342),(343,.code a343),(344,.code a344),(345,.code a345),(346,.code a346),(348,.code a348),(349,.code a349),(356,.code a356),(357,.code a357),(362,.code a362),(363,.code a363),(364,.code a364),(366,.code a366),(368,.code a368),(371,.code a371)]
theorem AnO:YR Tryz.prog (Ad tab):=Vu ⟨AqL,
 Amx,
 Amy,
 AkA,
 AkB,
 Akv,
 Akw,
 AkC,
 AkD,
 Aka,
 Akb,
 ex x6,ex x14,ex x23,ex x24,ex x25,ex x26,ex x27,ex x28,ex x29,ex x30,ex x31,ex x32,ex x33,ex x34,ex x44,ex x45,ex x46,step_ok,ex x55,ex x56,ex x57,ex x58,ex x59,ex x60,ex x61,ex x62,ex x63,ex x64,ex x65,ex x66,ex x67,ex x68,ex x69,ex x70,ex x71,ex x72,ex x73,ex x74,ex x75,ex x76,ex x77,ex x96,ex x97,ex x98,ex x99,ex x100,ex x101,ex x102,ex x103,ex x104,ex x105,ex x106,ex x107,ex x108,ex x109,ex x110,ex x111,ex x112,ex x113,ex x115,ex x121,ex x122,ex x123,ex x124,ex x125,ex x126,ex x127,ex x128,ex x129,ex x130,ex x131,ex x132,ex x133,ex x134,ex x135,ex x136,ex x147,ex x148,ex x149,ex x150,ex x165,ex x166,ex x167,ex x168,ex x169,ex x170,ex x171,ex x172,ex x173,ex x174,ex x175,ex x176,ex x177,ex x178,ex x179,ex x180,ex x181,ex x182,ex x183,ex x184,ex x187,ex x190,ex x191,ex x196,ex x197,ex x198,ex x199,ex x200,ex x201,ex x202,ex x216,ex x217,ex x218,ex x219,ex x220,ex x221,ex x222,ex x223,ex x224,ex x225,ex x232,ex x234,ex x235,ex x236,ex x237,ex x242,ex x243,ex x244,ex x247,ex x248,ex x251,ex x252,ex x255,ex x256,ex x259,ex x260,ex x261,ex x262,ex x263,ex x264,ex x265,ex x266,ex x272,ex x273,ex x276,ex x277,ex x278,ex x279,ex x280,ex x281,ex x282,ex x283,ex x284,ex x285,ex x286,ex x287,ex x288,ex x289,ex x290,ex x291,ex x301,ex x303,ex x304,ex x306,ex x308,ex x309,ex x315,ex x316,ex x317,ex x318,ex x319,ex x320,ex x321,ex x322,ex x323,ex x325,ex x326,ex x327,ex x328,ex x329,ex x330,ex x342,ex x343,ex x344,ex x345,ex x346,ex x348,ex x349,ex x356,ex x357,ex x362,ex x363,ex x364,ex x366,ex x368,ex x371,trivial⟩
theorem mixed:Tryz.prog.follows .mixedOrders=true:=by kernel_rfl
theorem AbG (n:Nat):Bj Tryz.prog (run (Ad tab) n):=Sr mixed AnO n
end AI
end Go.Proofs.YtceiccjppfapjaaGreatDoor
