/- The table of functions, printed by a program of mine. -/
import Derived.KernelRfl
import Derived.Test.YtnbibfalljlmfaaGreatDoorStC
import Derived.Test.YtnbibfalljlmfaaGreatDoorMad
import Derived.Test.YtnbibfalljlmfaaGreatDoorMae
namespace Go.Proofs.YtnbibfalljlmfaaGreatDoor
namespace AI
noncomputable def tab:List (Nat×AFn):=[
  (286,.ext AtA),
  (301,.ext addSpec),
  (303,.ext AyA),
  (144,.ext insSpN),
  (145,.ext delSpN),
  (151,.ext insSpE),
  (152,.ext delSpE),
  (221,.ext insSpP),
  (220,.ext delSpP),
  (147,.ext insSpS),
  (148,.ext delSpS),(8,.code a8),(13,.code a13),(25,.code a25),(26,.code a26),(27,.code a27),(29,.code a29),(30,.code a30),(31,.code a31),(36,.code a36),(40,.code a40),(41,.dfr AEb),(48,.code a48),(49,.code a49),(51,.code a51),(52,.code a52),(53,.code a53),(54,.code a54),(55,.code a55),(56,.code a56),(57,.code a57),(58,.code a58),(59,.code a59),(60,.code a60),(63,.code a63),(64,.code a64),(65,.code a65),(69,.code a69),(71,.code a71),(72,.code a72),(73,.code a73),(81,.code a81),(82,.code a82),(83,.code a83),(84,.code a84),(85,.code a85),(86,.code a86),(87,.code a87),(88,.code a88),(96,.code a96),(101,.code ALA),(102,.code ACn),(103,.code ACo),(104,.code ACp),(105,.code a105),(106,.code ACq),(107,.code a107),(108,.code ACr),(109,.code a109),(110,.code ACs),(111,.code ACt),(112,.code ACu),(113,.code ACv),(114,.code ACw),(115,.code ACx),(116,.code a116),(117,.code a117),(119,.code a119),(120,.code ACz),(122,.code ACB),(129,.code ACG),(130,.code a130),(131,.code a131),(132,.code ACH),(133,.code ACI),(134,.code ACJ),(135,.code ACK),(137,.code ACO),(139,.code a139),(140,.code ACP),(141,.code a141),(142,.code ACQ),(143,.code a143),(146,.code a146),(149,.code ACV),(150,.code ACW),(164,.code a164),(165,.code AC3),(166,.code a166),(167,.code a167),(168,.code a168),(169,.code AC4),(170,.code AC5),(175,.code a175),(176,.code AC8),(177,.code AC9),(178,.code ADa),(179,.code ADb),(180,.code ADc),(181,.code ADd),(182,.code a182),(183,.code a183),(184,.code ADe),(185,.code ADf),(186,.code ADg),(187,.code ADh),(188,.code ADi),(189,.code ADj),(190,.code ADk),(191,.code ADl),(192,.code ADm),(193,.code a193),(194,.code a194),(195,.code ADn),(196,.code a196),(197,.code ADo),(198,.code a198),(199,.code ADp),(200,.code ADq),(201,.code a201),(202,.code ADr),(203,.code a203),(204,.code ADs),(205,.code ADt),(208,.code a208),(210,.code a210),(211,.code ADx),(214,.code ADy),(215,.code ADz),(218,.code a218),(219,.code ADC),(222,.code a222),(223,.code ADG),(228,.code a228),(229,.code a229),(230,.code ADJ),(231,.code ADK),(232,.code a232),(233,.code a233),(234,.code a234),(235,.code ADL),(240,.code ADO),(241,.code ADP),(242,.code a242),(243,.code ADQ),(244,.code ADR),(245,.code ADS),(246,.code ADT),(247,.code ADU),(248,.code ADV),(249,.code ADW),(250,.code a250),(251,.code ADX),(252,.code ADY),(253,.code ADZ),(254,.code AD0),(263,.code AD8),(264,.code AD9),(265,.code a265),(266,.code a266),(267,.code a267),(268,.code a268),(269,.code a269),(270,.code a270),(271,.code a271),(272,.code a272),(273,.code a273),(274,.code a274),(275,.code a275),(276,.code a276),(277,.code a277),(278,.code a278),(279,.code a279),(280,.code a280),(281,.code a281),(282,.code a282),(283,.code a283),(284,.code AEa),(285,.code a285),(287,.code a287),(288,.code a288),(289,.code a289),(290,.code a290),(295,.code a295),(296,.code a296),(297,.code a297),(298,.code a298),(299,.code a299),(300,.code a300),(302,.code a302),(304,.code a304),(306,.code a306),(307,.code a307)]
theorem AOZ:AUH Tryz.prog (Dx tab):=AO0 ⟨ARO,
  AWo,
  AWp,
  ins_okN,
  del_okN,
  ins_okE,
  del_okE,
  ins_okP,
  del_okP,
  AUI,
  del_okS,
  ex x8,ex x13,ex x25,ex x26,ex x27,ex x29,ex x30,ex x31,ex x36,ex x40,step_ok,ex x48,ex x49,ex x51,ex x52,ex x53,ex x54,ex x55,ex x56,ex x57,ex x58,ex x59,ex x60,ex x63,ex x64,ex x65,ex x69,ex x71,ex x72,ex x73,ex x81,ex x82,ex x83,ex x84,ex x85,ex x86,ex x87,ex x88,ex x96,ex x101,ex x102,ex x103,ex x104,ex x105,ex x106,ex x107,ex x108,ex x109,ex x110,ex x111,ex x112,ex x113,ex x114,ex x115,ex x116,ex x117,ex x119,ex x120,ex x122,ex x129,ex x130,ex x131,ex x132,ex x133,ex x134,ex x135,ex x137,ex x139,ex x140,ex x141,ex x142,ex x143,ex x146,ex x149,ex x150,ex x164,ex x165,ex x166,ex x167,ex x168,ex x169,ex x170,ex x175,ex x176,ex x177,ex x178,ex x179,ex x180,ex x181,ex x182,ex x183,ex x184,ex x185,ex x186,ex x187,ex x188,ex x189,ex x190,ex x191,ex x192,ex x193,ex x194,ex x195,ex x196,ex x197,ex x198,ex x199,ex x200,ex x201,ex x202,ex x203,ex x204,ex x205,ex x208,ex x210,ex x211,ex x214,ex x215,ex x218,ex x219,ex x222,ex x223,ex x228,ex x229,ex x230,ex x231,ex x232,ex x233,ex x234,ex x235,ex x240,ex x241,ex x242,ex x243,ex x244,ex x245,ex x246,ex x247,ex x248,ex x249,ex x250,ex x251,ex x252,ex x253,ex x254,ex x263,ex x264,ex x265,ex x266,ex x267,ex x268,ex x269,ex x270,ex x271,ex x272,ex x273,ex x274,ex x275,ex x276,ex x277,ex x278,ex x279,ex x280,ex x281,ex x282,ex x283,ex x284,ex x285,ex x287,ex x288,ex x289,ex x290,ex x295,ex x296,ex x297,ex x298,ex x299,ex x300,ex x302,ex x304,ex x306,ex x307,trivial⟩
theorem mixed:Tryz.prog.follows .mixedOrders=true:=by kernel_rfl
theorem AWq (n:Nat):Ay8 Tryz.prog (run (Dx tab) n):=APj mixed AOZ n
end AI
end Go.Proofs.YtnbibfalljlmfaaGreatDoor
