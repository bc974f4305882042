/- The table of functions, printed by a program of mine. -/
import Derived.KernelRfl
import Derived.Test.YtnbibfalljlmfaaGreatDoorStC
import Derived.Test.YtnbibfalljlmfaaGreatDoorMad
import Derived.Test.YtnbibfalljlmfaaGreatDoorMae
namespace Go.Proofs.YtnbibfalljlmfaaGreatDoor
namespace AI
noncomputable def tab:List (Nat×AFn):=[
  (286,.ext AtA),
  (301,.ext addSpec),
  (303,.ext AyA),
  (144,.ext insSpN),
  (145,.ext delSpN),
  (151,.ext insSpE),
  (152,.ext delSpE),
  (221,.ext insSpP),
  (220,.ext delSpP),
  (147,.ext insSpS),
  (148,.ext delSpS),(3,.code a3),(9,.code a9),(10,.code a10),(11,.code a11),(12,.code a12),(13,.code a13),(14,.code a14),(18,.code a18),(22,.code a22),(24,.code a24),(32,.code a32),(33,.code a33),(34,.code a34),(35,.code a35),(36,.code a36),(37,.code a37),(38,.code a38),(39,.code a39),(40,.code a40),(41,.dfr AEb),(42,.code a42),(43,.code a43),(45,.code a45),(48,.code a48),(49,.code a49),(66,.code a66),(67,.code a67),(68,.code a68),(69,.code a69),(70,.code a70),(71,.code a71),(72,.code a72),(73,.code a73),(74,.code a74),(75,.code a75),(76,.code a76),(77,.code a77),(78,.code a78),(79,.code a79),(80,.code a80),(81,.code a81),(82,.code a82),(83,.code a83),(84,.code a84),(85,.code a85),(86,.code a86),(87,.code a87),(88,.code a88),(89,.code a89),(91,.code a91),(96,.code a96),(101,.code ALA),(102,.code ACn),(112,.code ACu),(113,.code ACv),(114,.code ACw),(115,.code ACx),(118,.code ACy),(119,.code a119),(120,.code ACz),(121,.code ACA),(122,.code ACB),(123,.code ACC),(124,.code a124),(125,.code ACD),(126,.code ACE),(127,.code a127),(128,.code ACF),(129,.code ACG),(130,.code a130),(131,.code a131),(132,.code ACH),(133,.code ACI),(134,.code ACJ),(135,.code ACK),(136,.code ACN),(137,.code ACO),(138,.code a138),(139,.code a139),(140,.code ACP),(141,.code a141),(142,.code ACQ),(143,.code a143),(146,.code a146),(149,.code ACV),(150,.code ACW),(153,.code ACY),(154,.code a154),(164,.code a164),(165,.code AC3),(166,.code a166),(167,.code a167),(168,.code a168),(169,.code AC4),(170,.code AC5),(175,.code a175),(176,.code AC8),(177,.code AC9),(178,.code ADa),(179,.code ADb),(180,.code ADc),(181,.code ADd),(182,.code a182),(183,.code a183),(184,.code ADe),(185,.code ADf),(190,.code ADk),(192,.code ADm),(194,.code a194),(195,.code ADn),(196,.code a196),(197,.code ADo),(206,.code a206),(207,.code ADu),(208,.code a208),(209,.code ADw),(210,.code a210),(211,.code ADx),(214,.code ADy),(215,.code ADz),(218,.code a218),(219,.code ADC),(222,.code a222),(223,.code ADG),(228,.code a228),(229,.code a229),(230,.code ADJ),(231,.code ADK),(232,.code a232),(233,.code a233),(234,.code a234),(235,.code ADL),(239,.code ADN),(240,.code ADO),(241,.code ADP),(242,.code a242),(243,.code ADQ),(244,.code ADR),(246,.code ADT),(248,.code ADV),(249,.code ADW),(251,.code ADX),(255,.code AD1),(263,.code AD8),(264,.code AD9),(265,.code a265),(266,.code a266),(267,.code a267),(268,.code a268),(269,.code a269),(270,.code a270),(271,.code a271),(272,.code a272),(281,.code a281),(282,.code a282),(283,.code a283),(284,.code AEa),(285,.code a285),(287,.code a287),(288,.code a288),(298,.code a298),(299,.code a299),(300,.code a300),(302,.code a302),(304,.code a304),(307,.code a307)]
theorem AOZ:AUH Tryz.prog (Dx tab):=AO0 ⟨ARO,
  AWo,
  AWp,
  ins_okN,
  del_okN,
  ins_okE,
  del_okE,
  ins_okP,
  del_okP,
  AUI,
  del_okS,
  ex x3,ex x9,ex x10,ex x11,ex x12,ex x13,ex x14,ex x18,ex x22,ex x24,ex x32,ex x33,ex x34,ex x35,ex x36,ex x37,ex x38,ex x39,ex x40,step_ok,ex x42,ex x43,ex x45,ex x48,ex x49,ex x66,ex x67,ex x68,ex x69,ex x70,ex x71,ex x72,ex x73,ex x74,ex x75,ex x76,ex x77,ex x78,ex x79,ex x80,ex x81,ex x82,ex x83,ex x84,ex x85,ex x86,ex x87,ex x88,ex x89,ex x91,ex x96,ex x101,ex x102,ex x112,ex x113,ex x114,ex x115,ex x118,ex x119,ex x120,ex x121,ex x122,ex x123,ex x124,ex x125,ex x126,ex x127,ex x128,ex x129,ex x130,ex x131,ex x132,ex x133,ex x134,ex x135,ex x136,ex x137,ex x138,ex x139,ex x140,ex x141,ex x142,ex x143,ex x146,ex x149,ex x150,ex x153,ex x154,ex x164,ex x165,ex x166,ex x167,ex x168,ex x169,ex x170,ex x175,ex x176,ex x177,ex x178,ex x179,ex x180,ex x181,ex x182,ex x183,ex x184,ex x185,ex x190,ex x192,ex x194,ex x195,ex x196,ex x197,ex x206,ex x207,ex x208,ex x209,ex x210,ex x211,ex x214,ex x215,ex x218,ex x219,ex x222,ex x223,ex x228,ex x229,ex x230,ex x231,ex x232,ex x233,ex x234,ex x235,ex x239,ex x240,ex x241,ex x242,ex x243,ex x244,ex x246,ex x248,ex x249,ex x251,ex x255,ex x263,ex x264,ex x265,ex x266,ex x267,ex x268,ex x269,ex x270,ex x271,ex x272,ex x281,ex x282,ex x283,ex x284,ex x285,ex x287,ex x288,ex x298,ex x299,ex x300,ex x302,ex x304,ex x307,trivial⟩
theorem mixed:Tryz.prog.follows .mixedOrders=true:=by kernel_rfl
theorem AWq (n:Nat):Ay8 Tryz.prog (run (Dx tab) n):=APj mixed AOZ n
end AI
end Go.Proofs.YtnbibfalljlmfaaGreatDoor
