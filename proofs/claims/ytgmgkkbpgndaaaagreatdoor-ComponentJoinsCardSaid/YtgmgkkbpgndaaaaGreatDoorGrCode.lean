/- The table of functions, printed by a program of mine. -/
import Derived.KernelRfl
import Derived.Test.YtgmgkkbpgndaaaaGreatDoorStC
import Derived.Test.YtgmgkkbpgndaaaaGreatDoorIxF
import Derived.Test.YtgmgkkbpgndaaaaGreatDoorBc
import Derived.Test.YtgmgkkbpgndaaaaGreatDoorIwN
import Derived.Test.YtgmgkkbpgndaaaaGreatDoorIwE
import Derived.Test.YtgmgkkbpgndaaaaGreatDoorIwP
import Derived.Test.YtgmgkkbpgndaaaaGreatDoorIwS
import Derived.Test.YtgmgkkbpgndaaaaGreatDoorMkI
set_option maxRecDepth 100000
namespace Go.Proofs.YtgmgkkbpgndaaaaGreatDoor
namespace AI
noncomputable def tab:List (Nat×AFn):=[
 (173,.ext ixSpec),
 (218,.ext addSpec),
 (220,.ext subSpec),
 (128,.ext insSpN),
 (129,.ext delSpN),
 (135,.ext insSpE),
 (136,.ext delSpE),
 (158,.ext insSpP),
 (157,.ext delSpP),
 (131,.ext insSpS),
 (132,.ext delSpS),
 (32,.ext skSpec),(3,.code a3),(7,.code a7),(8,.code a8),(9,.code a9),(10,.code a10),(12,.code a12),(14,.code a14),(16,.code a16),(17,.code a17),(18,.code a18),(19,.code a19),(20,.code a20),(21,.code a21),(22,.code a22),(23,.code a23),(24,.code a24),(26,.code a26),(27,.code a27),(30,.code a30),(31,.code a31),(33,.code a33),(37,.code a37),(38,.code a38),(39,.code a39),(40,.code a40),(41,.code a41),(42,.code a42),(44,.code a44),(47,.code a47),(48,.code a48),(49,.code a49),(50,.code a50),(51,.code a51),(52,.code a52),(58,.code a58),(59,.dfr stepDfr),(60,.code a60),(61,.code a61),(63,.code a63),(72,.code a72),(73,.code a73),(74,.code a74),(75,.code a75),(76,.code a76),(77,.code a77),(78,.code a78),(79,.code a79),(80,.code a80),(86,.code a86),(87,.code a87),(88,.code a88),(89,.code a89),(91,.code a91),(92,.code a92),(93,.code a93),(94,.code a94),(105,.code a105),(106,.code a106),(107,.code a107),(123,.code a123),(124,.code a124),(125,.code a125),(126,.code a126),(127,.code a127),(130,.code a130),(133,.code a133),(134,.code a134),(140,.code a140),(146,.code a146),(147,.code a147),(150,.code a150),(151,.code a151),(154,.code a154),(155,.code a155),(156,.code a156),(159,.code a159),(160,.code a160),(171,.code a171),(172,.code a172),(174,.code a174),(175,.code a175),(177,.code a177),(178,.code a178),(179,.code a179),(181,.code a181),(198,.code a198),(200,.code a200),(201,.code a201),(202,.code a202),(211,.code a211),(212,.code a212),(213,.code a213),(214,.code a214),(216,.code a216),(217,.code a217),(219,.code a219)]
theorem tab_ok:TableOk Tryz.prog (findFn tab):=tableOk_of ⟨ix_ok,
 add_ok,
 sub_ok,
 ins_okN,
 del_okN,
 ins_okE,
 del_okE,
 ins_okP,
 del_okP,
 ins_okS,
 del_okS,
 sk_ok,
 ex x3,ex x7,ex x8,ex x9,ex x10,ex x12,ex x14,ex x16,ex x17,ex x18,ex x19,ex x20,ex x21,ex x22,ex x23,ex x24,ex x26,ex x27,ex x30,ex x31,ex x33,ex x37,ex x38,ex x39,ex x40,ex x41,ex x42,ex x44,ex x47,ex x48,ex x49,ex x50,ex x51,ex x52,ex x58,step_ok,ex x60,ex x61,ex x63,ex x72,ex x73,ex x74,ex x75,ex x76,ex x77,ex x78,ex x79,ex x80,ex x86,ex x87,ex x88,ex x89,ex x91,ex x92,ex x93,ex x94,ex x105,ex x106,ex x107,ex x123,ex x124,ex x125,ex x126,ex x127,ex x130,ex x133,ex x134,ex x140,ex x146,ex x147,ex x150,ex x151,ex x154,ex x155,ex x156,ex x159,ex x160,ex x171,ex x172,ex x174,ex x175,ex x177,ex x178,ex x179,ex x181,ex x198,ex x200,ex x201,ex x202,ex x211,ex x212,ex x213,ex x214,ex x216,ex x217,ex x219,trivial⟩
theorem mixed:Tryz.prog.follows .mixedOrders=true:=by kernel_rfl
theorem run_ok (n:Nat):CallSound Tryz.prog (run (findFn tab) n):=run_sound mixed tab_ok n
end AI
end Go.Proofs.YtgmgkkbpgndaaaaGreatDoor
