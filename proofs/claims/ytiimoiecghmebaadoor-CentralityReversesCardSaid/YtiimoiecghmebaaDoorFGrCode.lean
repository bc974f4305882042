/- The table of functions, printed by a program of mine. -/
import Derived.KernelRfl
import Derived.Test.YtiimoiecghmebaaDoorFGrCodeA
import Derived.Test.YtiimoiecghmebaaDoorFGrCodeB
import Derived.Test.YtiimoiecghmebaaDoorFGrCodeC
import Derived.Test.YtiimoiecghmebaaDoorFGrCodeD
import Derived.Test.YtiimoiecghmebaaDoorFMaa
import Derived.Test.YtiimoiecghmebaaDoorFSqI
set_option maxRecDepth 100000
namespace Go.Proofs.YtiimoiecghmebaaDoor
namespace AI
noncomputable def tab:List (Nat×Hf):=[
 (83,.ext Vp),
 (58,.ext addSpec),
 (60,.ext NW),
 (28,.ext Gn),(3,.code a3),(4,.code a4),(5,.code a5),(7,.code a7),(8,.code a8),(9,.code a9),(10,.code a10),(11,.code a11),(12,.code a12),(13,.code a13),(14,.code a14),(15,.code a15),(17,.code a17),(18,.code a18),(19,.code a19),(20,.code a20),(21,.code a21),(22,.code a22),(23,.code a23),(24,.code a24),(25,.code a25),(26,.code a26),(27,.code a27),(29,.code a29),(30,.code a30),(31,.code a31),(32,.code a32),(33,.code a33),(34,.code a34),(35,.code a35),(36,.code a36),(37,.code a37),(38,.code a38),(39,.code a39),(40,.code a40),(41,.code a41),(42,.code a42),(43,.code a43),(44,.code a44),(45,.code a45),(46,.code a46),(47,.code a47),(48,.code a48),(49,.code a49),(50,.code a50),(51,.code a51),(54,.code a54),(55,.code a55),(56,.code a56),(57,.code a57),(59,.code a59),(61,.code a61),(62,.code a62),(63,.code a63),(64,.code a64),(65,.code a65),(75,.code a75),(76,.code a76),(77,.code a77),(84,.code a84),(85,.code a85),(87,.code a87)]
theorem AbO:NY Tryd.prog (Ad tab):=Rq ⟨AhO,
 Af1,
 Af2,
 AhH,
 ex x3,ex x4,ex x5,ex x7,ex x8,ex x9,ex x10,ex x11,ex x12,ex x13,ex x14,ex x15,ex x17,ex x18,ex x19,ex x20,ex x21,ex x22,ex x23,ex x24,ex x25,ex x26,ex x27,ex x29,ex x30,ex x31,ex x32,ex x33,ex x34,ex x35,ex x36,ex x37,ex x38,ex x39,ex x40,ex x41,ex x42,ex x43,ex x44,ex x45,ex x46,ex x47,ex x48,ex x49,ex x50,ex x51,ex x54,ex x55,ex x56,ex x57,ex x59,ex x61,ex x62,ex x63,ex x64,ex x65,ex x75,ex x76,ex x77,ex x84,ex x85,ex x87,trivial⟩
theorem mixed:Tryd.prog.follows .mixedOrders=true:=by kernel_rfl
theorem Rt (n:Nat):Ar Tryd.prog (run (Ad tab) n):=Ji mixed AbO n
end AI
end Go.Proofs.YtiimoiecghmebaaDoor
