/- The evaluator, step by step on symbols: what must hold for it to end in 'Q'. The evaluator, step by step on symbols: operations. The evaluator, step by step on symbols: regions, code, loops, functions. Loops by an invariant; what a function answers, as a predicate. Lists of numbers as abstract values; small facts that the steps need. -/
import Derived.Test.YthnehejdkajjhaaGreatDoorBSe
set_option linter.unusedVariables false
set_option maxRecDepth 4000
namespace Go.Proofs.YthnehejdkajjhaaGreatDoor
namespace AI
open Go.RowKit
variable {AP:Nat→Option Jc}
structure Run (AP:Nat→Option Jc) (c:AY) (env:Env) (s:Aq) (Q:Aw→Env→Aq→Prop):Prop where
 mk::(h:∃N e env' s',Gi (run AP N) N c env s=some (e,env',s')∧Q e env' s')
def Op1 (AP:Nat→Option Jc) (o:Dp) (env:Env) (s:Aq) (K:Bf→Aq→Prop):Prop:=
 ∃N out s',AA (run AP N) o env s=some (out,s')∧K out s'
def Ops (AP:Nat→Option Jc) (os:List Bj) (env:Env) (s:Aq) (Q:Aw→Env→Aq→Prop):Prop:=
 ∃N e env' s',FW (run AP N) os env s=some (e,env',s')∧Q e env' s'
structure Pure (AP:Nat→Option Jc) (f:Nat) (args:List AV) (v:AV):Prop where
 mk::(h:∃N,Fb (run AP N) f args=some v)
structure Am (AP:Nat→Option Jc) (f:Nat) (args:List AV) (s:Aq) (K:Bf→Aq→Prop):Prop where
 mk::(h:∃N out s',run AP N f args s=some (out,s')∧K out s')
theorem BP {n n':Nat} (h:n≤n'):G9 (run AP n) (run AP n'):=Wu h
theorem Run.mono {c:AY} {env:Env} {s:Aq} {Q Q':Aw→Env→Aq→Prop} (h:Run AP c env s Q) (hq:∀e env s,Q e env s→Q' e env s):Run AP c env s Q':=by
 obtain⟨N,e,env',s',h1,h2⟩:=h
 exact⟨N,e,env',s',h1,hq _ _ _ h2⟩
def AV.force {R:Sort _} (v:AV) (f:AV→R):R:=
 match v with
 | .bool b=>f (.bool b)
 | .int k n=>f (.int k n)
 | .str s=>f (.str s)
 | .sl nn xs=>f (.sl nn xs)
 | .zc=>f .zc
 | .own o g a b=>f (.own o g a b)
 | .agg cs=>f (.agg cs)
 | .BG cs=>f (.BG cs)
 | .ref o g i a=>f (.ref o g i a)
 | .DR cs=>f (.DR cs)
 | .fn g cs=>f (.fn g cs)
 | .map o g=>f (.map o g)
 | .fmap es=>f (.fmap es)
 | .iface t v=>f (.iface t v)
 | .LG=>f .LG
 | .En=>f .En
 | .Hz=>f .Hz
 | .Jp=>f .Jp
 | .undef=>f .undef
 | .junk=>f .junk
theorem force_eq {R:Sort _} (v:AV) (f:AV→R):v.force f=f v:=by cases v<;>rfl
def Ob (b:Bool) (t e:Prop):Prop:=match b with
 |true=>t
 |false=>e
theorem UF {b:Bool} {t e:Prop} (h1:b=true→t) (h2:b=false→e):Ob b t e:=by
 cases b
 ·exact h2 rfl
 ·exact h1 rfl
structure Qa (p t e:Prop):Prop where
 mk::(yes:p→t) (no:¬p→e)
structure need (p t:Prop):Prop where
 mk::(l:p) (r:t)
theorem CZ {p t:Prop} (h1:p) (h2:t):need p t:=⟨h1,h2⟩
structure Kv (k:IntKind) (z:Int) (K:AV→Prop):Prop where
 mk::(h:∃y,k.wrap z=y∧K (.int k y))
theorem BI {k:IntKind} {z y:Int} {K:AV→Prop} (h:k.wrap z=y) (h2:K (.int k y)):Kv k z K:=⟨y,h,h2⟩
structure AB {α:Type} (xs:List α) (i:Nat) (K:α→Prop):Prop where
 mk::(h:∃x,nth xs i=some x∧K x)
theorem Au {α:Type} {xs:List α} {i:Nat} {K:α→Prop} {x:α} (h:nth xs i=some x) (h2:K x):AB xs i K:=⟨x,h,h2⟩
structure Oh {α:Type} (o:Option α) (K:α→Prop):Prop where
 mk::(h:∃x,o=some x∧K x)
theorem Ae {α:Type} {o:Option α} {K:α→Prop} {x:α} (h:o=some x) (h2:K x):Oh o K:=⟨x,h,h2⟩
structure AbO (AP:Nat→Option Jc) (f:Nat) (args:List AV) (K:AV→Prop):Prop where
 mk::(h:∃v,Pure AP f args v∧K v)
def settle (v:AV) (K:AV→Prop):Prop:=match v with
 | .bool b=>Ob b (K (.bool true)) (K (.bool false))
 |v=>v.force K
theorem Xm (v:AV) (K:AV→Prop):settle v K↔K v:=by
 cases v<;>first|exact Iff.rfl|skip
 rename_i b
 cases b<;>exact Iff.rfl
def WL {α:Type}:List α→Nat→α→(List α→Prop)→Prop
 |[],_,_,K=>K []
 |_::xs,0,y,K=>K (y::xs)
 |x::xs,n+1,y,K=>WL xs n y fun ys=>K (x::ys)
theorem Hf {α:Type}:∀(l:List α) (n:Nat) (y:α) (K:List α→Prop),WL l n y K↔K (l.set n y)
 |[],_,_,_=>Iff.rfl
 |_::_,0,_,_=>Iff.rfl
 |x::xs,n+1,y,K=>Hf xs n y fun ys=>K (x::ys)
def AdX {α:Type}:List α→α→(List α→Prop)→Prop
 |[],y,K=>K [y]
 |x::xs,y,K=>AdX xs y fun ys=>K (x::ys)
theorem TR {α:Type}:∀(l:List α) (y:α) (K:List α→Prop),AdX l y K↔K (l++[y])
 |[],_,_=>Iff.rfl
 |x::xs,y,K=>TR xs y fun ys=>K (x::ys)
def Aah (s:Aq) (mk:Nat→Nat→AV) (ob:Nat→Obj) (K:Bf→Aq→Prop):Prop:=
 AdX s.σ (ob s.ctr) fun σ=>K (.ok (mk s.σ.length s.ctr)) ⟨σ,s.ctr+1⟩
structure eqK {α:Type} (a:α) (K:α→Prop):Prop where
 mk::(h:∃b,a=b∧K b)
theorem BK {α:Type} {a b:α} {K:α→Prop} (h1:a=b) (h:K b):eqK a K:=⟨_,h1,h⟩
def AeF (op:BinOp) (k:IntKind) (a b:Int) (K:AV→Prop):Prop:=
 match op with
 | .add=>Kv k (a+b) K
 | .sub=>Kv k (a-b) K
 | .mul=>Kv k (a*b) K
 | .quo=>need (b≠0) (Kv k (a.tdiv b) K)
 | .rem=>need (b≠0) (K (.int k (a.tmod b)))
 | .eql=>Qa (a=b) (K (.bool true)) (K (.bool false))
 | .neq=>Qa (a=b) (K (.bool false)) (K (.bool true))
 | .lss=>Qa (a<b) (K (.bool true)) (K (.bool false))
 | .leq=>Qa (a≤b) (K (.bool true)) (K (.bool false))
 | .gtr=>Qa (b<a) (K (.bool true)) (K (.bool false))
 | .geq=>Qa (b≤a) (K (.bool true)) (K (.bool false))
 | .and=>eqK (k.wrap (BitVec.ofInt k.bits a &&& BitVec.ofInt k.bits b).toNat) fun z=>K (.int k z)
 | .or=>eqK (k.wrap (BitVec.ofInt k.bits a ||| BitVec.ofInt k.bits b).toNat) fun z=>K (.int k z)
 | .xor=>eqK (k.wrap (BitVec.ofInt k.bits a ^^^ BitVec.ofInt k.bits b).toNat) fun z=>K (.int k z)
 | .shl=>need (0≤b) (Kv k (a*2 ^ (min b.toNat k.bits)) K)
 | .shr=>need (0≤b) (eqK (a.fdiv (2 ^ (min b.toNat k.bits))) fun z=>K (.int k z))
 |_=>False
def AeG (op:BinOp) (a b:List UInt8) (K:AV→Prop):Prop:=
 match op with
 | .eql=>Qa (a=b) (K (.bool true)) (K (.bool false))
 | .neq=>Qa (a=b) (K (.bool false)) (K (.bool true))
 | .lss=>Ob (Op.bytesLess a b) (K (.bool true)) (K (.bool false))
 | .leq=>Ob (Op.bytesLess a b||a==b) (K (.bool true)) (K (.bool false))
 | .gtr=>Ob (Op.bytesLess a b||a==b) (K (.bool false)) (K (.bool true))
 | .geq=>Ob (Op.bytesLess a b) (K (.bool false)) (K (.bool true))
 | .add=>need (a.length+b.length<2 ^ 63) (K (.str (a++b)))
 |_=>False
def AiS (op:BinOp) (k k':IntKind) (t:Prop):Prop:=match op with
 | .shl=>t
 | .shr=>t
 |_=>need (k=k') t
theorem AfO {op:BinOp} {k k':IntKind} {t:Prop} (h:AiS op k k' t):(k=k'∨op=.shl∨op=.shr)∧t:=by
 unfold AiS at h
 split at h
 ·exact⟨.inr (.inl rfl),h⟩
 ·exact⟨.inr (.inr rfl),h⟩
 ·exact⟨.inl h.1,h.2⟩
theorem AlM {op:BinOp} {k k':IntKind} {t:PL} {a b:Int} (h:k=k'∨op=.shl∨op=.shr):bin op t (.int k a) (.int k' b)=LK op k a b:=by
 simp only[bin]
 split
 ·rfl
 ·rename_i hk
  rcases h with h|rfl|rfl
  ·exact absurd h hk
  ·rfl
  ·rfl
def Apz (op:BinOp) (t:PL) (x y:AV) (K:AV→Prop):Prop:=
 match x,y with
 | .int k a,.int k' b=>AiS op k k' (AeF op k a b K)
 | .str a,.str b=>AeG op a b K
 |x,y=>Oh (bin op t x y) fun v=>settle v K
theorem Ac9 {op:BinOp} {t:PL} {x y:AV} {K:AV→Prop} (h:Apz op t x y K):∃v,bin op t x y=some v∧K v:=by
 unfold Apz at h
 split at h
 ·rename_i k a k' b
  obtain⟨hk,h⟩:=AfO h
  rw[AlM hk]
  unfold AeF at h
  cases op<;>simp only at h
  case add=>obtain⟨y,h1,h2⟩:=h;exact⟨_,rfl,by rw[h1];exact h2⟩
  case sub=>obtain⟨y,h1,h2⟩:=h;exact⟨_,rfl,by rw[h1];exact h2⟩
  case mul=>obtain⟨y,h1,h2⟩:=h;exact⟨_,rfl,by rw[h1];exact h2⟩
  case quo=>obtain⟨h0,y,h1,h2⟩:=h;exact⟨_,by simp only[LK,if_neg h0];rfl,by rw[h1];exact h2⟩
  case rem=>obtain⟨h0,h2⟩:=h;exact⟨_,by simp only[LK,if_neg h0],h2⟩
  case and=>obtain⟨z,rfl,h2⟩:=h;exact⟨_,rfl,h2⟩
  case or=>obtain⟨z,rfl,h2⟩:=h;exact⟨_,rfl,h2⟩
  case xor=>obtain⟨z,rfl,h2⟩:=h;exact⟨_,rfl,h2⟩
  case shl=>obtain⟨h0,y,h1,h2⟩:=h;exact⟨_,by simp only[LK,if_neg (Int.not_lt.2 h0)];rfl,by rw[h1];exact h2⟩
  case shr=>obtain⟨h0,z,rfl,h2⟩:=h;exact⟨_,by simp only[LK,if_neg (Int.not_lt.2 h0)],h2⟩
  case eql=>
   by_cases c:a=b
   ·exact⟨_,rfl,by have:=h.1 c;simpa only[c,beq_self_eq_true,bne_self_eq_false,Bool.not_true]using this⟩
   ·exact⟨_,rfl,by have:=h.2 c;simpa only[bne,beq_false_of_ne c,Bool.not_false]using this⟩
  case neq=>
   by_cases c:a=b
   ·exact⟨_,rfl,by have:=h.1 c;simpa only[c,beq_self_eq_true,bne_self_eq_false,Bool.not_true]using this⟩
   ·exact⟨_,rfl,by have:=h.2 c;simpa only[bne,beq_false_of_ne c,Bool.not_false]using this⟩
  case lss=>
   by_cases c:a<b
   ·exact⟨_,rfl,by simpa[c]using h.1 c⟩
   ·exact⟨_,rfl,by simpa[c]using h.2 c⟩
  case leq=>
   by_cases c:a≤b
   ·exact⟨_,rfl,by simpa[c]using h.1 c⟩
   ·exact⟨_,rfl,by simpa[c]using h.2 c⟩
  case gtr=>
   by_cases c:b<a
   ·exact⟨_,rfl,by simpa[c]using h.1 c⟩
   ·exact⟨_,rfl,by simpa[c]using h.2 c⟩
  case geq=>
   by_cases c:b≤a
   ·exact⟨_,rfl,by simpa[c]using h.1 c⟩
   ·exact⟨_,rfl,by simpa[c]using h.2 c⟩
 ·rename_i a b
  simp only[bin]
  unfold AeG at h
  cases op<;>simp only at h
  case add=>obtain⟨h0,h2⟩:=h;exact⟨_,by simp only[Ac3,if_pos h0],h2⟩
  case eql=>
   by_cases c:a=b
   ·exact⟨_,rfl,by have:=h.1 c;simpa only[c,beq_self_eq_true,bne_self_eq_false,Bool.not_true]using this⟩
   ·exact⟨_,rfl,by have:=h.2 c;simpa only[bne,beq_false_of_ne c,Bool.not_false]using this⟩
  case neq=>
   by_cases c:a=b
   ·exact⟨_,rfl,by have:=h.1 c;simpa only[c,beq_self_eq_true,bne_self_eq_false,Bool.not_true]using this⟩
   ·exact⟨_,rfl,by have:=h.2 c;simpa only[bne,beq_false_of_ne c,Bool.not_false]using this⟩
  case lss=>cases c:Op.bytesLess a b<;>rw[c]at h<;>exact⟨_,rfl,by rw[c];exact h⟩
  case leq=>cases c:(Op.bytesLess a b||a==b)<;>rw[c]at h<;>exact⟨_,rfl,by rw[c];exact h⟩
  case gtr=>cases c:(Op.bytesLess a b||a==b)<;>rw[c]at h<;>exact⟨_,rfl,by rw[c];exact h⟩
  case geq=>cases c:Op.bytesLess a b<;>rw[c]at h<;>exact⟨_,rfl,by rw[c];exact h⟩
 ·obtain⟨v,h1,h2⟩:=h
  exact⟨v,h1,(Xm v K).1 h2⟩
end AI
end Go.Proofs.YthnehejdkajjhaaGreatDoor
namespace Go.Proofs.YthnehejdkajjhaaGreatDoor
namespace AI
open Go.RowKit
variable {AP:Nat→Option Jc}
def done (v:AV) (s:Aq) (K:Bf→Aq→Prop):Prop:=settle v fun v=>K (.ok v) s
def AiT:Bd:=fun _ _ _=>none
def AbP (o:Dp) (env:Env) (s:Aq) (K:Bf→Aq→Prop):Prop:=
 Oh (AA AiT o env s) fun r=>match r with
    |(.ok v,s')=>done v s' K
    |(.Ei v,s')=>K (.Ei v) s'
def AeH (σ:List Obj) (n:Nat) (r:AV) (R:AV→Prop):Prop:=match r with
 | .own o g off len=>match n with
   |0=>False
   |n+1=>match nth σ o with
    |some (.arr g' _ nn cl elems)=>match cl with
     |true=>need (g=g'∧off+len≤elems.length) (eqK (sub elems off len) fun xs=>R (.sl nn xs))
     |false=>Oh (snap σ (n+1) (.own o g off len)) R
    |_=>False
 |r=>Oh (snap σ n r) R
theorem UG {σ:List Obj} {n:Nat} {r:AV} {R:AV→Prop} (h:AeH σ n r R):∃v,snap σ n r=some v∧R v:=by
 unfold AeH at h
 split at h
 ·rename_i o g off len
  split at h
  ·cases h
  ·split at h
   ·rename_i g' es nn cl elems ho
    split at h
    ·obtain⟨h1,xs,rfl,h2⟩:=h
     refine⟨_,?_,h2⟩
     simp only[snap,ho,if_pos h1,if_true]
    ·obtain⟨v,h1,h2⟩:=h;exact⟨v,h1,h2⟩
   ·cases h
 ·obtain⟨v,h1,h2⟩:=h;exact⟨v,h1,h2⟩
def Xn (σ:List Obj):Nat→List AV→(List AV→Prop)→Prop
 |_,[],K=>K []
 |0,_::_,_=>False
 |n+1,v::vs,K=>AeH σ n v fun a=>Xn σ n vs fun r=>K (a::r)
theorem JY {σ:List Obj}:∀{n:Nat} {vs:List AV} {K:List AV→Prop},Xn σ n vs K→∃r,EW σ n vs=some r∧K r
 |n,[],K,h=>⟨[],by cases n<;>rfl,by cases n<;>exact h⟩
 |0,_::_,_,h=>by cases h
 |n+1,v::vs,K,h=>by
  obtain⟨a,h1,h2⟩:=UG h
  obtain⟨r,h3,h4⟩:=JY h2
  exact⟨_,by simp only[EW,h1,h3],h4⟩
def AeI (σ:List Obj) (n:Nat) (r:AV) (R:AV→Prop):Prop:=match r with
 | .BG cs=>match n with
   |0=>False
   |n+1=>Xn σ n cs fun vs=>R (.BG vs)
 | .agg cs=>match n with
   |0=>False
   |n+1=>Xn σ n cs fun vs=>R (.agg vs)
 |r=>AeH σ n r R
theorem AbQ {σ:List Obj} {n:Nat} {r:AV} {R:AV→Prop} (h:AeI σ n r R):∃v,snap σ n r=some v∧R v:=by
 unfold AeI at h
 split at h
 ·split at h
  ·cases h
  ·obtain⟨vs,h1,h2⟩:=JY h
   exact⟨_,by simp only[snap,h1,Option.map_some],h2⟩
 ·split at h
  ·cases h
  ·obtain⟨vs,h1,h2⟩:=JY h
   exact⟨_,by simp only[snap,h1,Option.map_some],h2⟩
 ·exact UG h
def AiU (AP:Nat→Option Jc) (m:Mode) (f:Nat) (args:List AV) (s:Aq) (K:Bf→Aq→Prop):Prop:=
 match m with
 | .pure=>need (D9 args=true) (AbO AP f args fun v=>done v s K)
 | .borrow=>Xn s.σ F5 args fun args'=>AbO AP f args' fun v=>need (v.scalar=true) (done v s K)
 | .share=>Am AP f args s fun out s'=>match out with
   | .ok r=>Oh (compact s.σ.length r s') fun r=>done r.1 r.2 K
   | .Ei v=>need (v.closed=true) (K (.Ei v) ⟨s'.σ.take s.σ.length,s'.ctr⟩)
 | .own=>∃N r s',Bv (run AP N) .own f args s=some (.ok r,s')∧done r s' K
 | .keep=>Am AP f args s fun out s'=>match out with
   | .ok r=>done r s' K
   | .Ei v=>K (.Ei v) s'
structure La (g g' es es' len:Nat) (nn cl c:Bool) (elems ys:List AV) (bytes:Nat) (K:Nat→Bool→Bool→List AV→Prop):Prop where
 mk::(h:(g=g'∧es=es'∧len≤elems.length∧BN es ys∧roomy bytes (len+ys.length))∧K (len+ys.length) (nn||!ys.isEmpty) (cl&&c) (elems.take len++ys))
def ApA (a b:Bool) (K:Bool→Prop):Prop:=match b with
 |true=>K a
 |false=>K false
theorem AbR (a b:Bool) (K:Bool→Prop):ApA a b K↔K (a&&b):=by cases a<;>cases b<;>exact Iff.rfl
def AiV (b:Bool) (K:Bool→Prop):Prop:=match b with
 |true=>K true
 |false=>K false
theorem Eb (b:Bool) (K:Bool→Prop):AiV b K↔K b:=by cases b<;>exact Iff.rfl
def AeJ (env:Env):List (Nat×AO)→(List (Nat×AV)→Prop)→Prop
 |[],K=>K []
 |(j,x)::ps,K=>(x.val env).force fun v=>AeJ env ps fun r=>K ((j,v)::r)
theorem YV (env:Env):∀(ps:List (Nat×AO)) (K:List (Nat×AV)→Prop),AeJ env ps K↔K (TB env ps)
 |[],_=>Iff.rfl
 |(j,x)::ps,K=>by simp only[AeJ,force_eq,TB];exact YV env ps _
def Ie (z:AV):Nat→List (Nat×AV)→Nat→(List AV→Prop)→Prop
 |0,_,_,K=>K []
 |n+1,[],i,K=>Ie z n [] (i+1) fun r=>K (z::r)
 |n+1,(j,v)::ps,i,K=>bif Nat.beq i j then Ie z n ps (i+1) fun r=>K (v::r)else Ie z n ((j,v)::ps) (i+1) fun r=>K (z::r)
theorem Jh (z:AV):∀(n:Nat) (ps:List (Nat×AV)) (i:Nat) (K:List AV→Prop),Ie z n ps i K↔K (CS z n ps i)
 |0,_,_,_=>by simp only[Ie,CS]
 |n+1,[],i,K=>by simp only[Ie,CS];exact Jh z n [] (i+1) _
 |n+1,(j,v)::ps,i,K=>by
  simp only[Ie,CS]
  cases Nat.beq i j
  ·exact Jh z n _ (i+1) _
  ·exact Jh z n _ (i+1) _
def Ada (es:Nat) (v:AV) (s:Aq) (K:List AV→Bool→Prop):Prop:=match v with
 | .sl _ xs=>K xs true
 | .zc=>K [] true
 |v=>Oh (elemsOf s es v) fun r=>K r.1 r.2
theorem Aai {es:Nat} {v:AV} {s:Aq} {K:List AV→Bool→Prop} (h:Ada es v s K):∃ys c,elemsOf s es v=some (ys,c)∧K ys c:=by
 unfold Ada at h
 split at h
 ·exact⟨_,_,rfl,h⟩
 ·exact⟨_,_,rfl,h⟩
 ·obtain⟨⟨ys,c⟩,h1,h2⟩:=h
  exact⟨ys,c,h1,h2⟩
def AlN (off j:Nat) (K:Nat→Prop):Prop:=match off with
 |0=>K j
 |n+1=>K (n+1+j)
theorem AbS (off j:Nat) (K:Nat→Prop):AlN off j K↔K (off+j):=by
 cases off with
 |zero=>simp[AlN]
 |succ n=>exact Iff.rfl
structure AbT (t:PL) (k:AV) (ents:List (AV×AV)) (K:Option (Nat×AV)→Prop):Prop where
 mk::(h:∃r,findKey t k ents 0=some r∧K r)
def AiW (k v:AV) (ents:List (AV×AV)) (r:Option (Nat×AV)):List (AV×AV):=match r with
 |some (i,_)=>ents.set i (k,v)
 |none=>ents++[(k,v)]
structure AiX (t:PL) (k v:AV) (ents:List (AV×AV)) (K:List (AV×AV)→Prop):Prop where
 mk::(h:∃r,findKey t k ents 0=some r∧K (AiW k v ents r))
def Aaj (env:Env) (d:Nat) (x:Option AO) (K:Nat→Prop):Prop:=match x with
 |none=>K d
 |some x=>match x.val env with
  | .int _ n=>need (0≤n) (K n.toNat)
  |_=>False
def Vu (env:Env) (len:Nat) (lo hi:Option AO) (K:Nat→Nat→Prop):Prop:=
 Aaj env len hi fun h=>Aaj env 0 lo fun l=>need (l≤h∧h≤len) (K l h)
theorem SI {env:Env} {d:Nat} {x:Option AO} {K:Nat→Prop} (h:Aaj env d x K):∃n,(match x with|none=>some d|some x=>bound (x.val env))=some n∧K n:=by
 unfold Aaj at h
 split at h
 ·exact⟨d,rfl,h⟩
 ·rename_i x
  split at h
  ·rename_i k n hv
   exact⟨n.toNat,by simp only[hv,bound,if_pos h.1],h.2⟩
  ·cases h
theorem LM {env:Env} {len:Nat} {lo hi:Option AO} {K:Nat→Nat→Prop} (h:Vu env len lo hi K):∃l u,bounds env len lo hi=some (l,u)∧K l u:=by
 obtain⟨u,h1,h2⟩:=SI h
 obtain⟨l,h3,h4,h5⟩:=SI h2
 refine⟨l,u,?_,h5⟩
 unfold bounds
 cases hi<;>cases lo<;>simp_all
def MS (AP:Nat→Option Jc) (o:Dp) (env:Env) (s:Aq) (K:Bf→Aq→Prop):Prop:=
 match o with
 | .mov x=>done (x.val env) s K
 | .LD es=>Aah s (fun o g=>.own o g 0 0) (fun g=>.arr g es false true []) K
 | .Nw off e2 es cs=>match nth cs off with
   |some (.sl false [])=>need (0<e2) (Aah s (fun o g=>.own o g 0 0) (fun g=>.arr g e2 false true []) fun out s1=>match out with
        | .ok v=>Aah s1 (fun o g=>.ref o g 0 0) (fun g=>.arr g es true (AV.agg (cs.set off v)).closed [.agg (cs.set off v)]) K
        | .Ei _=>False)
   |_=>False
 | .pick c a b=>match c.val env with
   | .bool c=>Ob c (done (a.val env) s K) (done (b.val env) s K)
   |_=>False
 | .alloc es z=>Aah s (fun o g=>.ref o g 0 0) (fun g=>.arr g es true z.closed [z]) K
 | .box es x=>(x.val env).force fun v=>need ((v.storable&&v.cells.length==es)=true) (Aah s (fun o g=>.ref o g 0 0) (fun g=>.arr g es true v.closed [v]) K)
 | .build z parts=>Oh (FU z (NI env parts)) fun cs=>K (.ok (.agg cs)) s
 | .load sz a=>match a.val env with
   | .DR cs=>Oh (loadCells cs sz) fun v=>done v s K
   | .ref o g i off=>match nth s.σ o with
     |some (.arr g' _ _ _ elems)=>need (g=g') (AB elems i fun x=>Oh (loadCells (x.cells.drop off) sz) fun v=>done v s K)
     |_=>False
   |_=>False
 | .store sz a x=>match a.val env with
   | .ref o g i off=>match nth s.σ o with
     |some (.arr g' es nn cl elems)=>need (g=g') (AB elems i fun y=>(x.val env).force fun v=>need ((v.storable&&v.cells.length==sz&&off+sz≤es)=true)
       (ApA cl v.closed fun cl'=>eqK (elems.set i (BQ y off v)) fun es'=>WL s.σ o (.arr g' es nn cl' es') fun σ=>K (.ok .undef) ⟨σ,s.ctr⟩))
     |_=>False
   |_=>False
 | .TQ x=>match x.val env with
   | .ref o g i off=>K (.ok (.ref o g i off)) s
   | .DR cs=>K (.ok (.DR cs)) s
   | .fn f cs=>K (.ok (.fn f cs)) s
   |_=>False
 | .bin op t x y=>Apz op t (x.val env) (y.val env) fun v=>K (.ok v) s
 | .un op x=>match op,x.val env with
   | .not,.bool b=>Ob b (K (.ok (.bool false)) s) (K (.ok (.bool true)) s)
   | .neg,.int k n=>Kv k (0-n) fun v=>K (.ok v) s
   |_,_=>False
 | .conv k x=>match x.val env with
   | .int _ n=>Kv k n fun v=>K (.ok v) s
   |_=>False
 | .field off sz x=>match x.val env with
   | .agg cs=>Oh (loadCells (cs.drop off) sz) fun v=>done v s K
   |_=>False
 | .WI off x=>match x.val env with
   | .DR cs=>K (.ok (.DR (cs.drop off))) s
   | .ref o g i off'=>K (.ok (.ref o g i (off'+off))) s
   |_=>False
 | .WJ es x i=>match x.val env,i.val env with
   | .sl _ xs,.int _ i=>need (0≤i) (AB xs i.toNat fun v=>need (v.cells.length=es) (K (.ok (.DR v.cells)) s))
   | .own o g off len,.int _ i=>match nth s.σ o with
     |some (.arr g' es' _ _ _)=>need (g=g'∧es=es'∧0≤i∧i<len) (AlN off i.toNat fun j=>K (.ok (.ref o g j 0)) s)
     |_=>False
   |_,_=>False
 | .len k x=>match k,x.val env with
   | .slice,.sl _ xs=>eqK xs.length fun n=>K (.ok (.int .i64 n)) s
   | .slice,.own _ _ _ n=>K (.ok (.int .i64 n)) s
   | .str,.str bs=>K (.ok (.int .i64 bs.length)) s
   | .map,.map o g=>match nth s.σ o with
     |some (.mp g' _ ents)=>need (g=g') (K (.ok (.int .i64 ents.length)) s)
     |_=>False
   | .map,.fmap ents=>K (.ok (.int .i64 ents.length)) s
   |_,_=>AbP (.len k x) env s K
 | .Q9=>Aah s (fun o g=>.map o g) (fun g=>.mp g true []) K
 | .lookup t z Vb m k=>match m.val env with
   | .map o g=>match nth s.σ o with
     |some (.mp g' _ ents)=>need (g=g'∧Lm t (k.val env)=true) (AbT t (k.val env) ents fun r=>match r with
      |some (_,v)=>bif Vb then K (.ok (.BG [v,.bool true])) s else done v s K
      |none=>bif Vb then K (.ok (.BG [z,.bool false])) s else done z s K)
     |_=>False
   | .fmap ents=>need (Lm t (k.val env)=true) (AbT t (k.val env) ents fun r=>match r with
        |some (_,v)=>bif Vb then K (.ok (.BG [v,.bool true])) s else done v s K
        |none=>bif Vb then K (.ok (.BG [z,.bool false])) s else done z s K)
   |_=>AbP (.lookup t z Vb m k) env s K
 | .mapset t m k v=>match m.val env with
   | .map o g=>match nth s.σ o with
     |some (.mp g' cl ents)=>(v.val env).force fun vv=>need (g=g'∧Lm t (k.val env)=true∧vv.storable=true)
       (ApA cl vv.closed fun cl'=>AiX t (k.val env) vv ents fun AeK=>WL s.σ o (.mp g' cl' AeK) fun σ=>K (.ok .undef) ⟨σ,s.ctr⟩)
     |_=>False
   |_=>False
 | .delete t m k=>match m.val env with
   | .map o g=>match nth s.σ o with
     |some (.mp g' cl ents)=>need (g=g'∧Lm t (k.val env)=true) (AbT t (k.val env) ents fun r=>match r with
      |some (i,_)=>WL s.σ o (.mp g' cl (ents.eraseIdx i)) fun σ=>K (.ok .undef) ⟨σ,s.ctr⟩
      |none=>K (.ok .undef) s)
     |_=>False
   |_=>False
 | .lit own es z len parts=>AeJ env parts fun ps=>need (WZ es len ps 0=true) (Ie z len ps 0 fun xs=>
    bif own then AiV (JQ ps) fun c=>Aah s (fun o g=>.own o g 0 len) (fun g=>.arr g es true c xs) K
    else bif Nat.beq len 0 then K (.ok .zc) s else need (JQ ps=true) (K (.ok (.sl true xs)) s))
 | .AcB x i=>match x.val env,i.val env with
   | .str bs,.int _ i=>need (0≤i) (AB bs i.toNat fun b=>K (.ok (.int .u8 b.toNat)) s)
   |_,_=>False
 | .slice es x lo hi=>match x.val env with
   | .sl nn xs=>Vu env xs.length lo hi fun l h=>need (BN es xs) (eqK (sub xs l (h-l)) fun ys=>K (.ok (.sl nn ys)) s)
   | .own o g off len=>match nth s.σ o with
     |some (.arr g' es' _ _ _)=>need (g=g'∧es=es') (Vu env len lo hi fun l h=>AlN off l fun j=>K (.ok (.own o g j (h-l))) s)
     |_=>False
   |_=>AbP (.slice es x lo hi) env s K
 | .OH x lo hi=>match x.val env with
   | .str bs=>Vu env bs.length lo hi fun l h=>eqK ((bs.drop l).take (h-l)) fun r=>K (.ok (.str r)) s
   |_=>False
 | .append es bytes a x=>Ada es (x.val env) s fun ys c=>match a.val env with
   | .own o g 0 len=>match nth s.σ o with
     |some (.arr g' es' nn cl' elems)=>La g g' es es' len nn cl' c elems ys bytes fun n nn cl es'=>WL s.σ o (.arr s.ctr es nn cl es') fun σ=>K (.ok (.own o s.ctr 0 n)) ⟨σ,s.ctr+1⟩
     |_=>False
   |v=>Oh (EZ es bytes s v ys c) fun r=>done r.1 r.2 K
 | .JR es bytes z len cap=>match len.val env,cap.val env with
   | .int _ l,.int _ c=>need (0≤l∧l≤c∧roomy bytes c.toNat) (eqK (List.replicate l.toNat z) fun xs=>Aah s (fun o g=>.own o g 0 l.toNat) (fun g=>.arr g es true z.closed xs) K)
   |_,_=>False
 | .ext x i=>match x.val env with
   | .BG cs=>Oh (nth cs i) fun v=>done v s K
   |_=>False
 | .call m f args=>AiU AP m f (vals env args) s K
 | .Jo m x args=>match x.val env with
   | .fn f caps=>AiU AP m f (vals env args++caps) s K
   |_=>False
 |o=>AbP o env s K
theorem AfP (C:Bd):G9 AiT C:=fun _ _ _ _ h=>by cases h
theorem DI (v:AV) (s:Aq) (K:Bf→Aq→Prop):done v s K↔K (.ok v) s:=Xm v _
theorem Lp {o:Dp} {env:Env} {s:Aq} {K:Bf→Aq→Prop} (h:AbP o env s K):Op1 AP o env s K:=by
 obtain⟨⟨out,s'⟩,h1,h2⟩:=h
 refine⟨0,out,s',Dj (AfP _) h1,?_⟩
 cases out with
 |ok v=>exact(DI v s' K).1 h2
 |Ei v=>exact h2
theorem UH {m:Mode} {f:Nat} {args:List AV} {s:Aq} {K:Bf→Aq→Prop} (h:AiU AP m f args s K):∃N out s',Bv (run AP N) m f args s=some (out,s')∧K out s':=by
 cases m with
 |pure=>
  obtain⟨hc,v,⟨N,hp⟩,hk⟩:=h
  exact⟨N,.ok v,s,by simp only[Bv,if_pos hc,hp,Option.map_some],(DI v s K).1 hk⟩
 |borrow=>
  obtain⟨args',ha,v,⟨N,hp⟩,hs,hk⟩:=JY h
  exact⟨N,.ok v,s,by simp only[Bv,ha,hp,if_pos hs],(DI v s K).1 hk⟩
 |share=>
  obtain⟨N,out,s',hr,hk⟩:=h
  cases out with
  |ok r=>
   obtain⟨⟨r',s''⟩,h1,h2⟩:=hk
   exact⟨N,.ok r',s'',by simp only[Bv,hr,h1,Option.map_some],(DI r' s'' K).1 h2⟩
  |Ei v=>
   obtain⟨h1,h2⟩:=hk
   exact⟨N,.Ei v,_,by simp only[Bv,hr,if_pos h1],h2⟩
 |own=>
  obtain⟨N,r,s',h1,h2⟩:=h
  exact⟨N,.ok r,s',h1,(DI r s' K).1 h2⟩
 |keep=>
  obtain⟨N,out,s',hr,hk⟩:=h
  cases out with
  |ok r=>exact⟨N,.ok r,s',hr,(DI r s' K).1 hk⟩
  |Ei v=>exact⟨N,.Ei v,s',hr,hk⟩
theorem Jv {s:Aq} {mk:Nat→Nat→AV} {ob:Nat→Obj} {K:Bf→Aq→Prop}:Aah s mk ob K↔K (.ok (mk s.σ.length s.ctr)) (push s (ob s.ctr)):=TR _ _ _
theorem Jb {o:Dp} {env:Env} {s:Aq} {K:Bf→Aq→Prop} (h:MS AP o env s K):Op1 AP o env s K:=by
 cases o
 case mov x=>exact⟨0,_,_,rfl,(DI _ _ _).1 h⟩
 case LD es=>simp only[MS]at h;exact⟨0,_,_,rfl,Jv.1 h⟩
 case Nw off e2 es cs=>
  simp only[MS]at h
  split at h
  case h_2=>cases h
  rename_i hoff
  obtain⟨he,h⟩:=h
  have h:=Jv.1 h
  have h:=Jv.1 h
  refine⟨0,_,_,?_,h⟩
  simp only[AA,hoff,if_pos he]
  simp[push]
 case pick c a b=>
  simp only[MS]at h
  split at h
  ·rename_i c' hc
   cases c'
   ·exact⟨0,_,_,by simp only[AA,hc],(DI _ _ _).1 h⟩
   ·exact⟨0,_,_,by simp only[AA,hc],(DI _ _ _).1 h⟩
  ·cases h
 case alloc es z=>simp only[MS]at h;exact⟨0,_,_,rfl,Jv.1 h⟩
 case box es x=>
  simp only[MS,force_eq]at h
  obtain⟨h1,h2⟩:=h
  exact⟨0,_,_,by simp only[AA,if_pos h1],Jv.1 h2⟩
 case build z ps=>
  obtain⟨cs,h1,h2⟩:=h
  exact⟨0,_,_,by simp only[AA,h1,Option.map_some],h2⟩
 case load sz a=>
  simp only[MS]at h
  split at h
  ·rename_i cs hv
   obtain⟨v,h1,h2⟩:=h
   exact⟨0,_,_,by simp only[AA,hv,ok,h1,Option.map_some],(DI _ _ _).1 h2⟩
  ·rename_i o g i off hv
   split at h
   ·rename_i g' es nn cl elems ho
    obtain⟨hg,x,hx,v,h1,h2⟩:=h
    exact⟨0,_,_,by simp only[AA,hv,ho,if_pos hg,hx,ok,h1,Option.map_some],(DI _ _ _).1 h2⟩
   ·cases h
  ·cases h
 case store sz a x=>
  simp only[MS]at h
  split at h
  ·rename_i o g i off hv
   split at h
   ·rename_i g' es nn cl elems ho
    obtain⟨hg,y,hy,h⟩:=h
    rw[force_eq]at h
    obtain⟨h1,h2⟩:=h
    rw[AbR]at h2
    obtain⟨es',rfl,h2⟩:=h2
    rw[Hf]at h2
    exact⟨0,_,_,by simp only[AA,hv,ho,if_pos hg,hy,h1,if_true],h2⟩
   ·cases h
  ·cases h
 case TQ x=>
  simp only[MS]at h
  split at h
  ·rename_i hv;exact⟨0,_,_,by simp only[AA,hv],h⟩
  ·rename_i hv;exact⟨0,_,_,by simp only[AA,hv],h⟩
  ·rename_i hv;exact⟨0,_,_,by simp only[AA,hv],h⟩
  ·cases h
 case bin op t x y=>
  obtain⟨v,h1,h2⟩:=Ac9 h
  exact⟨0,_,_,by simp only[AA,ok,h1,Option.map_some],h2⟩
 case un op x=>
  simp only[MS]at h
  split at h
  ·rename_i b hv
   cases b
   ·exact⟨0,_,_,by simp only[AA,hv,Bool.not_false],h⟩
   ·exact⟨0,_,_,by simp only[AA,hv,Bool.not_true],h⟩
  ·rename_i k n hv
   obtain⟨y,h1,h2⟩:=h
   exact⟨0,_,_,by simp only[AA,hv,h1],h2⟩
  ·cases h
 case conv k x=>
  simp only[MS]at h
  split at h
  ·rename_i k' n hv
   obtain⟨y,h1,h2⟩:=h
   exact⟨0,_,_,by simp only[AA,hv,h1],h2⟩
  ·cases h
 case field off sz x=>
  simp only[MS]at h
  split at h
  ·rename_i cs hv
   obtain⟨v,h1,h2⟩:=h
   exact⟨0,_,_,by simp only[AA,hv,ok,h1,Option.map_some],(DI _ _ _).1 h2⟩
  ·cases h
 case WI off x=>
  simp only[MS]at h
  split at h
  ·rename_i hv;exact⟨0,_,_,by simp only[AA,hv],h⟩
  ·rename_i hv;exact⟨0,_,_,by simp only[AA,hv],h⟩
  ·cases h
 case WJ es x i=>
  simp only[MS]at h
  split at h
  ·rename_i nn xs k n hx hi
   obtain⟨h0,v,h1,h2,h3⟩:=h
   exact⟨0,_,_,by simp only[AA,hx,hi,if_pos h0,h1,if_pos h2],h3⟩
  ·rename_i o g off len k n hx hi
   split at h
   ·rename_i g' es' nn cl elems ho
    obtain⟨h1,h2⟩:=h
    rw[AbS]at h2
    exact⟨0,_,_,by simp only[AA,hx,hi,ho,if_pos h1],h2⟩
   ·cases h
  ·cases h
 case len k x=>
  simp only[MS]at h
  split at h
  ·rename_i hv
   obtain⟨n,rfl,h⟩:=h
   exact⟨0,_,_,by simp only[AA,hv],h⟩
  ·rename_i hv;exact⟨0,_,_,by simp only[AA,hv],h⟩
  ·rename_i hv;exact⟨0,_,_,by simp only[AA,hv],h⟩
  ·rename_i o g hv
   split at h
   ·rename_i g' cl ents ho
    obtain⟨h1,h2⟩:=h
    exact⟨0,_,_,by simp only[AA,hv,ho,if_pos h1],h2⟩
   ·cases h
  ·rename_i hv;exact⟨0,_,_,by simp only[AA,hv],h⟩
  ·exact Lp h
 case AcB x i=>
  simp only[MS]at h
  split at h
  ·rename_i bs k n hx hi
   obtain⟨h1,b,h2,h3⟩:=h
   exact⟨0,_,_,by simp only[AA,hx,hi,if_pos h1,h2],h3⟩
  ·cases h
 case slice es x lo hi=>
  simp only[MS]at h
  split at h
  ·rename_i nn xs hx
   obtain⟨l,u,h1,h2,ys,rfl,h3⟩:=LM h
   exact⟨0,_,_,by simp only[AA,hx,h1,if_pos h2],h3⟩
  ·rename_i o g off len hx
   split at h
   ·rename_i g' es' nn cl elems ho
    obtain⟨hg,h⟩:=h
    obtain⟨l,u,h1,h2⟩:=LM h
    rw[AbS]at h2
    exact⟨0,_,_,by simp only[AA,hx,ho,if_pos hg,h1],h2⟩
   ·cases h
  ·exact Lp h
 case OH x lo hi=>
  simp only[MS]at h
  split at h
  ·rename_i bs hx
   obtain⟨l,u,h1,r,rfl,h2⟩:=LM h
   exact⟨0,_,_,by simp only[AA,hx,h1],h2⟩
  ·cases h
 case Q9=>simp only[MS]at h;exact⟨0,_,_,rfl,Jv.1 h⟩
 case lookup t z Vb m k=>
  simp only[MS]at h
  split at h
  ·rename_i o g hv
   split at h
   ·rename_i g' cl ents ho
    obtain⟨h1,r,h2,h3⟩:=h
    cases r with
    |none=>
     cases Vb
     ·exact⟨0,_,_,by simp only[AA,hv,ho,if_pos h1,h2];rfl,(DI _ _ _).1 h3⟩
     ·exact⟨0,_,_,by simp only[AA,hv,ho,if_pos h1,h2];rfl,h3⟩
    |some p=>
     cases Vb
     ·exact⟨0,_,_,by simp only[AA,hv,ho,if_pos h1,h2];rfl,(DI _ _ _).1 h3⟩
     ·exact⟨0,_,_,by simp only[AA,hv,ho,if_pos h1,h2];rfl,h3⟩
   ·cases h
  ·rename_i ents hv
   obtain⟨h1,r,h2,h3⟩:=h
   cases r with
   |none=>
    cases Vb
    ·exact⟨0,_,_,by simp only[AA,hv,if_pos h1,h2];rfl,(DI _ _ _).1 h3⟩
    ·exact⟨0,_,_,by simp only[AA,hv,if_pos h1,h2];rfl,h3⟩
   |some p=>
    cases Vb
    ·exact⟨0,_,_,by simp only[AA,hv,if_pos h1,h2];rfl,(DI _ _ _).1 h3⟩
    ·exact⟨0,_,_,by simp only[AA,hv,if_pos h1,h2];rfl,h3⟩
  ·exact Lp h
 case mapset t m k v=>
  simp only[MS]at h
  split at h
  ·rename_i o g hv
   split at h
   ·rename_i g' cl ents ho
    rw[force_eq]at h
    obtain⟨h1,h2⟩:=h
    rw[AbR]at h2
    obtain⟨r,h2,h3⟩:=h2
    rw[Hf]at h3
    cases r with
    |none=>exact⟨0,_,_,by simp only[AA,hv,ho,if_pos h1,h2];rfl,h3⟩
    |some p=>exact⟨0,_,_,by simp only[AA,hv,ho,if_pos h1,h2];rfl,h3⟩
   ·cases h
  ·cases h
 case delete t m k=>
  simp only[MS]at h
  split at h
  ·rename_i o g hv
   split at h
   ·rename_i g' cl ents ho
    obtain⟨h1,r,h2,h3⟩:=h
    cases r with
    |none=>exact⟨0,_,_,by simp only[AA,hv,ho,if_pos h1,h2],h3⟩
    |some p=>
     simp only at h3
     rw[Hf]at h3
     exact⟨0,_,_,by simp only[AA,hv,ho,if_pos h1,h2],h3⟩
   ·cases h
  ·cases h
 case lit own es z len parts=>
  simp only[MS,YV]at h
  obtain⟨h1,h2⟩:=h
  rw[Jh]at h2
  cases own
  ·rw[cond_false]at h2
   cases hb:Nat.beq len 0
   ·rw[hb,cond_false]at h2
    have hne:len≠0:=fun e=>by subst e;simp at hb
    exact⟨0,_,_,by simp only[AA,if_pos h1,if_neg hne,if_pos h2.1];rfl,h2.2⟩
   ·rw[hb,cond_true]at h2
    have he:len=0:=Nat.eq_of_beq_eq_true hb
    exact⟨0,_,_,by simp only[AA,if_pos h1,if_pos he];rfl,h2⟩
  ·rw[cond_true,Eb]at h2
   exact⟨0,_,_,by simp only[AA,if_pos h1,if_true],Jv.1 h2⟩
 case append es bytes a x=>
  simp only[MS]at h
  obtain⟨ys,cl,h1,h⟩:=Aai h
  split at h
  ·rename_i o g len hv
   split at h
   ·rename_i g' es' nn cl' elems ho
    obtain⟨h2,h3⟩:=h
    rw[Hf]at h3
    exact⟨0,_,_,by simp only[AA,h1,hv,EZ,ho,if_pos h2,Option.map_some],h3⟩
   ·cases h
  ·obtain⟨⟨v,s'⟩,h2,h3⟩:=h
   exact⟨0,_,_,by simp only[AA,h1,h2,Option.map_some],(DI _ _ _).1 h3⟩
 case JR es bytes z len cap=>
  simp only[MS]at h
  split at h
  ·rename_i k l k' c hl hc
   obtain⟨h1,xs,rfl,h2⟩:=h
   exact⟨0,_,_,by simp only[AA,hl,hc,if_pos h1],Jv.1 h2⟩
  ·cases h
 case ext x i=>
  simp only[MS]at h
  split at h
  ·rename_i cs hv
   obtain⟨v,h1,h2⟩:=h
   exact⟨0,_,_,by simp only[AA,hv,ok,h1,Option.map_some],(DI _ _ _).1 h2⟩
  ·cases h
 case call m f args=>exact UH h
 case Jo m x args=>
  simp only[MS]at h
  split at h
  ·rename_i f caps hv
   obtain⟨N,out,s',h1,h2⟩:=UH h
   exact⟨N,out,s',by simp only[AA,hv];exact h1,h2⟩
  ·cases h
 all_goals exact Lp h
end AI
end Go.Proofs.YthnehejdkajjhaaGreatDoor
namespace Go.Proofs.YthnehejdkajjhaaGreatDoor
namespace AI
open Go.RowKit
variable {AP:Nat→Option Jc}
def Hr (g:Option (Nat×Bool)) (env:Env) (t e:Prop):Prop:=match g with
 |none=>t
 |some (r,b)=>match env.get r with
  | .bool b'=>Ob (b'==b) t e
  | .undef=>e
  |_=>False
def AiY (k:Env→Aq→Prop) (d:Option Nat) (env:Env) (Q:Aw→Env→Aq→Prop) (out:Bf) (s:Aq):Prop:=match out with
 | .ok v=>k (put d v env) s
 | .Ei v=>Q (.Ei v) env s
def AbU (AP:Nat→Option Jc) (ops:List Bj):Env→Aq→(Aw→Env→Aq→Prop)→Prop:=
 List.rec (motive:=fun _=>Env→Aq→(Aw→Env→Aq→Prop)→Prop) (fun env s Q=>Q .normal env s)
    (fun o _ ih env s Q=>Hr o.guard env (MS AP o.op env s (AiY (fun env s=>ih env s Q) o.dst env Q)) (ih (put o.dst .undef env) s Q)) ops
theorem AfQ (o:Bj) (os:List Bj) (env:Env) (s:Aq) (Q:Aw→Env→Aq→Prop):AbU AP (o::os) env s Q=Hr o.guard env
 (MS AP o.op env s (AiY (fun env s=>AbU AP os env s Q) o.dst env Q))
 (AbU AP os (put o.dst .undef env) s Q):=rfl
theorem NU:∀{os:List Bj} {env:Env} {s:Aq} {Q:Aw→Env→Aq→Prop},AbU AP os env s Q→Ops AP os env s Q
 |[],env,s,Q,h=>⟨0,_,_,_,rfl,h⟩
 |o::os,env,s,Q,h=>by
  have MI:wanted o.guard env=some false→AbU AP os (put o.dst .undef env) s Q→Ops AP (o::os) env s Q:=by
   intro hw h
   obtain⟨N,e,env',s',h1,h2⟩:=NU h
   exact⟨N,e,env',s',by simp only[FW,hw];exact h1,h2⟩
  have hdo:wanted o.guard env=some true→MS AP o.op env s (AiY (fun env s=>AbU AP os env s Q) o.dst env Q)→Ops AP (o::os) env s Q:=by
   intro hw h
   obtain⟨N,out,s1,h1,h2⟩:=Jb h
   cases out with
   |ok v=>
    obtain⟨N',e,env',s',h3,h4⟩:=NU h2
    refine⟨max N N',e,env',s',?_,h4⟩
    simp only[FW,hw,Dj (BP (Nat.le_max_left N N')) h1]
    exact Gn (BP (Nat.le_max_right N N')) h3
   |Ei v=>exact⟨N,_,_,_,by simp only[FW,hw,h1],h2⟩
  rw[AfQ]at h
  unfold Hr at h
  split at h
  ·rename_i hg
   exact hdo (by rw[hg];rfl) h
  ·rename_i r b hg
   split at h
   ·rename_i b' hb
    cases hbb:(b'==b)
    ·rw[hbb]at h
     exact MI (by rw[hg];simp only[wanted,hb,hbb]) h
    ·rw[hbb]at h
     exact hdo (by rw[hg];simp only[wanted,hb,hbb]) h
   ·rename_i hb
    exact MI (by rw[hg];simp only[wanted,hb]) h
   ·cases h
def NV:List Nat→Env→(Env→Prop)→Prop
 |[],_,K=>K []
 |t::ts,env,K=>(env.get t).force fun v=>NV ts env fun e=>K ((t,v)::e)
theorem FK:∀(ts:List Nat) (env:Env) (K:Env→Prop),NV ts env K↔K (commit env ts)
 |[],_,_=>Iff.rfl
 |t::ts,env,K=>by
  simp only[NV,force_eq,commit]
  exact FK ts env _
def X5:List Nat→Env→Aq→(Env→Aq→Prop)→Prop
 |[],env,s,K=>K env s
 |t::ts,env,s,K=>match env.get t with
  | .own o g off len=>match nth s.σ o with
    |some (.arr g' _ nn cl elems)=>need (g=g'∧cl=true∧off+len≤elems.length) (eqK (sub elems off len) fun xs=>WL s.σ o .dead fun σ=>X5 ts ((t,.sl nn xs)::env) ⟨σ,s.ctr⟩ K)
    |_=>False
  | .ref o g i off=>match nth s.σ o with
    |some (.arr g' _ nn cl elems)=>need (g=g'∧cl=true) (AB elems i fun x=>WL s.σ o .dead fun σ=>X5 ts ((t,.DR (x.cells.drop off))::env) ⟨σ,s.ctr⟩ K)
    |_=>False
  | .map o g=>match nth s.σ o with
    |some (.mp g' cl ents)=>need (g=g'∧cl=true∧AaR ents=true) (WL s.σ o .dead fun σ=>X5 ts ((t,.fmap ents)::env) ⟨σ,s.ctr⟩ K)
    |_=>False
  | .sl nn xs=>X5 ts ((t,.sl nn xs)::env) s K
  | .zc=>X5 ts ((t,.zc)::env) s K
  |_=>False
theorem Gy:∀{ts:List Nat} {env:Env} {s:Aq} {K:Env→Aq→Prop},X5 ts env s K→∃env' s',Jq ts env s=some (env',s')∧K env' s'
 |[],env,s,K,h=>⟨env,s,rfl,h⟩
 |t::ts,env,s,K,h=>by
  simp only[X5]at h
  split at h
  ·rename_i o g off len hv
   split at h
   ·rename_i g' es nn cl elems ho
    obtain⟨⟨rfl,rfl,hf⟩,xs,rfl,h⟩:=h
    rw[Hf]at h
    obtain⟨env',s',h1,h2⟩:=Gy h
    exact⟨env',s',by simp only[Jq,hv,ho,true_and,if_pos hf];exact h1,h2⟩
   ·cases h
  ·rename_i o g i off hv
   split at h
   ·rename_i g' es nn cl elems ho
    obtain⟨⟨rfl,rfl⟩,⟨x,hx,h⟩⟩:=h
    rw[Hf]at h
    obtain⟨env',s',h1,h2⟩:=Gy h
    exact⟨env',s',by simp only[Jq,hv,ho,if_pos,hx];exact h1,h2⟩
   ·cases h
  ·rename_i o g hv
   split at h
   ·rename_i g' cl ents ho
    obtain⟨⟨rfl,rfl,hk⟩,h⟩:=h
    rw[Hf]at h
    obtain⟨env',s',h1,h2⟩:=Gy h
    exact⟨env',s',by simp only[Jq,hv,ho,true_and,if_pos hk];exact h1,h2⟩
   ·cases h
  ·rename_i nn xs hv
   obtain⟨env',s',h1,h2⟩:=Gy h
   exact⟨env',s',by simp only[Jq,hv];exact h1,h2⟩
  ·rename_i hv
   obtain⟨env',s',h1,h2⟩:=Gy h
   exact⟨env',s',by simp only[Jq,hv];exact h1,h2⟩
  ·cases h
def YW {α:Type}:Nat→List α→(List α→Prop)→Prop
 |0,_,K=>K []
 |_+1,[],K=>K []
 |n+1,x::xs,K=>YW n xs fun ys=>K (x::ys)
theorem Ui {α:Type}:∀(n:Nat) (l:List α) (K:List α→Prop),YW n l K↔K (l.take n)
 |0,_,_=>by simp[YW]
 |_+1,[],_=>by simp[YW]
 |n+1,x::xs,K=>Ui n xs fun ys=>K (x::ys)
def AiZ (tr:Option Nat) (s:Aq) (K:Aq→Prop):Prop:=match tr with
 |none=>K s
 |some k=>YW (kept k s.σ.length) s.σ fun σ=>K ⟨σ,s.ctr⟩
theorem QM (tr:Option Nat) (s:Aq) (K:Aq→Prop):AiZ tr s K↔K (truncate tr s):=by
 cases tr with
 |none=>exact Iff.rfl
 |some k=>exact Ui _ s.σ _
def Ai0 (live:List Nat) (tr:Option Nat) (Q:Aw→Env→Aq→Prop) (e:Aw) (env:Env) (s:Aq):Prop:=match e with
 | .normal=>NV live env fun env=>AiZ tr s fun s=>Q .normal env s
 |e=>Q e env s
def GX (k:Env→Aq→Prop) (Q:Aw→Env→Aq→Prop) (e:Aw) (env:Env) (s:Aq):Prop:=match e with
 | .normal=>k env s
 |e=>Q e env s
def XU (id:Nat) (Q:Aw→Env→Aq→Prop) (e:Aw) (env:Env) (s:Aq):Prop:=match e with
 | .exit j=>Ob (Nat.beq j id) (Q .normal env s) (Q (.exit j) env s)
 |e=>Q e env s
def Aak (AP:Nat→Option Jc) (o:Dp) (r g:Nat) (env:Env) (s:Aq) (K:AV→Option (Nat×Obj)→Nat→Prop):Prop:=
 MS AP o env s fun out s'=>match out with
    | .Ei _=>False
    | .ok v=>match o.cls with
      |some .e=>K v none 0
      |some .r=>K v none 0
      |some .w=>match o.writes r env with
       |[t]=>match nth s'.σ t with
        |some ob=>K v (some (t,ob)) 0
        |none=>False
       |_=>False
      |some .a=>match nth s'.σ v.idx with
       |some ob=>bif Nat.blt v.idx s.σ.length then K (v.moved v.idx g) (some (v.idx,ob.Uo g)) 1
        else match nth s.σ r with
           |some .dead=>K (v.moved r g) (some (r,ob.Uo g)) 1
           |_=>False
       |none=>False
      |none=>False
theorem Aal {o:Dp} {r g:Nat} {env:Env} {s:Aq} {K:AV→Option (Nat×Obj)→Nat→Prop} (h:Aak AP o r g env s K):∃N v u b,Kq (run AP N) o r g env s=some (v,u,b)∧K v u b:=by
 obtain⟨N,out,s',h1,h2⟩:=Jb h
 cases out with
 |Ei v=>cases h2
 |ok v=>
  simp only at h2
  split at h2
  ·rename_i hc;exact⟨N,_,_,_,by simp only[Kq,hc,h1],h2⟩
  ·rename_i hc;exact⟨N,_,_,_,by simp only[Kq,hc,h1],h2⟩
  ·rename_i hc
   split at h2
   ·rename_i t ht
    split at h2
    ·rename_i ob hob;exact⟨N,_,_,_,by simp only[Kq,hc,h1,ht,hob],h2⟩
    ·cases h2
   ·cases h2
  ·rename_i hc
   split at h2
   ·rename_i ob hob
    cases hb:Nat.blt v.idx s.σ.length
    ·rw[hb,cond_false]at h2
     have hlt:¬v.idx<s.σ.length:=fun hlt=>by
      have:=(show (Nat.blt v.idx s.σ.length=true) from Nat.blt_eq▸hlt)
      rw[hb]at this;cases this
     split at h2
     ·rename_i hd
      exact⟨N,_,_,_,by simp only[Kq,hc,h1,hob,if_neg hlt,hd],h2⟩
     ·cases h2
    ·rw[hb,cond_true]at h2
     exact⟨N,_,_,_,by simp only[Kq,hc,h1,hob,if_pos (show v.idx<s.σ.length from Nat.blt_eq▸hb)],h2⟩
   ·cases h2
  ·cases h2
def PX (u:Option (Nat×Obj)) (b:Nat) (s:Aq) (K:Aq→Prop):Prop:=match u with
 |some (t,ob)=>WL s.σ t ob fun σ=>K ⟨σ,s.ctr+b⟩
 |none=>K ⟨s.σ,s.ctr+b⟩
theorem UJ (u:Option (Nat×Obj)) (b:Nat) (s:Aq) (K:Aq→Prop):PX u b s K↔K (Gj u b s):=by
 unfold PX Gj
 split
 ·exact Hf _ _ _ _
 ·exact Iff.rfl
def Adb (AP:Nat→Option Jc) (ops:List Bj):Nat→Nat→Env→Aq→(List Eff→Prop)→Prop:=
 List.rec (motive:=fun _=>Nat→Nat→Env→Aq→(List Eff→Prop)→Prop) (fun _ _ _ _ K=>K [])
    (fun o _ ih r g env s K=>Hr o.guard env
      (Aak AP o.op r g env s fun v u b=>PX u b s fun s'=>ih (r+rank o.op) (g+1) (put o.dst v env) s' fun es=>K (⟨o.dst,v,o.op.reads r env,o.op.writes r env,u,b⟩::es))
      (ih (r+rank o.op) (g+1) (put o.dst .undef env) s fun es=>K (⟨o.dst,.undef,[],[],none,0⟩::es))) ops
theorem AfR (o:Bj) (os:List Bj) (r g:Nat) (env:Env) (s:Aq) (K:List Eff→Prop):Adb AP (o::os) r g env s K=Hr o.guard env
 (Aak AP o.op r g env s fun v u b=>PX u b s fun s'=>Adb AP os (r+rank o.op) (g+1) (put o.dst v env) s' fun es=>K (⟨o.dst,v,o.op.reads r env,o.op.writes r env,u,b⟩::es))
 (Adb AP os (r+rank o.op) (g+1) (put o.dst .undef env) s fun es=>K (⟨o.dst,.undef,[],[],none,0⟩::es)):=rfl
theorem QN:∀{os:List Bj} {r g:Nat} {env:Env} {s:Aq} {K:List Eff→Prop},Adb AP os r g env s K→∃N es,JF (run AP N) os r g env s=some es∧K es
 |[],r,g,env,s,K,h=>⟨0,_,rfl,h⟩
 |o::os,r,g,env,s,K,h=>by
  have MI:wanted o.guard env=some false→(Adb AP os (r+rank o.op) (g+1) (put o.dst .undef env) s fun es=>K (⟨o.dst,.undef,[],[],none,0⟩::es))→∃N es,JF (run AP N) (o::os) r g env s=some es∧K es:=by
   intro hw h
   obtain⟨N,es,h1,h2⟩:=QN h
   exact⟨N,_,by simp only[JF,hw,h1],h2⟩
  have hdo:wanted o.guard env=some true→(Aak AP o.op r g env s fun v u b=>PX u b s fun s'=>Adb AP os (r+rank o.op) (g+1) (put o.dst v env) s' fun es=>K (⟨o.dst,v,o.op.reads r env,o.op.writes r env,u,b⟩::es))→∃N es,JF (run AP N) (o::os) r g env s=some es∧K es:=by
   intro hw h
   obtain⟨N,v,u,b,h1,h2⟩:=Aal h
   rw[UJ]at h2
   obtain⟨N',es,h3,h4⟩:=QN h2
   refine⟨max N N',_,?_,h4⟩
   simp only[JF,hw,Ws (BP (Nat.le_max_left N N')) h1,Kt (BP (AP:=AP) (Nat.le_max_right N N')) h3]
  rw[AfR]at h
  unfold Hr at h
  split at h
  ·rename_i hg
   exact hdo (by rw[hg];rfl) h
  ·rename_i r' b hg
   split at h
   ·rename_i b' hb
    cases hbb:(b'==b)
    ·rw[hbb]at h
     exact MI (by rw[hg];simp only[wanted,hb,hbb]) h
    ·rw[hbb]at h
     exact hdo (by rw[hg];simp only[wanted,hb,hbb]) h
   ·rename_i hb
    exact MI (by rw[hg];simp only[wanted,hb]) h
   ·cases h
def Ai1 {α:Type}:List α→List α→(List α→Prop)→Prop
 |[],ys,K=>K ys
 |x::xs,ys,K=>Ai1 xs ys fun r=>K (x::r)
theorem YX {α:Type}:∀(xs ys:List α) (K:List α→Prop),Ai1 xs ys K↔K (xs++ys)
 |[],_,_=>Iff.rfl
 |x::xs,ys,K=>YX xs ys _
def Vw:List Eff→Aq→(Aq→Prop)→Prop
 |[],s,K=>K s
 |e::es,s,K=>PX e.upd e.bump s fun s=>Vw es s K
theorem UK:∀(es:List Eff) (s:Aq) (K:Aq→Prop),Vw es s K↔K (Oy es s)
 |[],_,_=>Iff.rfl
 |e::es,s,K=>by rw[Vw,UJ,Oy];exact UK es _ K
def ApB (n:Nat) (σ:List Obj) (K:List Obj→Prop):Prop:=match n with
 |0=>K σ
 |n+1=>Ai1 σ (List.replicate (n+1) .dead) K
theorem Ai2 (n:Nat) (σ:List Obj) (K:List Obj→Prop):ApB n σ K↔K (σ++List.replicate n .dead):=by
 cases n with
 |zero=>simp[ApB]
 |succ n=>exact YX _ _ _
def AbV {α:Type}:Nat→List α→(List α→Prop)→Prop
 |0,xs,K=>K xs
 |_+1,[],K=>K []
 |n+1,_::xs,K=>AbV n xs K
theorem YZ {α:Type}:∀(n:Nat) (l:List α) (K:List α→Prop),AbV n l K↔K (l.drop n)
 |0,_,_=>by simp[AbV]
 |_+1,[],_=>by simp[AbV]
 |n+1,_::xs,K=>YZ n xs K
def Ai3 (AP:Nat→Option Jc) (m:Nat) (un:List (Nat×Nat)) (ops:List Bj) (env:Env) (s:Aq) (K:Env→Aq→Prop):Prop:=
 YW m ops fun hd=>ApB (ranks hd) s.σ fun σ=>Adb AP hd s.σ.length s.ctr env ⟨σ,s.ctr+m⟩ fun es=>
    need (L8 es un=true) (Vw es ⟨σ,s.ctr+m⟩ fun s1=>K (Qr es env) s1)
theorem AbW {m:Nat} {un:List (Nat×Nat)} {ops:List Bj} {env:Env} {s:Aq} {K:Env→Aq→Prop} (h:Ai3 AP m un ops env s K):∃N DC s1,OA (run AP N) m un ops env s=some (DC,s1)∧K DC s1:=by
 unfold Ai3 at h
 rw[Ui,Ai2]at h
 obtain⟨N,es,h1,h2,h3⟩:=QN h
 rw[UK]at h3
 exact⟨N,_,_,by simp only[OA,h1,if_pos h2],h3⟩
def Ai4 (AP:Nat→Option Jc) (op:Dp) (env:Env) (v:AV):List Aq→Prop→Prop
 |[],T=>T
 |S::r,T=>MS AP op env S fun out _=>match out with
  | .ok u=>need (Je u v=true) (Ai4 AP op env v r T)
  | .Ei _=>False
def Ai5 (AP:Nat→Option Jc) (S:Aq):List (Dp×Env×AV)→Prop→Prop
 |[],T=>T
 |(op,env,v)::r,T=>MS AP op env S fun out _=>match out with
  | .ok u=>need (Je u v=true) (Ai5 AP S r T)
  | .Ei _=>False
theorem UL {op:Dp} {env:Env} {v:AV}:∀{past:List Aq} {T:Prop},Ai4 AP op env v past T→(∃ N,Nk (run AP N) op env v past=true)∧T
 |[],T,h=>⟨⟨0,rfl⟩,h⟩
 |S::r,T,h=>by
  obtain⟨N,out,s',h1,h2⟩:=Jb h
  cases out with
  |Ei u=>exact h2.elim
  |ok u=>
   obtain⟨h3,h4⟩:=h2
   obtain⟨⟨N',h5⟩,h6⟩:=UL h4
   refine⟨⟨max N N',?_⟩,h6⟩
   simp only[Nk,Dj (BP (Nat.le_max_left N N')) h1,h3,KX (BP (Nat.le_max_right N N')) h5,Bool.and_self]
theorem UM {S:Aq}:∀{pend:List (Dp×Env×AV)} {T:Prop},Ai5 AP S pend T→(∃ N,Nl (run AP N) S pend=true)∧T
 |[],T,h=>⟨⟨0,rfl⟩,h⟩
 |(op,env,v)::r,T,h=>by
  obtain⟨N,out,s',h1,h2⟩:=Jb h
  cases out with
  |Ei u=>exact h2.elim
  |ok u=>
   obtain⟨h3,h4⟩:=h2
   obtain⟨⟨N',h5⟩,h6⟩:=UM h4
   refine⟨⟨max N N',?_⟩,h6⟩
   simp only[Nl,Dj (BP (Nat.le_max_left N N')) h1,h3,KY (BP (Nat.le_max_right N N')) h5,Bool.and_self]
def O6 (AP:Nat→Option Jc) (E:List Nat) (ops:List Bj):Nat→Env→Aq→Prop→Prop:=
 List.rec (motive:=fun _=>Nat→Env→Aq→Prop→Prop) (fun _ _ _ T=>T)
    (fun o _ ih i env s T=>bif EG i E then Hr o.guard env
      (MS AP o.op env s fun out _=>match out with
        | .ok v=>bif flt o then ih (i+1) (put o.dst v env) s T else False
        | .Ei _=>False)
      (ih (i+1) (put o.dst .undef env) s T)
      else ih (i+1) env s T) ops
theorem AbX (E:List Nat) (o:Bj) (os:List Bj) (i:Nat) (env:Env) (s:Aq) (T:Prop):O6 AP E (o::os) i env s T=bif EG i E then Hr o.guard env
        (MS AP o.op env s fun out _=>match out with
          | .ok v=>bif flt o then O6 AP E os (i+1) (put o.dst v env) s T else False
          | .Ei _=>False)
        (O6 AP E os (i+1) (put o.dst .undef env) s T)
 else O6 AP E os (i+1) env s T:=rfl
theorem JZ {E:List Nat}:∀{os:List Bj} {i:Nat} {env:Env} {s:Aq} {T:Prop},O6 AP E os i env s T→(∃ N,FM (run AP N) E os i env s=true)∧T
 |[],i,env,s,T,h=>⟨⟨0,rfl⟩,h⟩
 |o::os,i,env,s,T,h=>by
  rw[AbX]at h
  cases hm:EG i E with
  |false=>
   rw[hm,cond_false]at h
   obtain⟨⟨N,h1⟩,h2⟩:=JZ h
   exact⟨⟨N,by simp only[FM,hm,Bool.false_eq_true,if_false];exact h1⟩,h2⟩
  |true=>
   rw[hm,cond_true]at h
   have MI:wanted o.guard env=some false→O6 AP E os (i+1) (put o.dst .undef env) s T→(∃ N,FM (run AP N) E (o::os) i env s=true)∧T:=by
        intro hw h
        obtain⟨⟨N,h1⟩,h2⟩:=JZ h
        exact⟨⟨N,by simp only[FM,hm,if_true,hw];exact h1⟩,h2⟩
   have hdo:wanted o.guard env=some true→(MS AP o.op env s fun out _=>match out with
    | .ok v=>bif flt o then O6 AP E os (i+1) (put o.dst v env) s T else False
    | .Ei _=>False)→(∃ N,FM (run AP N) E (o::os) i env s=true)∧T:=by
        intro hw h
        obtain⟨N,out,s1,h1,h2⟩:=Jb h
        cases out with
        |Ei v=>exact h2.elim
        |ok v=>
         dsimp only at h2
         cases hf:flt o with
         |false=>rw[hf]at h2;exact h2.elim
         |true=>
          rw[hf,cond_true]at h2
          obtain⟨⟨N',h3⟩,h4⟩:=JZ h2
          refine⟨⟨max N N',?_⟩,h4⟩
          simp only[FM,hm,if_true,hw,Dj (BP (AP:=AP) (Nat.le_max_left N N')) h1,hf,GU (BP (AP:=AP) (Nat.le_max_right N N')) h3,Bool.and_self]
   unfold Hr at h
   split at h
   ·rename_i hg
    exact hdo (by rw[hg];rfl) h
   ·rename_i r b hg
    split at h
    ·rename_i b' hb
     cases hbb:(b'==b)
     ·rw[hbb]at h
      exact MI (by rw[hg];simp only[wanted,hb,hbb]) h
     ·rw[hbb]at h
      exact hdo (by rw[hg];simp only[wanted,hb,hbb]) h
    ·rename_i hb
     exact MI (by rw[hg];simp only[wanted,hb]) h
    ·cases h
def AbY (AP:Nat→Option Jc) (m:Nat) (W pc:List Nat) (o:Bj) (os:List Bj) (i:Nat) (k:Env→Aq→List (Dp×Env×AV)→List Aq→Prop) (Q:Aw→Env→Aq→Prop) (env:Env) (s:Aq) (pend:List (Dp×Env×AV)) (past:List Aq) (out:Bf) (s1:Aq):Prop:=match out with
 | .Ei v=>match pc with
   |p::E=>bif Nat.beq i p&&!(EG i W||(flt o||Nat.blt i m))then O6 AP E os (i+1) env s (Q (.Ei v) [] s1)else False
   |[]=>False
 | .ok v=>bif EG i W then bif o.op.G8 then Ai4 AP o.op env v past (k (put o.dst v env) s ((o.op,env,v)::pend) past)else False
   else bif flt o||Nat.blt i m then k (put o.dst v env) s pend past
   else Ai5 AP s1 pend (k (put o.dst v env) s1 pend (s::past))
def Adc (AP:Nat→Option Jc) (m:Nat) (W pc:List Nat) (ops:List Bj):Nat→Env→Aq→List (Dp×Env×AV)→List Aq→(Aw→Env→Aq→Prop)→Prop:=
 List.rec (motive:=fun _=>Nat→Env→Aq→List (Dp×Env×AV)→List Aq→(Aw→Env→Aq→Prop)→Prop) (fun _ env s _ _ K=>K .normal env s)
    (fun o os ih i env s pend past K=>Hr o.guard env (MS AP o.op env s (AbY AP m W pc o os i (fun env s pend past=>ih (i+1) env s pend past K) K env s pend past))
      (ih (i+1) (put o.dst .undef env) s pend past K)) ops
theorem AfS (m:Nat) (W pc:List Nat) (o:Bj) (os:List Bj) (i:Nat) (env:Env) (s:Aq) (pend:List (Dp×Env×AV)) (past:List Aq) (K:Aw→Env→Aq→Prop):Adc AP m W pc (o::os) i env s pend past K=Hr o.guard env
 (MS AP o.op env s (AbY AP m W pc o os i (fun env s pend past=>Adc AP m W pc os (i+1) env s pend past K) K env s pend past))
 (Adc AP m W pc os (i+1) (put o.dst .undef env) s pend past K):=rfl
theorem KI {m:Nat} {W pc:List Nat}:∀{os:List Bj} {i:Nat} {env:Env} {s:Aq} {pend:List (Dp×Env×AV)} {past:List Aq} {K:Aw→Env→Aq→Prop},Adc AP m W pc os i env s pend past K→∃N x env' s',H7 (run AP N) m W pc os i env s pend past=some (x,env',s')∧K x env' s'
 |[],i,env,s,pend,past,K,h=>⟨0,_,_,_,rfl,h⟩
 |o::os,i,env,s,pend,past,K,h=>by
  have MI:wanted o.guard env=some false→Adc AP m W pc os (i+1) (put o.dst .undef env) s pend past K→∃N x env' s',H7 (run AP N) m W pc (o::os) i env s pend past=some (x,env',s')∧K x env' s':=by
   intro hw h
   obtain⟨N,x,env',s',h1,h2⟩:=KI h
   exact⟨N,x,env',s',by simp only[H7,hw];exact h1,h2⟩
  have hdo:wanted o.guard env=some true→MS AP o.op env s (AbY AP m W pc o os i (fun env s pend past=>Adc AP m W pc os (i+1) env s pend past K) K env s pend past)→∃N x env' s',H7 (run AP N) m W pc (o::os) i env s pend past=some (x,env',s')∧K x env' s':=by
   intro hw h
   obtain⟨N,out,s1,h1,h2⟩:=Jb h
   cases out with
   |Ei v=>
    simp only[AbY]at h2
    cases pc with
    |nil=>exact h2.elim
    |cons p E=>
     dsimp only at h2
     cases hc:(Nat.beq i p&&!(EG i W||(flt o||Nat.blt i m)))with
     |false=>rw[hc]at h2;exact h2.elim
     |true=>
      rw[hc,cond_true]at h2
      obtain⟨⟨N1,h3⟩,h4⟩:=JZ h2
      refine⟨max N N1,_,_,_,?_,h4⟩
      simp only[H7,hw,Dj (BP (AP:=AP) (Nat.le_max_left N N1)) h1,hc,GU (BP (AP:=AP) (Nat.le_max_right N N1)) h3,Bool.and_self,if_true]
   |ok v=>
    simp only[AbY]at h2
    cases hm:EG i W with
    |true=>
     rw[hm,cond_true]at h2
     cases hp:o.op.G8 with
     |false=>rw[hp]at h2;exact h2.elim
     |true=>
      rw[hp,cond_true]at h2
      obtain⟨⟨N1,h3⟩,h4⟩:=UL h2
      obtain⟨N2,x,env',s',h5,h6⟩:=KI h4
      refine⟨max N (max N1 N2),x,env',s',?_,h6⟩
      simp only[H7,hw,Dj (BP (AP:=AP) (Nat.le_max_left N (max N1 N2))) h1,hm,hp,KX (BP (AP:=AP) (show N1≤max N (max N1 N2) by omega)) h3,Bool.and_self,if_true]
      exact FQ (BP (show N2≤max N (max N1 N2) by omega)) h5
    |false=>
     rw[hm,cond_false]at h2
     cases hf:(flt o||Nat.blt i m)with
     |true=>
      rw[hf,cond_true]at h2
      obtain⟨N2,x,env',s',h5,h6⟩:=KI h2
      refine⟨max N N2,x,env',s',?_,h6⟩
      simp only[H7,hw,Dj (BP (AP:=AP) (Nat.le_max_left N N2)) h1,hm,hf,if_true,Bool.false_eq_true,if_false]
      exact FQ (BP (Nat.le_max_right N N2)) h5
     |false=>
      rw[hf,cond_false]at h2
      obtain⟨⟨N1,h3⟩,h4⟩:=UM h2
      obtain⟨N2,x,env',s',h5,h6⟩:=KI h4
      refine⟨max N (max N1 N2),x,env',s',?_,h6⟩
      simp only[H7,hw,Dj (BP (AP:=AP) (Nat.le_max_left N (max N1 N2))) h1,hm,hf,KY (BP (AP:=AP) (show N1≤max N (max N1 N2) by omega)) h3,if_true,Bool.false_eq_true,if_false]
      exact FQ (BP (show N2≤max N (max N1 N2) by omega)) h5
  rw[AfS]at h
  unfold Hr at h
  split at h
  ·rename_i hg
   exact hdo (by rw[hg];rfl) h
  ·rename_i r b hg
   split at h
   ·rename_i b' hb
    cases hbb:(b'==b)
    ·rw[hbb]at h
     exact MI (by rw[hg];simp only[wanted,hb,hbb]) h
    ·rw[hbb]at h
     exact hdo (by rw[hg];simp only[wanted,hb,hbb]) h
   ·rename_i hb
    exact MI (by rw[hg];simp only[wanted,hb]) h
   ·cases h
def Ai6 (v:AV) (A B:Prop):Prop:=match v with
 | .bool c=>Ob c A B
 |_=>False
def vC (AP:Nat→Option Jc) (c:AY):Env→Aq→(Aw→Env→Aq→Prop)→Prop:=
 AY.rec (motive:=fun _=>Env→Aq→(Aw→Env→Aq→Prop)→Prop)
    (fun env s Q=>Q .normal env s)
    (fun _ Nr ops live tr env s Q=>X5 Nr env s fun env s=>AbU AP ops env s (Ai0 live tr Q))
    (fun m un Nr ops live tr env s Q=>X5 Nr env s fun env s=>Ai3 AP m un ops env s fun DC s1=>AbV m ops fun tl=>AbU AP tl DC s1 (Ai0 live tr Q))
    (fun m W pc Nr ops live tr env s Q=>X5 Nr env s fun env s=>Adc AP m W pc ops 0 env s [] [] (Ai0 live tr Q))
    (fun _ _ iha ihb env s Q=>iha env s (GX (fun env s=>ihb env s Q) Q))
    (fun c _ _ iha ihb env s Q=>Ai6 (c.val env) (iha env s Q) (ihb env s Q))
    (fun id _ iha env s Q=>iha env s (XU id Q))
    (fun live a _ env s Q=>NV live env fun env=>Run AP (.loop live a) env s Q)
    (fun id env s Q=>Q (.exit id) env s)
    (fun env s Q=>Q .ret env s) c
theorem Xo {env:Env} {t:Nat}:∀{ts:List Nat},t∈ts→(commit env ts).get t=env.get t
 |[],h=>by simp at h
 |t'::ts,h=>by
  simp only[commit,Env.get]
  cases hb:Nat.beq t' t
  ·have hne:t≠t':=fun e=>by subst e;simp at hb
   rw[cond_false]
   exact Xo ((List.mem_cons.1 h).resolve_left hne)
  ·rw[cond_true,Nat.eq_of_beq_eq_true hb]
theorem SL {env env':Env}:∀{ts:List Nat},(∀ t∈ts,env.get t=env'.get t)→commit env ts=commit env' ts
 |[],_=>rfl
 |t::ts,h=>by simp only[commit];rw[h t (by simp),SL fun t' h'=>h t' (by simp[h'])]
theorem X6 (env:Env) (ts:List Nat):commit (commit env ts) ts=commit env ts:=SL fun _ h=>Xo h
theorem O7 {live:List Nat} {a:AY} {env:Env} {s:Aq} {Q:Aw→Env→Aq→Prop} (h:Run AP (.loop live a) (commit env live) s Q):Run AP (.loop live a) env s Q:=by
 obtain⟨N,e,env',s',h1,h2⟩:=h
 refine⟨N,e,env',s',?_,h2⟩
 simp only[Gi]at h1 ⊢
 cases N with
 |zero=>simp[iter]at h1
 |succ N=>
  simp only[iter,X6]at h1 ⊢
  exact h1
theorem KH:∀{c:AY} {env:Env} {s:Aq} {Q:Aw→Env→Aq→Prop},vC AP c env s Q→Run AP c env s Q:=by
 intro c
 induction c with
 |skip=>intro env s Q h;exact⟨0,_,_,_,rfl,h⟩
 |exit id=>intro env s Q h;exact⟨0,_,_,_,rfl,h⟩
 |ret=>intro env s Q h;exact⟨0,_,_,_,rfl,h⟩
 |region hd Nr ops live tr=>
  intro env s Q h
  obtain⟨DC,s1,h1,h2⟩:=Gy h
  obtain⟨N,e,Ih,s2,h3,h4⟩:=NU h2
  cases e with
  |normal=>exact⟨N,_,_,_,by simp only[Gi,h1,h3],(QM _ _ _).1 ((FK _ _ _).1 h4)⟩
  |exit id=>exact⟨N,_,_,_,by simp only[Gi,h1,h3],h4⟩
  |ret=>exact⟨N,_,_,_,by simp only[Gi,h1,h3],h4⟩
  |Ei v=>exact⟨N,_,_,_,by simp only[Gi,h1,h3],h4⟩
 |mix m W pc Nr ops live tr=>
  intro env s Q h
  obtain⟨DC,s1,h1,h2⟩:=Gy h
  obtain⟨N,e,Ih,s2,h3,h4⟩:=KI h2
  cases e with
  |normal=>exact⟨N,_,_,_,by simp only[Gi,h1,h3],(QM _ _ _).1 ((FK _ _ _).1 h4)⟩
  |exit id=>exact⟨N,_,_,_,by simp only[Gi,h1,h3],h4⟩
  |ret=>exact⟨N,_,_,_,by simp only[Gi,h1,h3],h4⟩
  |Ei v=>exact⟨N,_,_,_,by simp only[Gi,h1,h3],h4⟩
 |par m un Nr ops live tr=>
  intro env s Q h
  obtain⟨DC,s1,h1,h2⟩:=Gy h
  obtain⟨N',As1,s1',hh,h2⟩:=AbW h2
  rw[YZ]at h2
  obtain⟨N,e,Ih,s2,h3,h4⟩:=NU h2
  have hh':OA (run AP (max N N')) m un ops DC s1=some (As1,s1'):=by
   unfold OA at hh ⊢
   split at hh
   ·rename_i es hes
    rw[Kt (BP (Nat.le_max_right N N')) hes]
    exact hh
   ·cases hh
  have h3':=Gn (BP (AP:=AP) (Nat.le_max_left N N')) h3
  cases e with
  |normal=>exact⟨max N N',_,_,_,by simp only[Gi,h1,hh',h3'],(QM _ _ _).1 ((FK _ _ _).1 h4)⟩
  |exit id=>exact⟨max N N',_,_,_,by simp only[Gi,h1,hh',h3'],h4⟩
  |ret=>exact⟨max N N',_,_,_,by simp only[Gi,h1,hh',h3'],h4⟩
  |Ei v=>exact⟨max N N',_,_,_,by simp only[Gi,h1,hh',h3'],h4⟩
 |seq a b iha ihb=>
  intro env s Q h
  obtain⟨N,e,DC,s1,h1,h2⟩:=iha h
  cases e with
  |normal=>
   obtain⟨N',e',Ih,s2,h3,h4⟩:=ihb h2
   have h1':=Du (BP (AP:=AP) (Nat.le_max_left N N')) (Nat.le_max_left N N') h1
   have h3':=Du (BP (AP:=AP) (Nat.le_max_right N N')) (Nat.le_max_right N N') h3
   exact⟨max N N',e',Ih,s2,by simp only[Gi,h1',h3'],h4⟩
  |exit id=>exact⟨N,_,_,_,by simp only[Gi,h1],h2⟩
  |ret=>exact⟨N,_,_,_,by simp only[Gi,h1],h2⟩
  |Ei v=>exact⟨N,_,_,_,by simp only[Gi,h1],h2⟩
 |cond c a b iha ihb=>
  intro env s Q h
  change Ai6 (c.val env) (vC AP a env s Q) (vC AP b env s Q)at h
  unfold Ai6 at h
  split at h
  ·rename_i c' hc
   cases c'
   ·obtain⟨N,e,DC,s1,h1,h2⟩:=ihb h
    exact⟨N,e,DC,s1,by simp only[Gi,hc,h1],h2⟩
   ·obtain⟨N,e,DC,s1,h1,h2⟩:=iha h
    exact⟨N,e,DC,s1,by simp only[Gi,hc,h1],h2⟩
  ·cases h
 |block id a iha=>
  intro env s Q h
  obtain⟨N,e,DC,s1,h1,h2⟩:=iha h
  cases e with
  |normal=>exact⟨N,_,_,_,by simp only[Gi,h1],h2⟩
  |exit j=>
   simp only[XU]at h2
   cases hb:Nat.beq j id
   ·rw[hb]at h2
    have hne:j≠id:=fun e=>by subst e;simp at hb
    exact⟨N,_,_,_,by simp only[Gi,h1,if_neg hne],h2⟩
   ·rw[hb]at h2
    exact⟨N,_,_,_,by simp only[Gi,h1,if_pos (Nat.eq_of_beq_eq_true hb)],h2⟩
  |ret=>exact⟨N,_,_,_,by simp only[Gi,h1],h2⟩
  |Ei v=>exact⟨N,_,_,_,by simp only[Gi,h1],h2⟩
 |loop live a iha=>
  intro env s Q h
  exact O7 ((FK _ _ _).1 h)
def Ade (AP:Nat→Option Jc) (live:List Nat) (a:AY) (Q:Aw→Env→Aq→Prop) (e:Aw) (env:Env) (s:Aq):Prop:=match e with
 | .normal=>NV live env fun env=>Run AP (.loop live a) env s Q
 |e=>Q e env s
theorem Ue {live:List Nat} {a:AY} {env:Env} {s:Aq} {Q:Aw→Env→Aq→Prop} (h:vC AP a env s (Ade AP live a Q)) (hc:commit env live=env):Run AP (.loop live a) env s Q:=by
 obtain⟨N,e,DC,s1,h1,h2⟩:=KH h
 cases e with
 |normal=>
  obtain⟨N',e',Ih,s2,h3,h4⟩:=O7 ((FK _ _ _).1 h2)
  refine⟨max N N'+1,e',Ih,s2,?_,h4⟩
  have h1':=Du (BP (AP:=AP) (show N≤max N N'+1 by omega)) (show N≤max N N'+1 by omega) h1
  simp only[Gi]at h3 ⊢
  rw[iter.eq_2]
  rw[hc,h1']
  exact Py (fun env s r hr=>Du (BP (by omega)) (by omega) hr) (by omega) h3
 |exit id=>exact⟨N+1,_,_,_,by simp only[Gi,iter.eq_2,hc,Du (BP (AP:=AP) (Nat.le_succ N)) (Nat.le_succ N) h1],h2⟩
 |ret=>exact⟨N+1,_,_,_,by simp only[Gi,iter.eq_2,hc,Du (BP (AP:=AP) (Nat.le_succ N)) (Nat.le_succ N) h1],h2⟩
 |Ei v=>exact⟨N+1,_,_,_,by simp only[Gi,iter.eq_2,hc,Du (BP (AP:=AP) (Nat.le_succ N)) (Nat.le_succ N) h1],h2⟩
def Aa0 (fn:Jr) (K:Bf→Aq→Prop) (e:Aw) (env:Env) (s:Aq):Prop:=match e with
 | .normal=>Oh (FP env s fn.results) fun vs=>K (.ok (JG vs)) s
 | .ret=>Oh (FP env s fn.results) fun vs=>K (.ok (JG vs)) s
 | .Ei v=>K (.Ei v) s
 | .exit _=>False
theorem Xp {f:Nat} {fn:Jr} {args:List AV} {s:Aq} {K:Bf→Aq→Prop} (hf:AP f=some (.code fn)) (hl:args.length=fn.np) (h:Run AP fn.body (params args 0) s (Aa0 fn K)):Am AP f args s K:=by
 obtain⟨N,e,env,s',h1,h2⟩:=h
 cases e with
 |normal=>
  obtain⟨vs,h3,h4⟩:=h2
  exact⟨N+1,_,_,by simp only[run,hf,if_pos hl,evF,h1,h3,Option.map_some],h4⟩
 |ret=>
  obtain⟨vs,h3,h4⟩:=h2
  exact⟨N+1,_,_,by simp only[run,hf,if_pos hl,evF,h1,h3,Option.map_some],h4⟩
 |Ei v=>exact⟨N+1,_,_,by simp only[run,hf,if_pos hl,evF,h1],h2⟩
 |exit id=>cases h2
end AI
end Go.Proofs.YthnehejdkajjhaaGreatDoor
namespace Go.Proofs.YthnehejdkajjhaaGreatDoor
namespace AI
open Go.RowKit
variable {AP:Nat→Option Jc}
def Afa (live:List Nat) (I:Env→Aq→Prop) (Q:Aw→Env→Aq→Prop) (e:Aw) (env:Env) (s:Aq):Prop:=match e with
 | .normal=>NV live env fun env=>I env s
 |e=>Q e env s
structure again (I:Nat→Env→Aq→Prop) (m:Nat) (env:Env) (s:Aq):Prop where
 mk::(h:∃m',m'<m∧I m' env s)
theorem Af {live:List Nat} {a:AY} {Q:Aw→Env→Aq→Prop} (I:Nat→Env→Aq→Prop)
 (hI:∀m env s,I m env s→commit env live=env∧vC AP a env s (Afa live (again I m) Q)):
 ∀m env s,I m env s→Run AP (.loop live a) env s Q:=by
 intro m
 induction m using Nat.strongRecOn with
 |ind m ih=>
  intro env s h
  obtain⟨hc,h1⟩:=hI m env s h
  obtain⟨N,e,DC,s1,h2,h3⟩:=KH h1
  have hr:Run AP a env s (Ade AP live a Q):=by
   refine⟨N,e,DC,s1,h2,?_⟩
   cases e with
   |normal=>
    simp only[Afa,Ade,FK]at h3 ⊢
    obtain⟨m',hm,h4⟩:=h3
    exact ih m' hm _ _ h4
   |exit id=>exact h3
   |ret=>exact h3
   |Ei v=>exact h3
  obtain⟨N,e,DC,s1,h1,h2⟩:=hr
  cases e with
  |normal=>
   obtain⟨N',e',Ih,s2,h3,h4⟩:=O7 ((FK _ _ _).1 h2)
   refine⟨max N N'+1,e',Ih,s2,?_,h4⟩
   have h1':=Du (BP (AP:=AP) (show N≤max N N'+1 by omega)) (show N≤max N N'+1 by omega) h1
   simp only[Gi]at h3 ⊢
   rw[iter.eq_2]
   rw[hc,h1']
   exact Py (fun env s r hr=>Du (BP (by omega)) (by omega) hr) (by omega) h3
  |exit id=>exact⟨N+1,_,_,_,by simp only[Gi,iter.eq_2,hc,Du (BP (AP:=AP) (Nat.le_succ N)) (Nat.le_succ N) h1],h2⟩
  |ret=>exact⟨N+1,_,_,_,by simp only[Gi,iter.eq_2,hc,Du (BP (AP:=AP) (Nat.le_succ N)) (Nat.le_succ N) h1],h2⟩
  |Ei v=>exact⟨N+1,_,_,_,by simp only[Gi,iter.eq_2,hc,Du (BP (AP:=AP) (Nat.le_succ N)) (Nat.le_succ N) h1],h2⟩
structure Ag (AP:Nat→Option Jc) (f:Nat) (args:List AV) (R:AV→Prop):Prop where
 mk::(h:∃v,Pure AP f args v∧R v)
def ApC (R:AV→Prop) (out:Bf) (s:Aq):Prop:=match out with
 | .ok r=>AeI s.σ F5 r R
 | .Ei _=>False
theorem Ad {f:Nat} {fn:Jr} {args:List AV} {R:AV→Prop} (hf:AP f=some (.code fn)) (hl:args.length=fn.np) (h:vC AP fn.body (params args 0) ⟨[],0⟩ (Aa0 fn (ApC R))):Ag AP f args R:=by
 obtain⟨N,out,s',h1,h2⟩:=Xp hf hl (KH h)
 cases out with
 |ok r=>
  have h2:AeI s'.σ F5 r R:=h2
  obtain⟨v,h3,h4⟩:=AbQ h2
  exact⟨v,⟨N,by simp only[Fb,h1];exact h3⟩,h4⟩
 |Ei r=>cases h2
theorem Aa {f:Nat} {args:List AV} {R:AV→Prop} {K:AV→Prop} (h:Ag AP f args R) (h2:∀v,R v→K v):AbO AP f args K:=by
 obtain⟨v,h3,h4⟩:=h
 exact⟨v,h3,h2 v h4⟩
theorem Bo {f:Nat} {args:List AV} {p:Prop} [Decidable p] {K:AV→Prop} (h:Ag AP f args (· =.bool (decide p))) (h1:p→K (.bool true)) (h2:¬p→K (.bool false)):AbO AP f args K:=by
 refine Aa h ?_
 rintro _ rfl
 by_cases hp:p
 ·rw[decide_eq_true hp];exact h1 hp
 ·rw[decide_eq_false hp];exact h2 hp
theorem Am.mono {f:Nat} {args:List AV} {s:Aq} {K K':Bf→Aq→Prop} (h:Am AP f args s K) (hk:∀out s,K out s→K' out s):Am AP f args s K':=by
 obtain⟨N,out,s',h1,h2⟩:=h
 exact⟨N,out,s',h1,hk _ _ h2⟩
theorem Bh {p:Prop} [Decidable p] (h:p):AV.bool true=AV.bool (decide p):=by rw[decide_eq_true h]
theorem Ar {p:Prop} [Decidable p] (h:¬p):AV.bool false=AV.bool (decide p):=by rw[decide_eq_false h]
theorem Ag.mono {f:Nat} {args:List AV} {R R':AV→Prop} (h:Ag AP f args R) (h2:∀v,R v→R' v):Ag AP f args R':=by
 obtain⟨v,h3,h4⟩:=h
 exact⟨v,h3,h2 v h4⟩
theorem Ah {f:Nat} {fn:Jr} {args:List AV} {s:Aq} {K:Bf→Aq→Prop} (hf:AP f=some (.code fn)) (hl:args.length=fn.np) (h:vC AP fn.body (params args 0) s (Aa0 fn K)):Am AP f args s K:=
 Xp hf hl (KH h)
end AI
end Go.Proofs.YthnehejdkajjhaaGreatDoor
namespace Go.Proofs.YthnehejdkajjhaaGreatDoor
namespace AI
def ints (l:List Int):List AV:=l.map (.int .i64)
abbrev YD (nn:Bool) (l:List Int):AV:=.sl nn (ints l)
@[simp] theorem lI (l:List Int):(ints l).length=l.length:=by simp[ints]
theorem Ai7 {l:List Int} {i:Nat} {x:Int} (h:l[i]?=some x):nth (ints l) i=some (.int .i64 x):=by simp[ints,Bl,h]
theorem nI {l:List Int} {i:Nat} (h:i<l.length):nth (ints l) i=some (.int .i64 l[i]):=Ai7 (List.getElem?_eq_getElem h)
theorem wrap_i64 {z:Int} (h:-2^63≤z) (h2:z<2^63):IntKind.i64.wrap z=z:=by
 rw[IntKind.wrap_i64];omega
theorem nIN {l:List Int} {i:Nat} (h:i<l.length):nth (ints l) (Int.toNat (Nat.cast i))=some (.int .i64 l[i]):=nI h
theorem AbZ {es:Nat} {x:AV} (h:x.cells.length=es):BN es [x]:=by intro y hy;simp at hy;exact hy▸h
theorem OG {b n:Nat} (h:n*b≤2 ^ 46):roomy b n:=h
def iss (E:List (Bool×List Int)):List AV:=E.map fun p=>.sl p.1 (ints p.2)
@[simp] theorem lS (E:List (Bool×List Int)):(iss E).length=E.length:=by simp[iss]
theorem nS {E:List (Bool×List Int)} {i:Nat} (h:i<E.length):nth (iss E) i=some (.sl E[i].1 (ints E[i].2)):=by simp[iss,Bl,h]
theorem nSN {E:List (Bool×List Int)} {i:Nat} (h:i<E.length):nth (iss E) (Int.toNat (Nat.cast i))=some (.sl E[i].1 (ints E[i].2)):=nS h
theorem CQ {α:Type} {l:List α} {i:Nat} (h:¬(i:Int)<(l.length:Int)):l.take i=l:=List.take_of_length_le (by omega)
theorem Cb {α:Type} {p:α→Prop} {l:List α} {i:Nat} (h:i<l.length) (h1:∀x∈l.take i,p x) (h2:p l[i]):∀x∈l.take (i+1),p x:=by
 intro x hx
 rw[List.take_succ_eq_append_getElem h,List.mem_append,List.mem_singleton]at hx
 rcases hx with hx|rfl
 ·exact h1 x hx
 ·exact h2
theorem tIN {l:List Int} {i:Nat} {x y:Int}:(ints l).set (Int.toNat (Nat.cast i)) (BQ (.int .i64 x) 0 (.int .i64 y))=ints (l.set i y):=by
 simp[ints,BQ,AV.cells,List.map_set]
theorem tI {l:List Int} {i:Nat} {x y:Int}:(ints l).set i (BQ (.int .i64 x) 0 (.int .i64 y))=ints (l.set i y):=tIN
theorem uI {l:List Int}:sub (ints l) 0 l.length=ints l:=by
 unfold sub;rw[List.drop_zero,List.take_of_length_le (by simp)]
theorem uS {l:List (Bool×List Int)}:sub (iss l) 0 l.length=iss l:=by
 unfold sub;rw[List.drop_zero,List.take_of_length_le (by simp)]
theorem uIS {l:List Int} {x:Int}:sub (ints (l++[x])) 0 (l.length+1)=ints (l++[x]):=by
 have:=uI (l:=l++[x]);rwa [List.length_append]at this
theorem uSS {l:List (Bool×List Int)} {x:Bool×List Int}:sub (iss (l++[x])) 0 (l.length+1)=iss (l++[x]):=by
 have:=uS (l:=l++[x]);rwa [List.length_append]at this
theorem rIN (n:Nat) (z:Int):List.replicate (Int.toNat (Nat.cast n)) (AV.int .i64 z)=ints (List.replicate n z):=by simp[ints]
theorem rI (n:Nat) (z:Int):List.replicate n (AV.int .i64 z)=ints (List.replicate n z):=by simp[ints]
theorem nY {l:List UInt8} {i:Nat} (h:i<l.length):nth l i=some l[i]:=by simp[Bl,h]
theorem nYN {l:List UInt8} {i:Nat} (h:i<l.length):nth l (Int.toNat (Nat.cast i))=some l[i]:=nY h
def bools (l:List Bool):List AV:=l.map .bool
@[simp] theorem lB (l:List Bool):(bools l).length=l.length:=by simp[bools]
theorem nB {l:List Bool} {i:Nat} (h:i<l.length):nth (bools l) i=some (.bool l[i]):=by simp[bools,Bl,h]
theorem nBN {l:List Bool} {i:Nat} (h:i<l.length):nth (bools l) (Int.toNat (Nat.cast i))=some (.bool l[i]):=nB h
theorem tBN {l:List Bool} {i:Nat} {x y:Bool}:(bools l).set (Int.toNat (Nat.cast i)) (BQ (.bool x) 0 (.bool y))=bools (l.set i y):=by
 simp[bools,BQ,AV.cells,List.map_set]
theorem tB {l:List Bool} {i:Nat} {x y:Bool}:(bools l).set i (BQ (.bool x) 0 (.bool y))=bools (l.set i y):=tBN
theorem uB {l:List Bool}:sub (bools l) 0 l.length=bools l:=by
 unfold sub;rw[List.drop_zero,List.take_of_length_le (by simp)]
theorem rBN (n:Nat) (z:Bool):List.replicate (Int.toNat (Nat.cast n)) (AV.bool z)=bools (List.replicate n z):=by simp[bools]
section
variable {α β:Type} [DecidableEq α] {fk:α→AV} {fv:β→AV} {t:PL}
def Xq (fk:α→AV) (fv:β→AV) (M:List (α×β)):List (AV×AV):=M.map fun p=>(fk p.1,fv p.2)
def JU:List (α×β)→α→Option β
 |[],_=>none
 |(k',v)::M,k=>if k=k' then some v else JU M k
def UW:List (α×β)→α→β→List (α×β)
 |[],k,v=>[(k,v)]
 |(k',v')::M,k,v=>if k=k' then(k,v)::M else(k',v')::UW M k v
theorem Afk (M:List (α×β)) (k k':α) (v:β):JU (UW M k v) k'=if k'=k then some v else JU M k':=by
 induction M with
 |nil=>simp[UW,JU]
 |cons p M ih=>
  obtain⟨a,b⟩:=p
  simp only[UW]
  by_cases h:k=a
  ·subst h;simp only[if_pos,JU];split<;>simp_all
  ·rw[if_neg h]
   simp only[JU,ih]
   by_cases h1:k'=a
   ·subst h1;rw[if_pos rfl,if_neg (fun e=>h e.symm),if_pos rfl]
   ·rw[if_neg h1,if_neg h1]
theorem NW (hk:∀a b,Ee t (fk a) (fk b)=some (decide (a=b))) (k:α):∀(M:List (α×β)) (i:Nat),
 (JU M k=none∧findKey t (fk k) (Xq fk fv M) i=some none∧UW M k=fun v=>M++[(k,v)])∨
 ∃j v,JU M k=some v∧findKey t (fk k) (Xq fk fv M) i=some (some (i+j,fv v))∧UW M k=fun v=>M.set j (k,v)
 |[],i=>.inl ⟨rfl,rfl,rfl⟩
 |(a,b)::M,i=>by
  by_cases h:k=a
  ·subst h
   refine .inr ⟨0,b,by simp[JU],?_,by funext v;simp[UW]⟩
   simp only[Xq,List.map_cons,findKey,hk,decide_true,Nat.add_zero]
  ·rcases NW hk k M (i+1)with⟨h1,h2,h3⟩|⟨j,v,h1,h2,h3⟩
   ·refine .inl ⟨by simp[JU,h,h1],?_,by funext v;simp[UW,h,h3]⟩
    simp only[Xq,List.map_cons,findKey,hk,decide_eq_false h]at h2 ⊢
    exact h2
   ·refine .inr ⟨j+1,v,by simp[JU,h,h1],?_,by funext v;simp[UW,h,h3]⟩
    simp only[Xq,List.map_cons,findKey,hk,decide_eq_false h]at h2 ⊢
    rw[h2];congr 3;omega
theorem Adf (hk:∀a b,Ee t (fk a) (fk b)=some (decide (a=b))) {M:List (α×β)} {k:α} {K:Option (Nat×AV)→Prop}
 (h1:JU M k=none→K none) (h2:∀i v,JU M k=some v→K (some (i,fv v))):AbT t (fk k) (Xq fk fv M) K:=by
 rcases NW (fv:=fv) hk k M 0 with⟨g1,g2,_⟩|⟨j,v,g1,g2,_⟩
 ·exact⟨_,g2,h1 g1⟩
 ·exact⟨_,g2,h2 _ _ g1⟩
theorem Adg (hk:∀a b,Ee t (fk a) (fk b)=some (decide (a=b))) {M:List (α×β)} {k:α} {v:β} {K:List (AV×AV)→Prop}
 (h:K (Xq fk fv (UW M k v))):AiX t (fk k) (fv v) (Xq fk fv M) K:=by
 rcases NW (fv:=fv) hk k M 0 with⟨g1,g2,g3⟩|⟨j,w,g1,g2,g3⟩
 ·refine⟨_,g2,?_⟩
  rw[g3]at h
  simpa[AiW,Xq]using h
 ·refine⟨_,g2,?_⟩
  rw[g3]at h
  simpa[AiW,Xq,List.map_set]using h
end
theorem Xr (a b:Int):Ee .int (.int .i64 a) (.int .i64 b)=some (decide (a=b)):=by
 simp only[Ee,if_true];rfl
abbrev Yq (M:List (Int×Int)):List (AV×AV):=Xq (.int .i64) (.int .i64) M
theorem fkI {M:List (Int×Int)} {k:Int} {K:Option (Nat×AV)→Prop}
 (h1:JU M k=none→K none) (h2:∀i v,JU M k=some v→K (some (i,.int .i64 v))):AbT .int (.int .i64 k) (Yq M) K:=Adf Xr h1 h2
theorem msI {M:List (Int×Int)} {k v:Int} {K:List (AV×AV)→Prop} (h:K (Yq (UW M k v))):AiX .int (.int .i64 k) (.int .i64 v) (Yq M) K:=Adg Xr h
end AI
end Go.Proofs.YthnehejdkajjhaaGreatDoor
