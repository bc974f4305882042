/- The evaluator, step by step on symbols: what must hold for it to end in 'Q'. The evaluator, step by step on symbols: operations. The evaluator, step by step on symbols: regions, code, loops, functions. Loops by an invariant; what a function answers, as a predicate. Lists of numbers as abstract values; small facts that the steps need. -/
import Derived.Test.YtchcadfjbkkgmaaGreatDoorDSe
set_option linter.unusedVariables false
set_option maxRecDepth 4000
namespace Go.Proofs.YtchcadfjbkkgmaaGreatDoor
namespace AI
open Go.RowKit
variable {AP:Nat→Option Hy}
structure Run (AP:Nat→Option Hy) (c:AQ) (env:Env) (s:Aj) (Q:AB→Env→Aj→Prop):Prop where
 mk::(h:∃N e env' s',ET (run AP N) N c env s=some (e,env',s')∧Q e env' s')
def Op1 (AP:Nat→Option Hy) (o:BP) (env:Env) (s:Aj) (K:AA→Aj→Prop):Prop:=
 ∃N out s',Ag (run AP N) o env s=some (out,s')∧K out s'
def Ops (AP:Nat→Option Hy) (os:List Az) (env:Env) (s:Aj) (Q:AB→Env→Aj→Prop):Prop:=
 ∃N e env' s',Dc (run AP N) os env s=some (e,env',s')∧Q e env' s'
structure Pure (AP:Nat→Option Hy) (f:Nat) (args:List AV) (v:AV):Prop where
 mk::(h:∃N,CB (run AP N) f args=some v)
structure D6 (AP:Nat→Option Hy) (f:Nat) (args:List AV) (s:Aj) (K:AA→Aj→Prop):Prop where
 mk::(h:∃N out s',run AP N f args s=some (out,s')∧K out s')
theorem BJ {n n':Nat} (h:n≤n'):Eo (run AP n) (run AP n'):=LP h
theorem Run.mono {c:AQ} {env:Env} {s:Aj} {Q Q':AB→Env→Aj→Prop} (h:Run AP c env s Q) (hq:∀e env s,Q e env s→Q' e env s):Run AP c env s Q':=by
 obtain⟨N,e,env',s',h1,h2⟩:=h
 exact⟨N,e,env',s',h1,hq _ _ _ h2⟩
def AV.force {R:Sort _} (v:AV) (f:AV→R):R:=
 match v with
 | .bool b=>f (.bool b)
 | .int k n=>f (.int k n)
 | .str s=>f (.str s)
 | .sl nn xs=>f (.sl nn xs)
 | .zc=>f .zc
 | .own o g a b=>f (.own o g a b)
 | .agg cs=>f (.agg cs)
 | .Ce cs=>f (.Ce cs)
 | .ref o g i a=>f (.ref o g i a)
 | .BR cs=>f (.BR cs)
 | .fn g cs=>f (.fn g cs)
 | .map o g=>f (.map o g)
 | .fmap es=>f (.fmap es)
 | .iface t v=>f (.iface t v)
 | .Ja=>f .Ja
 | .CJ=>f .CJ
 | .Fj=>f .Fj
 | .Gu=>f .Gu
 | .undef=>f .undef
 | .junk=>f .junk
theorem force_eq {R:Sort _} (v:AV) (f:AV→R):v.force f=f v:=by cases v<;>rfl
def KJ (b:Bool) (t e:Prop):Prop:=match b with
 |true=>t
 |false=>e
theorem XP {b:Bool} {t e:Prop} (h1:b=true→t) (h2:b=false→e):KJ b t e:=by
 cases b
 ·exact h2 rfl
 ·exact h1 rfl
structure OT (p t e:Prop):Prop where
 mk::(yes:p→t) (no:¬p→e)
structure need (p t:Prop):Prop where
 mk::(l:p) (r:t)
theorem Ak {p t:Prop} (h1:p) (h2:t):need p t:=⟨h1,h2⟩
structure Ji (k:IntKind) (z:Int) (K:AV→Prop):Prop where
 mk::(h:∃y,k.wrap z=y∧K (.int k y))
theorem CW {k:IntKind} {z y:Int} {K:AV→Prop} (h:k.wrap z=y) (h2:K (.int k y)):Ji k z K:=⟨y,h,h2⟩
structure QN {α:Type} (xs:List α) (i:Nat) (K:α→Prop):Prop where
 mk::(h:∃x,nth xs i=some x∧K x)
theorem Au {α:Type} {xs:List α} {i:Nat} {K:α→Prop} {x:α} (h:nth xs i=some x) (h2:K x):QN xs i K:=⟨x,h,h2⟩
structure LC {α:Type} (o:Option α) (K:α→Prop):Prop where
 mk::(h:∃x,o=some x∧K x)
theorem Df {α:Type} {o:Option α} {K:α→Prop} {x:α} (h:o=some x) (h2:K x):LC o K:=⟨x,h,h2⟩
structure Aa2 (AP:Nat→Option Hy) (f:Nat) (args:List AV) (K:AV→Prop):Prop where
 mk::(h:∃v,Pure AP f args v∧K v)
def settle (v:AV) (K:AV→Prop):Prop:=match v with
 | .bool b=>KJ b (K (.bool true)) (K (.bool false))
 |v=>v.force K
theorem Uh (v:AV) (K:AV→Prop):settle v K↔K v:=by
 cases v<;>first|exact Iff.rfl|skip
 rename_i b
 cases b<;>exact Iff.rfl
def P5 {α:Type}:List α→Nat→α→(List α→Prop)→Prop
 |[],_,_,K=>K []
 |_::xs,0,y,K=>K (y::xs)
 |x::xs,n+1,y,K=>P5 xs n y fun ys=>K (x::ys)
theorem Dh {α:Type}:∀(l:List α) (n:Nat) (y:α) (K:List α→Prop),P5 l n y K↔K (l.set n y)
 |[],_,_,_=>Iff.rfl
 |_::_,0,_,_=>Iff.rfl
 |x::xs,n+1,y,K=>Dh xs n y fun ys=>K (x::ys)
def Aay {α:Type}:List α→α→(List α→Prop)→Prop
 |[],y,K=>K [y]
 |x::xs,y,K=>Aay xs y fun ys=>K (x::ys)
theorem PZ {α:Type}:∀(l:List α) (y:α) (K:List α→Prop),Aay l y K↔K (l++[y])
 |[],_,_=>Iff.rfl
 |x::xs,y,K=>PZ xs y fun ys=>K (x::ys)
def WW (s:Aj) (mk:Nat→Nat→AV) (ob:Nat→Obj) (K:AA→Aj→Prop):Prop:=
 Aay s.σ (ob s.ctr) fun σ=>K (.ok (mk s.σ.length s.ctr)) ⟨σ,s.ctr+1⟩
structure eqK {α:Type} (a:α) (K:α→Prop):Prop where
 mk::(h:∃b,a=b∧K b)
theorem AU {α:Type} {a b:α} {K:α→Prop} (h1:a=b) (h:K b):eqK a K:=⟨_,h1,h⟩
def Aa3 (op:BinOp) (k:IntKind) (a b:Int) (K:AV→Prop):Prop:=
 match op with
 | .add=>Ji k (a+b) K
 | .sub=>Ji k (a-b) K
 | .mul=>Ji k (a*b) K
 | .quo=>need (b≠0) (Ji k (a.tdiv b) K)
 | .rem=>need (b≠0) (K (.int k (a.tmod b)))
 | .eql=>OT (a=b) (K (.bool true)) (K (.bool false))
 | .neq=>OT (a=b) (K (.bool false)) (K (.bool true))
 | .lss=>OT (a<b) (K (.bool true)) (K (.bool false))
 | .leq=>OT (a≤b) (K (.bool true)) (K (.bool false))
 | .gtr=>OT (b<a) (K (.bool true)) (K (.bool false))
 | .geq=>OT (b≤a) (K (.bool true)) (K (.bool false))
 | .and=>eqK (k.wrap (BitVec.ofInt k.bits a &&& BitVec.ofInt k.bits b).toNat) fun z=>K (.int k z)
 | .or=>eqK (k.wrap (BitVec.ofInt k.bits a ||| BitVec.ofInt k.bits b).toNat) fun z=>K (.int k z)
 | .xor=>eqK (k.wrap (BitVec.ofInt k.bits a ^^^ BitVec.ofInt k.bits b).toNat) fun z=>K (.int k z)
 | .shl=>need (0≤b) (Ji k (a*2 ^ (min b.toNat k.bits)) K)
 | .shr=>need (0≤b) (eqK (a.fdiv (2 ^ (min b.toNat k.bits))) fun z=>K (.int k z))
 |_=>False
def Aa4 (op:BinOp) (a b:List UInt8) (K:AV→Prop):Prop:=
 match op with
 | .eql=>OT (a=b) (K (.bool true)) (K (.bool false))
 | .neq=>OT (a=b) (K (.bool false)) (K (.bool true))
 | .lss=>KJ (Op.bytesLess a b) (K (.bool true)) (K (.bool false))
 | .leq=>KJ (Op.bytesLess a b||a==b) (K (.bool true)) (K (.bool false))
 | .gtr=>KJ (Op.bytesLess a b||a==b) (K (.bool false)) (K (.bool true))
 | .geq=>KJ (Op.bytesLess a b) (K (.bool false)) (K (.bool true))
 | .add=>need (a.length+b.length<2 ^ 63) (K (.str (a++b)))
 |_=>False
def Aep (op:BinOp) (k k':IntKind) (t:Prop):Prop:=match op with
 | .shl=>t
 | .shr=>t
 |_=>need (k=k') t
theorem Acf {op:BinOp} {k k':IntKind} {t:Prop} (h:Aep op k k' t):(k=k'∨op=.shl∨op=.shr)∧t:=by
 unfold Aep at h
 split at h
 ·exact⟨.inr (.inl rfl),h⟩
 ·exact⟨.inr (.inr rfl),h⟩
 ·exact⟨.inl h.1,h.2⟩
theorem Agc {op:BinOp} {k k':IntKind} {t:I9} {a b:Int} (h:k=k'∨op=.shl∨op=.shr):bin op t (.int k a) (.int k' b)=Ju op k a b:=by
 simp only[bin]
 split
 ·rfl
 ·rename_i hk
  rcases h with h|rfl|rfl
  ·exact absurd h hk
  ·rfl
  ·rfl
def Ais (op:BinOp) (t:I9) (x y:AV) (K:AV→Prop):Prop:=
 match x,y with
 | .int k a,.int k' b=>Aep op k k' (Aa3 op k a b K)
 | .str a,.str b=>Aa4 op a b K
 |x,y=>LC (bin op t x y) fun v=>settle v K
theorem ZR {op:BinOp} {t:I9} {x y:AV} {K:AV→Prop} (h:Ais op t x y K):∃v,bin op t x y=some v∧K v:=by
 unfold Ais at h
 split at h
 ·rename_i k a k' b
  obtain⟨hk,h⟩:=Acf h
  rw[Agc hk]
  unfold Aa3 at h
  cases op<;>simp only at h
  case add=>obtain⟨y,h1,h2⟩:=h;exact⟨_,rfl,by rw[h1];exact h2⟩
  case sub=>obtain⟨y,h1,h2⟩:=h;exact⟨_,rfl,by rw[h1];exact h2⟩
  case mul=>obtain⟨y,h1,h2⟩:=h;exact⟨_,rfl,by rw[h1];exact h2⟩
  case quo=>obtain⟨h0,y,h1,h2⟩:=h;exact⟨_,by simp only[Ju,if_neg h0];rfl,by rw[h1];exact h2⟩
  case rem=>obtain⟨h0,h2⟩:=h;exact⟨_,by simp only[Ju,if_neg h0],h2⟩
  case and=>obtain⟨z,rfl,h2⟩:=h;exact⟨_,rfl,h2⟩
  case or=>obtain⟨z,rfl,h2⟩:=h;exact⟨_,rfl,h2⟩
  case xor=>obtain⟨z,rfl,h2⟩:=h;exact⟨_,rfl,h2⟩
  case shl=>obtain⟨h0,y,h1,h2⟩:=h;exact⟨_,by simp only[Ju,if_neg (Int.not_lt.2 h0)];rfl,by rw[h1];exact h2⟩
  case shr=>obtain⟨h0,z,rfl,h2⟩:=h;exact⟨_,by simp only[Ju,if_neg (Int.not_lt.2 h0)],h2⟩
  case eql=>
   by_cases c:a=b
   ·exact⟨_,rfl,by have:=h.1 c;simpa only[c,beq_self_eq_true,bne_self_eq_false,Bool.not_true]using this⟩
   ·exact⟨_,rfl,by have:=h.2 c;simpa only[bne,beq_false_of_ne c,Bool.not_false]using this⟩
  case neq=>
   by_cases c:a=b
   ·exact⟨_,rfl,by have:=h.1 c;simpa only[c,beq_self_eq_true,bne_self_eq_false,Bool.not_true]using this⟩
   ·exact⟨_,rfl,by have:=h.2 c;simpa only[bne,beq_false_of_ne c,Bool.not_false]using this⟩
  case lss=>
   by_cases c:a<b
   ·exact⟨_,rfl,by simpa[c]using h.1 c⟩
   ·exact⟨_,rfl,by simpa[c]using h.2 c⟩
  case leq=>
   by_cases c:a≤b
   ·exact⟨_,rfl,by simpa[c]using h.1 c⟩
   ·exact⟨_,rfl,by simpa[c]using h.2 c⟩
  case gtr=>
   by_cases c:b<a
   ·exact⟨_,rfl,by simpa[c]using h.1 c⟩
   ·exact⟨_,rfl,by simpa[c]using h.2 c⟩
  case geq=>
   by_cases c:b≤a
   ·exact⟨_,rfl,by simpa[c]using h.1 c⟩
   ·exact⟨_,rfl,by simpa[c]using h.2 c⟩
 ·rename_i a b
  simp only[bin]
  unfold Aa4 at h
  cases op<;>simp only at h
  case add=>obtain⟨h0,h2⟩:=h;exact⟨_,by simp only[Y6,if_pos h0],h2⟩
  case eql=>
   by_cases c:a=b
   ·exact⟨_,rfl,by have:=h.1 c;simpa only[c,beq_self_eq_true,bne_self_eq_false,Bool.not_true]using this⟩
   ·exact⟨_,rfl,by have:=h.2 c;simpa only[bne,beq_false_of_ne c,Bool.not_false]using this⟩
  case neq=>
   by_cases c:a=b
   ·exact⟨_,rfl,by have:=h.1 c;simpa only[c,beq_self_eq_true,bne_self_eq_false,Bool.not_true]using this⟩
   ·exact⟨_,rfl,by have:=h.2 c;simpa only[bne,beq_false_of_ne c,Bool.not_false]using this⟩
  case lss=>cases c:Op.bytesLess a b<;>rw[c]at h<;>exact⟨_,rfl,by rw[c];exact h⟩
  case leq=>cases c:(Op.bytesLess a b||a==b)<;>rw[c]at h<;>exact⟨_,rfl,by rw[c];exact h⟩
  case gtr=>cases c:(Op.bytesLess a b||a==b)<;>rw[c]at h<;>exact⟨_,rfl,by rw[c];exact h⟩
  case geq=>cases c:Op.bytesLess a b<;>rw[c]at h<;>exact⟨_,rfl,by rw[c];exact h⟩
 ·obtain⟨v,h1,h2⟩:=h
  exact⟨v,h1,(Uh v K).1 h2⟩
end AI
end Go.Proofs.YtchcadfjbkkgmaaGreatDoor
namespace Go.Proofs.YtchcadfjbkkgmaaGreatDoor
namespace AI
open Go.RowKit
variable {AP:Nat→Option Hy}
def done (v:AV) (s:Aj) (K:AA→Aj→Prop):Prop:=settle v fun v=>K (.ok v) s
def Aeq:Aw:=fun _ _ _=>none
def Ym (o:BP) (env:Env) (s:Aj) (K:AA→Aj→Prop):Prop:=
 LC (Ag Aeq o env s) fun r=>match r with
    |(.ok v,s')=>done v s' K
    |(.Ef v,s')=>K (.Ef v) s'
def Aa5 (σ:List Obj) (n:Nat) (r:AV) (R:AV→Prop):Prop:=match r with
 | .own o g off len=>match n with
   |0=>False
   |n+1=>match nth σ o with
    |some (.arr g' _ nn cl elems)=>match cl with
     |true=>need (g=g'∧off+len≤elems.length) (eqK (sub elems off len) fun xs=>R (.sl nn xs))
     |false=>LC (snap σ (n+1) (.own o g off len)) R
    |_=>False
 |r=>LC (snap σ n r) R
theorem QE {σ:List Obj} {n:Nat} {r:AV} {R:AV→Prop} (h:Aa5 σ n r R):∃v,snap σ n r=some v∧R v:=by
 unfold Aa5 at h
 split at h
 ·rename_i o g off len
  split at h
  ·cases h
  ·split at h
   ·rename_i g' es nn cl elems ho
    split at h
    ·obtain⟨h1,xs,rfl,h2⟩:=h
     refine⟨_,?_,h2⟩
     simp only[snap,ho,if_pos h1,if_true]
    ·obtain⟨v,h1,h2⟩:=h;exact⟨v,h1,h2⟩
   ·cases h
 ·obtain⟨v,h1,h2⟩:=h;exact⟨v,h1,h2⟩
def Ui (σ:List Obj):Nat→List AV→(List AV→Prop)→Prop
 |_,[],K=>K []
 |0,_::_,_=>False
 |n+1,v::vs,K=>Aa5 σ n v fun a=>Ui σ n vs fun r=>K (a::r)
theorem Il {σ:List Obj}:∀{n:Nat} {vs:List AV} {K:List AV→Prop},Ui σ n vs K→∃r,G5 σ n vs=some r∧K r
 |n,[],K,h=>⟨[],by cases n<;>rfl,by cases n<;>exact h⟩
 |0,_::_,_,h=>by cases h
 |n+1,v::vs,K,h=>by
  obtain⟨a,h1,h2⟩:=QE h
  obtain⟨r,h3,h4⟩:=Il h2
  exact⟨_,by simp only[G5,h1,h3],h4⟩
def Aa6 (σ:List Obj) (n:Nat) (r:AV) (R:AV→Prop):Prop:=match r with
 | .Ce cs=>match n with
   |0=>False
   |n+1=>Ui σ n cs fun vs=>R (.Ce vs)
 | .agg cs=>match n with
   |0=>False
   |n+1=>Ui σ n cs fun vs=>R (.agg vs)
 |r=>Aa5 σ n r R
theorem Yn {σ:List Obj} {n:Nat} {r:AV} {R:AV→Prop} (h:Aa6 σ n r R):∃v,snap σ n r=some v∧R v:=by
 unfold Aa6 at h
 split at h
 ·split at h
  ·cases h
  ·obtain⟨vs,h1,h2⟩:=Il h
   exact⟨_,by simp only[snap,h1,Option.map_some],h2⟩
 ·split at h
  ·cases h
  ·obtain⟨vs,h1,h2⟩:=Il h
   exact⟨_,by simp only[snap,h1,Option.map_some],h2⟩
 ·exact QE h
def Aer (AP:Nat→Option Hy) (m:Mode) (f:Nat) (args:List AV) (s:Aj) (K:AA→Aj→Prop):Prop:=
 match m with
 | .pure=>need (EZ args=true) (Aa2 AP f args fun v=>done v s K)
 | .borrow=>Ui s.σ EY args fun args'=>Aa2 AP f args' fun v=>need (v.scalar=true) (done v s K)
 | .share=>D6 AP f args s fun out s'=>match out with
   | .ok r=>LC (compact s.σ.length r s') fun r=>done r.1 r.2 K
   | .Ef v=>need (v.closed=true) (K (.Ef v) ⟨s'.σ.take s.σ.length,s'.ctr⟩)
 | .own=>∃N r s',Bc (run AP N) .own f args s=some (.ok r,s')∧done r s' K
 | .keep=>D6 AP f args s fun out s'=>match out with
   | .ok r=>done r s' K
   | .Ef v=>K (.Ef v) s'
structure WJ (g g' es es' len:Nat) (nn cl c:Bool) (elems ys:List AV) (bytes:Nat) (K:Nat→Bool→Bool→List AV→Prop):Prop where
 mk::(h:(g=g'∧es=es'∧len≤elems.length∧Bj es ys∧roomy bytes (len+ys.length))∧K (len+ys.length) (nn||!ys.isEmpty) (cl&&c) (elems.take len++ys))
def Ait (a b:Bool) (K:Bool→Prop):Prop:=match b with
 |true=>K a
 |false=>K false
theorem Yo (a b:Bool) (K:Bool→Prop):Ait a b K↔K (a&&b):=by cases a<;>cases b<;>exact Iff.rfl
def Aes (b:Bool) (K:Bool→Prop):Prop:=match b with
 |true=>K true
 |false=>K false
theorem ZT (b:Bool) (K:Bool→Prop):Aes b K↔K b:=by cases b<;>exact Iff.rfl
def Aa7 (env:Env):List (Nat×AO)→(List (Nat×AV)→Prop)→Prop
 |[],K=>K []
 |(j,x)::ps,K=>(x.val env).force fun v=>Aa7 env ps fun r=>K ((j,v)::r)
theorem Vu (env:Env):∀(ps:List (Nat×AO)) (K:List (Nat×AV)→Prop),Aa7 env ps K↔K (P8 env ps)
 |[],_=>Iff.rfl
 |(j,x)::ps,K=>by simp only[Aa7,force_eq,P8];exact Vu env ps _
def F6 (z:AV):Nat→List (Nat×AV)→Nat→(List AV→Prop)→Prop
 |0,_,_,K=>K []
 |n+1,[],i,K=>F6 z n [] (i+1) fun r=>K (z::r)
 |n+1,(j,v)::ps,i,K=>bif Nat.beq i j then F6 z n ps (i+1) fun r=>K (v::r)else F6 z n ((j,v)::ps) (i+1) fun r=>K (z::r)
theorem GY (z:AV):∀(n:Nat) (ps:List (Nat×AV)) (i:Nat) (K:List AV→Prop),F6 z n ps i K↔K (BF z n ps i)
 |0,_,_,_=>by simp only[F6,BF]
 |n+1,[],i,K=>by simp only[F6,BF];exact GY z n [] (i+1) _
 |n+1,(j,v)::ps,i,K=>by
  simp only[F6,BF]
  cases Nat.beq i j
  ·exact GY z n _ (i+1) _
  ·exact GY z n _ (i+1) _
def ZU (es:Nat) (v:AV) (s:Aj) (K:List AV→Bool→Prop):Prop:=match v with
 | .sl _ xs=>K xs true
 | .zc=>K [] true
 |v=>LC (elemsOf s es v) fun r=>K r.1 r.2
theorem WX {es:Nat} {v:AV} {s:Aj} {K:List AV→Bool→Prop} (h:ZU es v s K):∃ys c,elemsOf s es v=some (ys,c)∧K ys c:=by
 unfold ZU at h
 split at h
 ·exact⟨_,_,rfl,h⟩
 ·exact⟨_,_,rfl,h⟩
 ·obtain⟨⟨ys,c⟩,h1,h2⟩:=h
  exact⟨ys,c,h1,h2⟩
def Agd (off j:Nat) (K:Nat→Prop):Prop:=match off with
 |0=>K j
 |n+1=>K (n+1+j)
theorem Yp (off j:Nat) (K:Nat→Prop):Agd off j K↔K (off+j):=by
 cases off with
 |zero=>simp[Agd]
 |succ n=>exact Iff.rfl
structure Nb (t:I9) (k:AV) (ents:List (AV×AV)) (K:Option (Nat×AV)→Prop):Prop where
 mk::(h:∃r,findKey t k ents 0=some r∧K r)
def Aet (k v:AV) (ents:List (AV×AV)) (r:Option (Nat×AV)):List (AV×AV):=match r with
 |some (i,_)=>ents.set i (k,v)
 |none=>ents++[(k,v)]
structure XH (t:I9) (k v:AV) (ents:List (AV×AV)) (K:List (AV×AV)→Prop):Prop where
 mk::(h:∃r,findKey t k ents 0=some r∧K (Aet k v ents r))
def WY (env:Env) (d:Nat) (x:Option AO) (K:Nat→Prop):Prop:=match x with
 |none=>K d
 |some x=>match x.val env with
  | .int _ n=>need (0≤n) (K n.toNat)
  |_=>False
def Rw (env:Env) (len:Nat) (lo hi:Option AO) (K:Nat→Nat→Prop):Prop:=
 WY env len hi fun h=>WY env 0 lo fun l=>need (l≤h∧h≤len) (K l h)
theorem Pm {env:Env} {d:Nat} {x:Option AO} {K:Nat→Prop} (h:WY env d x K):∃n,(match x with|none=>some d|some x=>bound (x.val env))=some n∧K n:=by
 unfold WY at h
 split at h
 ·exact⟨d,rfl,h⟩
 ·rename_i x
  split at h
  ·rename_i k n hv
   exact⟨n.toNat,by simp only[hv,bound,if_pos h.1],h.2⟩
  ·cases h
theorem Jz {env:Env} {len:Nat} {lo hi:Option AO} {K:Nat→Nat→Prop} (h:Rw env len lo hi K):∃l u,bounds env len lo hi=some (l,u)∧K l u:=by
 obtain⟨u,h1,h2⟩:=Pm h
 obtain⟨l,h3,h4,h5⟩:=Pm h2
 refine⟨l,u,?_,h5⟩
 unfold bounds
 cases hi<;>cases lo<;>simp_all
def KA (AP:Nat→Option Hy) (o:BP) (env:Env) (s:Aj) (K:AA→Aj→Prop):Prop:=
 match o with
 | .YH x=>done (x.val env) s K
 | .Jw es=>WW s (fun o g=>.own o g 0 0) (fun g=>.arr g es false true []) K
 | .Kz off e2 es cs=>match nth cs off with
   |some (.sl false [])=>need (0<e2) (WW s (fun o g=>.own o g 0 0) (fun g=>.arr g e2 false true []) fun out s1=>match out with
        | .ok v=>WW s1 (fun o g=>.ref o g 0 0) (fun g=>.arr g es true (AV.agg (cs.set off v)).closed [.agg (cs.set off v)]) K
        | .Ef _=>False)
   |_=>False
 | .pick c a b=>match c.val env with
   | .bool c=>KJ c (done (a.val env) s K) (done (b.val env) s K)
   |_=>False
 | .alloc es z=>WW s (fun o g=>.ref o g 0 0) (fun g=>.arr g es true z.closed [z]) K
 | .box es x=>(x.val env).force fun v=>need ((v.storable&&v.cells.length==es)=true) (WW s (fun o g=>.ref o g 0 0) (fun g=>.arr g es true v.closed [v]) K)
 | .build z parts=>LC (Ec z (J8 env parts)) fun cs=>K (.ok (.agg cs)) s
 | .load sz a=>match a.val env with
   | .BR cs=>LC (loadCells cs sz) fun v=>done v s K
   | .ref o g i off=>match nth s.σ o with
     |some (.arr g' _ _ _ elems)=>need (g=g') (QN elems i fun x=>LC (loadCells (x.cells.drop off) sz) fun v=>done v s K)
     |_=>False
   |_=>False
 | .store sz a x=>match a.val env with
   | .ref o g i off=>match nth s.σ o with
     |some (.arr g' es nn cl elems)=>need (g=g') (QN elems i fun y=>(x.val env).force fun v=>need ((v.storable&&v.cells.length==sz&&off+sz≤es)=true)
       (Ait cl v.closed fun cl'=>eqK (elems.set i (BA y off v)) fun es'=>P5 s.σ o (.arr g' es nn cl' es') fun σ=>K (.ok .undef) ⟨σ,s.ctr⟩))
     |_=>False
   |_=>False
 | .Qh x=>match x.val env with
   | .ref o g i off=>K (.ok (.ref o g i off)) s
   | .BR cs=>K (.ok (.BR cs)) s
   | .fn f cs=>K (.ok (.fn f cs)) s
   |_=>False
 | .bin op t x y=>Ais op t (x.val env) (y.val env) fun v=>K (.ok v) s
 | .un op x=>match op,x.val env with
   | .not,.bool b=>KJ b (K (.ok (.bool false)) s) (K (.ok (.bool true)) s)
   | .neg,.int k n=>Ji k (0-n) fun v=>K (.ok v) s
   |_,_=>False
 | .conv k x=>match x.val env with
   | .int _ n=>Ji k n fun v=>K (.ok v) s
   |_=>False
 | .field off sz x=>match x.val env with
   | .agg cs=>LC (loadCells (cs.drop off) sz) fun v=>done v s K
   |_=>False
 | .Qq off x=>match x.val env with
   | .BR cs=>K (.ok (.BR (cs.drop off))) s
   | .ref o g i off'=>K (.ok (.ref o g i (off'+off))) s
   |_=>False
 | .SC es x i=>match x.val env,i.val env with
   | .sl _ xs,.int _ i=>need (0≤i) (QN xs i.toNat fun v=>need (v.cells.length=es) (K (.ok (.BR v.cells)) s))
   | .own o g off len,.int _ i=>match nth s.σ o with
     |some (.arr g' es' _ _ _)=>need (g=g'∧es=es'∧0≤i∧i<len) (Agd off i.toNat fun j=>K (.ok (.ref o g j 0)) s)
     |_=>False
   |_,_=>False
 | .len k x=>match k,x.val env with
   | .slice,.sl _ xs=>eqK xs.length fun n=>K (.ok (.int .i64 n)) s
   | .slice,.own _ _ _ n=>K (.ok (.int .i64 n)) s
   | .str,.str bs=>K (.ok (.int .i64 bs.length)) s
   | .map,.map o g=>match nth s.σ o with
     |some (.mp g' _ ents)=>need (g=g') (K (.ok (.int .i64 ents.length)) s)
     |_=>False
   | .map,.fmap ents=>K (.ok (.int .i64 ents.length)) s
   |_,_=>Ym (.len k x) env s K
 | .Oj=>WW s (fun o g=>.map o g) (fun g=>.mp g true []) K
 | .lookup t z QZ m k=>match m.val env with
   | .map o g=>match nth s.σ o with
     |some (.mp g' _ ents)=>need (g=g'∧Jc t (k.val env)=true) (Nb t (k.val env) ents fun r=>match r with
      |some (_,v)=>bif QZ then K (.ok (.Ce [v,.bool true])) s else done v s K
      |none=>bif QZ then K (.ok (.Ce [z,.bool false])) s else done z s K)
     |_=>False
   | .fmap ents=>need (Jc t (k.val env)=true) (Nb t (k.val env) ents fun r=>match r with
        |some (_,v)=>bif QZ then K (.ok (.Ce [v,.bool true])) s else done v s K
        |none=>bif QZ then K (.ok (.Ce [z,.bool false])) s else done z s K)
   |_=>Ym (.lookup t z QZ m k) env s K
 | .mapset t m k v=>match m.val env with
   | .map o g=>match nth s.σ o with
     |some (.mp g' cl ents)=>(v.val env).force fun vv=>need (g=g'∧Jc t (k.val env)=true∧vv.storable=true)
       (Ait cl vv.closed fun cl'=>XH t (k.val env) vv ents fun Aab=>P5 s.σ o (.mp g' cl' Aab) fun σ=>K (.ok .undef) ⟨σ,s.ctr⟩)
     |_=>False
   |_=>False
 | .delete t m k=>match m.val env with
   | .map o g=>match nth s.σ o with
     |some (.mp g' cl ents)=>need (g=g'∧Jc t (k.val env)=true) (Nb t (k.val env) ents fun r=>match r with
      |some (i,_)=>P5 s.σ o (.mp g' cl (ents.eraseIdx i)) fun σ=>K (.ok .undef) ⟨σ,s.ctr⟩
      |none=>K (.ok .undef) s)
     |_=>False
   |_=>False
 | .lit own es z len parts=>Aa7 env parts fun ps=>need (Ug es len ps 0=true) (F6 z len ps 0 fun xs=>
    bif own then Aes (Ih ps) fun c=>WW s (fun o g=>.own o g 0 len) (fun g=>.arr g es true c xs) K
    else bif Nat.beq len 0 then K (.ok .zc) s else need (Ih ps=true) (K (.ok (.sl true xs)) s))
 | .Y8 x i=>match x.val env,i.val env with
   | .str bs,.int _ i=>need (0≤i) (QN bs i.toNat fun b=>K (.ok (.int .u8 b.toNat)) s)
   |_,_=>False
 | .slice es x lo hi=>match x.val env with
   | .sl nn xs=>Rw env xs.length lo hi fun l h=>need (Bj es xs) (eqK (sub xs l (h-l)) fun ys=>K (.ok (.sl nn ys)) s)
   | .own o g off len=>match nth s.σ o with
     |some (.arr g' es' _ _ _)=>need (g=g'∧es=es') (Rw env len lo hi fun l h=>Agd off l fun j=>K (.ok (.own o g j (h-l))) s)
     |_=>False
   |_=>Ym (.slice es x lo hi) env s K
 | .Lr x lo hi=>match x.val env with
   | .str bs=>Rw env bs.length lo hi fun l h=>eqK ((bs.drop l).take (h-l)) fun r=>K (.ok (.str r)) s
   |_=>False
 | .append es bytes a x=>ZU es (x.val env) s fun ys c=>match a.val env with
   | .own o g 0 len=>match nth s.σ o with
     |some (.arr g' es' nn cl' elems)=>WJ g g' es es' len nn cl' c elems ys bytes fun n nn cl es'=>P5 s.σ o (.arr s.ctr es nn cl es') fun σ=>K (.ok (.own o s.ctr 0 n)) ⟨σ,s.ctr+1⟩
     |_=>False
   |v=>LC (DU es bytes s v ys c) fun r=>done r.1 r.2 K
 | .Ii es bytes z len cap=>match len.val env,cap.val env with
   | .int _ l,.int _ c=>need (0≤l∧l≤c∧roomy bytes c.toNat) (eqK (List.replicate l.toNat z) fun xs=>WW s (fun o g=>.own o g 0 l.toNat) (fun g=>.arr g es true z.closed xs) K)
   |_,_=>False
 | .ext x i=>match x.val env with
   | .Ce cs=>LC (nth cs i) fun v=>done v s K
   |_=>False
 | .call m f args=>Aer AP m f (vals env args) s K
 | .G6 m x args=>match x.val env with
   | .fn f caps=>Aer AP m f (vals env args++caps) s K
   |_=>False
 |o=>Ym o env s K
theorem Acg (C:Aw):Eo Aeq C:=fun _ _ _ _ h=>by cases h
theorem CG (v:AV) (s:Aj) (K:AA→Aj→Prop):done v s K↔K (.ok v) s:=Uh v _
theorem Jq {o:BP} {env:Env} {s:Aj} {K:AA→Aj→Prop} (h:Ym o env s K):Op1 AP o env s K:=by
 obtain⟨⟨out,s'⟩,h1,h2⟩:=h
 refine⟨0,out,s',BL (Acg _) h1,?_⟩
 cases out with
 |ok v=>exact(CG v s' K).1 h2
 |Ef v=>exact h2
theorem QF {m:Mode} {f:Nat} {args:List AV} {s:Aj} {K:AA→Aj→Prop} (h:Aer AP m f args s K):∃N out s',Bc (run AP N) m f args s=some (out,s')∧K out s':=by
 cases m with
 |pure=>
  obtain⟨hc,v,⟨N,hp⟩,hk⟩:=h
  exact⟨N,.ok v,s,by simp only[Bc,if_pos hc,hp,Option.map_some],(CG v s K).1 hk⟩
 |borrow=>
  obtain⟨args',ha,v,⟨N,hp⟩,hs,hk⟩:=Il h
  exact⟨N,.ok v,s,by simp only[Bc,ha,hp,if_pos hs],(CG v s K).1 hk⟩
 |share=>
  obtain⟨N,out,s',hr,hk⟩:=h
  cases out with
  |ok r=>
   obtain⟨⟨r',s''⟩,h1,h2⟩:=hk
   exact⟨N,.ok r',s'',by simp only[Bc,hr,h1,Option.map_some],(CG r' s'' K).1 h2⟩
  |Ef v=>
   obtain⟨h1,h2⟩:=hk
   exact⟨N,.Ef v,_,by simp only[Bc,hr,if_pos h1],h2⟩
 |own=>
  obtain⟨N,r,s',h1,h2⟩:=h
  exact⟨N,.ok r,s',h1,(CG r s' K).1 h2⟩
 |keep=>
  obtain⟨N,out,s',hr,hk⟩:=h
  cases out with
  |ok r=>exact⟨N,.ok r,s',hr,(CG r s' K).1 hk⟩
  |Ef v=>exact⟨N,.Ef v,s',hr,hk⟩
theorem Ho {s:Aj} {mk:Nat→Nat→AV} {ob:Nat→Obj} {K:AA→Aj→Prop}:WW s mk ob K↔K (.ok (mk s.σ.length s.ctr)) (push s (ob s.ctr)):=PZ _ _ _
theorem Iu {o:BP} {env:Env} {s:Aj} {K:AA→Aj→Prop} (h:KA AP o env s K):Op1 AP o env s K:=by
 cases o
 case YH x=>exact⟨0,_,_,rfl,(CG _ _ _).1 h⟩
 case Jw es=>simp only[KA]at h;exact⟨0,_,_,rfl,Ho.1 h⟩
 case Kz off e2 es cs=>
  simp only[KA]at h
  split at h
  case h_2=>cases h
  rename_i hoff
  obtain⟨he,h⟩:=h
  have h:=Ho.1 h
  have h:=Ho.1 h
  refine⟨0,_,_,?_,h⟩
  simp only[Ag,hoff,if_pos he]
  simp[push]
 case pick c a b=>
  simp only[KA]at h
  split at h
  ·rename_i c' hc
   cases c'
   ·exact⟨0,_,_,by simp only[Ag,hc],(CG _ _ _).1 h⟩
   ·exact⟨0,_,_,by simp only[Ag,hc],(CG _ _ _).1 h⟩
  ·cases h
 case alloc es z=>simp only[KA]at h;exact⟨0,_,_,rfl,Ho.1 h⟩
 case box es x=>
  simp only[KA,force_eq]at h
  obtain⟨h1,h2⟩:=h
  exact⟨0,_,_,by simp only[Ag,if_pos h1],Ho.1 h2⟩
 case build z ps=>
  obtain⟨cs,h1,h2⟩:=h
  exact⟨0,_,_,by simp only[Ag,h1,Option.map_some],h2⟩
 case load sz a=>
  simp only[KA]at h
  split at h
  ·rename_i cs hv
   obtain⟨v,h1,h2⟩:=h
   exact⟨0,_,_,by simp only[Ag,hv,ok,h1,Option.map_some],(CG _ _ _).1 h2⟩
  ·rename_i o g i off hv
   split at h
   ·rename_i g' es nn cl elems ho
    obtain⟨hg,x,hx,v,h1,h2⟩:=h
    exact⟨0,_,_,by simp only[Ag,hv,ho,if_pos hg,hx,ok,h1,Option.map_some],(CG _ _ _).1 h2⟩
   ·cases h
  ·cases h
 case store sz a x=>
  simp only[KA]at h
  split at h
  ·rename_i o g i off hv
   split at h
   ·rename_i g' es nn cl elems ho
    obtain⟨hg,y,hy,h⟩:=h
    rw[force_eq]at h
    obtain⟨h1,h2⟩:=h
    rw[Yo]at h2
    obtain⟨es',rfl,h2⟩:=h2
    rw[Dh]at h2
    exact⟨0,_,_,by simp only[Ag,hv,ho,if_pos hg,hy,h1,if_true],h2⟩
   ·cases h
  ·cases h
 case Qh x=>
  simp only[KA]at h
  split at h
  ·rename_i hv;exact⟨0,_,_,by simp only[Ag,hv],h⟩
  ·rename_i hv;exact⟨0,_,_,by simp only[Ag,hv],h⟩
  ·rename_i hv;exact⟨0,_,_,by simp only[Ag,hv],h⟩
  ·cases h
 case bin op t x y=>
  obtain⟨v,h1,h2⟩:=ZR h
  exact⟨0,_,_,by simp only[Ag,ok,h1,Option.map_some],h2⟩
 case un op x=>
  simp only[KA]at h
  split at h
  ·rename_i b hv
   cases b
   ·exact⟨0,_,_,by simp only[Ag,hv,Bool.not_false],h⟩
   ·exact⟨0,_,_,by simp only[Ag,hv,Bool.not_true],h⟩
  ·rename_i k n hv
   obtain⟨y,h1,h2⟩:=h
   exact⟨0,_,_,by simp only[Ag,hv,h1],h2⟩
  ·cases h
 case conv k x=>
  simp only[KA]at h
  split at h
  ·rename_i k' n hv
   obtain⟨y,h1,h2⟩:=h
   exact⟨0,_,_,by simp only[Ag,hv,h1],h2⟩
  ·cases h
 case field off sz x=>
  simp only[KA]at h
  split at h
  ·rename_i cs hv
   obtain⟨v,h1,h2⟩:=h
   exact⟨0,_,_,by simp only[Ag,hv,ok,h1,Option.map_some],(CG _ _ _).1 h2⟩
  ·cases h
 case Qq off x=>
  simp only[KA]at h
  split at h
  ·rename_i hv;exact⟨0,_,_,by simp only[Ag,hv],h⟩
  ·rename_i hv;exact⟨0,_,_,by simp only[Ag,hv],h⟩
  ·cases h
 case SC es x i=>
  simp only[KA]at h
  split at h
  ·rename_i nn xs k n hx hi
   obtain⟨h0,v,h1,h2,h3⟩:=h
   exact⟨0,_,_,by simp only[Ag,hx,hi,if_pos h0,h1,if_pos h2],h3⟩
  ·rename_i o g off len k n hx hi
   split at h
   ·rename_i g' es' nn cl elems ho
    obtain⟨h1,h2⟩:=h
    rw[Yp]at h2
    exact⟨0,_,_,by simp only[Ag,hx,hi,ho,if_pos h1],h2⟩
   ·cases h
  ·cases h
 case len k x=>
  simp only[KA]at h
  split at h
  ·rename_i hv
   obtain⟨n,rfl,h⟩:=h
   exact⟨0,_,_,by simp only[Ag,hv],h⟩
  ·rename_i hv;exact⟨0,_,_,by simp only[Ag,hv],h⟩
  ·rename_i hv;exact⟨0,_,_,by simp only[Ag,hv],h⟩
  ·rename_i o g hv
   split at h
   ·rename_i g' cl ents ho
    obtain⟨h1,h2⟩:=h
    exact⟨0,_,_,by simp only[Ag,hv,ho,if_pos h1],h2⟩
   ·cases h
  ·rename_i hv;exact⟨0,_,_,by simp only[Ag,hv],h⟩
  ·exact Jq h
 case Y8 x i=>
  simp only[KA]at h
  split at h
  ·rename_i bs k n hx hi
   obtain⟨h1,b,h2,h3⟩:=h
   exact⟨0,_,_,by simp only[Ag,hx,hi,if_pos h1,h2],h3⟩
  ·cases h
 case slice es x lo hi=>
  simp only[KA]at h
  split at h
  ·rename_i nn xs hx
   obtain⟨l,u,h1,h2,ys,rfl,h3⟩:=Jz h
   exact⟨0,_,_,by simp only[Ag,hx,h1,if_pos h2],h3⟩
  ·rename_i o g off len hx
   split at h
   ·rename_i g' es' nn cl elems ho
    obtain⟨hg,h⟩:=h
    obtain⟨l,u,h1,h2⟩:=Jz h
    rw[Yp]at h2
    exact⟨0,_,_,by simp only[Ag,hx,ho,if_pos hg,h1],h2⟩
   ·cases h
  ·exact Jq h
 case Lr x lo hi=>
  simp only[KA]at h
  split at h
  ·rename_i bs hx
   obtain⟨l,u,h1,r,rfl,h2⟩:=Jz h
   exact⟨0,_,_,by simp only[Ag,hx,h1],h2⟩
  ·cases h
 case Oj=>simp only[KA]at h;exact⟨0,_,_,rfl,Ho.1 h⟩
 case lookup t z QZ m k=>
  simp only[KA]at h
  split at h
  ·rename_i o g hv
   split at h
   ·rename_i g' cl ents ho
    obtain⟨h1,r,h2,h3⟩:=h
    cases r with
    |none=>
     cases QZ
     ·exact⟨0,_,_,by simp only[Ag,hv,ho,if_pos h1,h2];rfl,(CG _ _ _).1 h3⟩
     ·exact⟨0,_,_,by simp only[Ag,hv,ho,if_pos h1,h2];rfl,h3⟩
    |some p=>
     cases QZ
     ·exact⟨0,_,_,by simp only[Ag,hv,ho,if_pos h1,h2];rfl,(CG _ _ _).1 h3⟩
     ·exact⟨0,_,_,by simp only[Ag,hv,ho,if_pos h1,h2];rfl,h3⟩
   ·cases h
  ·rename_i ents hv
   obtain⟨h1,r,h2,h3⟩:=h
   cases r with
   |none=>
    cases QZ
    ·exact⟨0,_,_,by simp only[Ag,hv,if_pos h1,h2];rfl,(CG _ _ _).1 h3⟩
    ·exact⟨0,_,_,by simp only[Ag,hv,if_pos h1,h2];rfl,h3⟩
   |some p=>
    cases QZ
    ·exact⟨0,_,_,by simp only[Ag,hv,if_pos h1,h2];rfl,(CG _ _ _).1 h3⟩
    ·exact⟨0,_,_,by simp only[Ag,hv,if_pos h1,h2];rfl,h3⟩
  ·exact Jq h
 case mapset t m k v=>
  simp only[KA]at h
  split at h
  ·rename_i o g hv
   split at h
   ·rename_i g' cl ents ho
    rw[force_eq]at h
    obtain⟨h1,h2⟩:=h
    rw[Yo]at h2
    obtain⟨r,h2,h3⟩:=h2
    rw[Dh]at h3
    cases r with
    |none=>exact⟨0,_,_,by simp only[Ag,hv,ho,if_pos h1,h2];rfl,h3⟩
    |some p=>exact⟨0,_,_,by simp only[Ag,hv,ho,if_pos h1,h2];rfl,h3⟩
   ·cases h
  ·cases h
 case delete t m k=>
  simp only[KA]at h
  split at h
  ·rename_i o g hv
   split at h
   ·rename_i g' cl ents ho
    obtain⟨h1,r,h2,h3⟩:=h
    cases r with
    |none=>exact⟨0,_,_,by simp only[Ag,hv,ho,if_pos h1,h2],h3⟩
    |some p=>
     simp only at h3
     rw[Dh]at h3
     exact⟨0,_,_,by simp only[Ag,hv,ho,if_pos h1,h2],h3⟩
   ·cases h
  ·cases h
 case lit own es z len parts=>
  simp only[KA,Vu]at h
  obtain⟨h1,h2⟩:=h
  rw[GY]at h2
  cases own
  ·rw[cond_false]at h2
   cases hb:Nat.beq len 0
   ·rw[hb,cond_false]at h2
    have hne:len≠0:=fun e=>by subst e;simp at hb
    exact⟨0,_,_,by simp only[Ag,if_pos h1,if_neg hne,if_pos h2.1];rfl,h2.2⟩
   ·rw[hb,cond_true]at h2
    have he:len=0:=Nat.eq_of_beq_eq_true hb
    exact⟨0,_,_,by simp only[Ag,if_pos h1,if_pos he];rfl,h2⟩
  ·rw[cond_true,ZT]at h2
   exact⟨0,_,_,by simp only[Ag,if_pos h1,if_true],Ho.1 h2⟩
 case append es bytes a x=>
  simp only[KA]at h
  obtain⟨ys,cl,h1,h⟩:=WX h
  split at h
  ·rename_i o g len hv
   split at h
   ·rename_i g' es' nn cl' elems ho
    obtain⟨h2,h3⟩:=h
    rw[Dh]at h3
    exact⟨0,_,_,by simp only[Ag,h1,hv,DU,ho,if_pos h2,Option.map_some],h3⟩
   ·cases h
  ·obtain⟨⟨v,s'⟩,h2,h3⟩:=h
   exact⟨0,_,_,by simp only[Ag,h1,h2,Option.map_some],(CG _ _ _).1 h3⟩
 case Ii es bytes z len cap=>
  simp only[KA]at h
  split at h
  ·rename_i k l k' c hl hc
   obtain⟨h1,xs,rfl,h2⟩:=h
   exact⟨0,_,_,by simp only[Ag,hl,hc,if_pos h1],Ho.1 h2⟩
  ·cases h
 case ext x i=>
  simp only[KA]at h
  split at h
  ·rename_i cs hv
   obtain⟨v,h1,h2⟩:=h
   exact⟨0,_,_,by simp only[Ag,hv,ok,h1,Option.map_some],(CG _ _ _).1 h2⟩
  ·cases h
 case call m f args=>exact QF h
 case G6 m x args=>
  simp only[KA]at h
  split at h
  ·rename_i f caps hv
   obtain⟨N,out,s',h1,h2⟩:=QF h
   exact⟨N,out,s',by simp only[Ag,hv];exact h1,h2⟩
  ·cases h
 all_goals exact Jq h
end AI
end Go.Proofs.YtchcadfjbkkgmaaGreatDoor
namespace Go.Proofs.YtchcadfjbkkgmaaGreatDoor
namespace AI
open Go.RowKit
variable {AP:Nat→Option Hy}
def FD (g:Option (Nat×Bool)) (env:Env) (t e:Prop):Prop:=match g with
 |none=>t
 |some (r,b)=>match env.get r with
  | .bool b'=>KJ (b'==b) t e
  | .undef=>e
  |_=>False
def Aeu (k:Env→Aj→Prop) (d:Option Nat) (env:Env) (Q:AB→Env→Aj→Prop) (out:AA) (s:Aj):Prop:=match out with
 | .ok v=>k (put d v env) s
 | .Ef v=>Q (.Ef v) env s
def Yq (AP:Nat→Option Hy) (ops:List Az):Env→Aj→(AB→Env→Aj→Prop)→Prop:=
 List.rec (motive:=fun _=>Env→Aj→(AB→Env→Aj→Prop)→Prop) (fun env s Q=>Q .normal env s)
    (fun o _ ih env s Q=>FD o.guard env (KA AP o.op env s (Aeu (fun env s=>ih env s Q) o.dst env Q)) (ih (put o.dst .undef env) s Q)) ops
theorem Ach (o:Az) (os:List Az) (env:Env) (s:Aj) (Q:AB→Env→Aj→Prop):Yq AP (o::os) env s Q=FD o.guard env
 (KA AP o.op env s (Aeu (fun env s=>Yq AP os env s Q) o.dst env Q))
 (Yq AP os (put o.dst .undef env) s Q):=rfl
theorem Gz:∀{os:List Az} {env:Env} {s:Aj} {Q:AB→Env→Aj→Prop},Yq AP os env s Q→Ops AP os env s Q
 |[],env,s,Q,h=>⟨0,_,_,_,rfl,h⟩
 |o::os,env,s,Q,h=>by
  have I5:wanted o.guard env=some false→Yq AP os (put o.dst .undef env) s Q→Ops AP (o::os) env s Q:=by
   intro hw h
   obtain⟨N,e,env',s',h1,h2⟩:=Gz h
   exact⟨N,e,env',s',by simp only[Dc,hw];exact h1,h2⟩
  have hdo:wanted o.guard env=some true→KA AP o.op env s (Aeu (fun env s=>Yq AP os env s Q) o.dst env Q)→Ops AP (o::os) env s Q:=by
   intro hw h
   obtain⟨N,out,s1,h1,h2⟩:=Iu h
   cases out with
   |ok v=>
    obtain⟨N',e,env',s',h3,h4⟩:=Gz h2
    refine⟨max N N',e,env',s',?_,h4⟩
    simp only[Dc,hw,BL (BJ (Nat.le_max_left N N')) h1]
    exact EO (BJ (Nat.le_max_right N N')) h3
   |Ef v=>exact⟨N,_,_,_,by simp only[Dc,hw,h1],h2⟩
  rw[Ach]at h
  unfold FD at h
  split at h
  ·rename_i hg
   exact hdo (by rw[hg];rfl) h
  ·rename_i r b hg
   split at h
   ·rename_i b' hb
    cases hbb:(b'==b)
    ·rw[hbb]at h
     exact I5 (by rw[hg];simp only[wanted,hb,hbb]) h
    ·rw[hbb]at h
     exact hdo (by rw[hg];simp only[wanted,hb,hbb]) h
   ·rename_i hb
    exact I5 (by rw[hg];simp only[wanted,hb]) h
   ·cases h
def KC:List Nat→Env→(Env→Prop)→Prop
 |[],_,K=>K []
 |t::ts,env,K=>(env.get t).force fun v=>KC ts env fun e=>K ((t,v)::e)
theorem EP:∀(ts:List Nat) (env:Env) (K:Env→Prop),KC ts env K↔K (commit env ts)
 |[],_,_=>Iff.rfl
 |t::ts,env,K=>by
  simp only[KC,force_eq,commit]
  exact EP ts env _
def Uj:List Nat→Env→Aj→(Env→Aj→Prop)→Prop
 |[],env,s,K=>K env s
 |t::ts,env,s,K=>match env.get t with
  | .own o g off len=>match nth s.σ o with
    |some (.arr g' _ nn cl elems)=>need (g=g'∧cl=true∧off+len≤elems.length) (eqK (sub elems off len) fun xs=>P5 s.σ o .dead fun σ=>Uj ts ((t,.sl nn xs)::env) ⟨σ,s.ctr⟩ K)
    |_=>False
  | .ref o g i off=>match nth s.σ o with
    |some (.arr g' _ nn cl elems)=>match cl,elems with
     |false,[x]=>match ML x.cells 0 with
      |some (k,o2,g2,a2,n2)=>match nth s.σ o2 with
       |some (.arr g3 _ nn3 cl3 IV)=>need ((g=g'∧i=0∧off=0∧g2=g3∧o2≠o∧a2+n2≤IV.length∧cl3=true)∧EZ (x.cells.set k (.sl nn3 (sub IV a2 n2)))=true) (eqK (sub IV a2 n2) fun xs=>P5 s.σ o2 .dead fun σ1=>P5 σ1 o .dead fun σ2=>Uj ts ((t,.BR (x.cells.set k (.sl nn3 xs)))::env) ⟨σ2,s.ctr⟩ K)
       |_=>False
      |none=>False
     |cl,elems=>need (g=g'∧cl=true) (QN elems i fun x=>P5 s.σ o .dead fun σ=>Uj ts ((t,.BR (x.cells.drop off))::env) ⟨σ,s.ctr⟩ K)
    |_=>False
  | .map o g=>match nth s.σ o with
    |some (.mp g' cl ents)=>need (g=g'∧cl=true∧XV ents=true) (P5 s.σ o .dead fun σ=>Uj ts ((t,.fmap ents)::env) ⟨σ,s.ctr⟩ K)
    |_=>False
  | .sl nn xs=>Uj ts ((t,.sl nn xs)::env) s K
  | .zc=>Uj ts ((t,.zc)::env) s K
  |_=>False
theorem Ee:∀{ts:List Nat} {env:Env} {s:Aj} {K:Env→Aj→Prop},Uj ts env s K→∃env' s',FZ ts env s=some (env',s')∧K env' s'
 |[],env,s,K,h=>⟨env,s,rfl,h⟩
 |t::ts,env,s,K,h=>by
  simp only[Uj]at h
  split at h
  ·rename_i o g off len hv
   split at h
   ·rename_i g' es nn cl elems ho
    obtain⟨⟨rfl,rfl,hf⟩,xs,rfl,h⟩:=h
    rw[Dh]at h
    obtain⟨env',s',h1,h2⟩:=Ee h
    exact⟨env',s',by simp only[FZ,hv,ho,true_and,if_pos hf];exact h1,h2⟩
   ·cases h
  ·rename_i o g i off hv
   split at h
   ·rename_i g' es nn cl elems ho
    split at h
    ·rename_i x
     split at h
     ·rename_i k o2 g2 a2 n2 hoc
      split at h
      ·rename_i g3 es3 nn3 cl3 IV ho2
       obtain⟨⟨⟨hq1,hq2,hq3,hq4,hq5,hq6,rfl⟩,hcl⟩,xs,rfl,h⟩:=h
       rw[Dh,Dh]at h
       obtain⟨env',s',h1,h2⟩:=Ee h
       refine⟨env',s',?_,h2⟩
       simp only[FZ,hv,ho,hoc,ho2]
       rw[if_pos ⟨hq1,hq2,hq3,hq4,hq5,hq6,hcl⟩]
       exact h1
      ·cases h
     ·cases h
    ·obtain⟨⟨rfl,rfl⟩,⟨x,hx,h⟩⟩:=h
     rw[Dh]at h
     obtain⟨env',s',h1,h2⟩:=Ee h
     exact⟨env',s',by simp only[FZ,hv,ho,if_pos,hx];exact h1,h2⟩
   ·cases h
  ·rename_i o g hv
   split at h
   ·rename_i g' cl ents ho
    obtain⟨⟨rfl,rfl,hk⟩,h⟩:=h
    rw[Dh]at h
    obtain⟨env',s',h1,h2⟩:=Ee h
    exact⟨env',s',by simp only[FZ,hv,ho,true_and,if_pos hk];exact h1,h2⟩
   ·cases h
  ·rename_i nn xs hv
   obtain⟨env',s',h1,h2⟩:=Ee h
   exact⟨env',s',by simp only[FZ,hv];exact h1,h2⟩
  ·rename_i hv
   obtain⟨env',s',h1,h2⟩:=Ee h
   exact⟨env',s',by simp only[FZ,hv];exact h1,h2⟩
  ·cases h
def Vw {α:Type}:Nat→List α→(List α→Prop)→Prop
 |0,_,K=>K []
 |_+1,[],K=>K []
 |n+1,x::xs,K=>Vw n xs fun ys=>K (x::ys)
theorem Qi {α:Type}:∀(n:Nat) (l:List α) (K:List α→Prop),Vw n l K↔K (l.take n)
 |0,_,_=>by simp[Vw]
 |_+1,[],_=>by simp[Vw]
 |n+1,x::xs,K=>Qi n xs fun ys=>K (x::ys)
def Aev (tr:Option Nat) (s:Aj) (K:Aj→Prop):Prop:=match tr with
 |none=>K s
 |some k=>Vw (kept k s.σ.length) s.σ fun σ=>K ⟨σ,s.ctr⟩
theorem N7 (tr:Option Nat) (s:Aj) (K:Aj→Prop):Aev tr s K↔K (truncate tr s):=by
 cases tr with
 |none=>exact Iff.rfl
 |some k=>exact Qi _ s.σ _
def Aew (live:List Nat) (tr:Option Nat) (Q:AB→Env→Aj→Prop) (e:AB) (env:Env) (s:Aj):Prop:=match e with
 | .normal=>KC live env fun env=>Aev tr s fun s=>Q .normal env s
 |e=>Q e env s
def AmH (k:Env→Aj→Prop) (Q:AB→Env→Aj→Prop) (e:AB) (env:Env) (s:Aj):Prop:=match e with
 | .normal=>k env s
 |e=>Q e env s
def Ako (id:Nat) (Q:AB→Env→Aj→Prop) (e:AB) (env:Env) (s:Aj):Prop:=match e with
 | .exit j=>KJ (Nat.beq j id) (Q .normal env s) (Q (.exit j) env s)
 |e=>Q e env s
def WZ (AP:Nat→Option Hy) (o:BP) (r g:Nat) (env:Env) (s:Aj) (K:AV→Option (Nat×Obj)→Nat→Prop):Prop:=
 KA AP o env s fun out s'=>match out with
    | .Ef _=>False
    | .ok v=>match o.cls with
      |some .e=>K v none 0
      |some .r=>K v none 0
      |some .w=>match o.writes r env with
       |[t]=>match nth s'.σ t with
        |some ob=>K v (some (t,ob)) 0
        |none=>False
       |_=>False
      |some .a=>match nth s'.σ v.idx with
       |some ob=>bif Nat.blt v.idx s.σ.length then K (v.moved v.idx g) (some (v.idx,ob.Qz g)) 1
        else match nth s.σ r with
           |some .dead=>K (v.moved r g) (some (r,ob.Qz g)) 1
           |_=>False
       |none=>False
      |none=>False
theorem W9 {o:BP} {r g:Nat} {env:Env} {s:Aj} {K:AV→Option (Nat×Obj)→Nat→Prop} (h:WZ AP o r g env s K):∃N v u b,IU (run AP N) o r g env s=some (v,u,b)∧K v u b:=by
 obtain⟨N,out,s',h1,h2⟩:=Iu h
 cases out with
 |Ef v=>cases h2
 |ok v=>
  simp only at h2
  split at h2
  ·rename_i hc;exact⟨N,_,_,_,by simp only[IU,hc,h1],h2⟩
  ·rename_i hc;exact⟨N,_,_,_,by simp only[IU,hc,h1],h2⟩
  ·rename_i hc
   split at h2
   ·rename_i t ht
    split at h2
    ·rename_i ob hob;exact⟨N,_,_,_,by simp only[IU,hc,h1,ht,hob],h2⟩
    ·cases h2
   ·cases h2
  ·rename_i hc
   split at h2
   ·rename_i ob hob
    cases hb:Nat.blt v.idx s.σ.length
    ·rw[hb,cond_false]at h2
     have hlt:¬v.idx<s.σ.length:=fun hlt=>by
      have:=(show (Nat.blt v.idx s.σ.length=true) from Nat.blt_eq▸hlt)
      rw[hb]at this;cases this
     split at h2
     ·rename_i hd
      exact⟨N,_,_,_,by simp only[IU,hc,h1,hob,if_neg hlt,hd],h2⟩
     ·cases h2
    ·rw[hb,cond_true]at h2
     exact⟨N,_,_,_,by simp only[IU,hc,h1,hob,if_pos (show v.idx<s.σ.length from Nat.blt_eq▸hb)],h2⟩
   ·cases h2
  ·cases h2
def MP (u:Option (Nat×Obj)) (b:Nat) (s:Aj) (K:Aj→Prop):Prop:=match u with
 |some (t,ob)=>P5 s.σ t ob fun σ=>K ⟨σ,s.ctr+b⟩
 |none=>K ⟨s.σ,s.ctr+b⟩
theorem QG (u:Option (Nat×Obj)) (b:Nat) (s:Aj) (K:Aj→Prop):MP u b s K↔K (EL u b s):=by
 unfold MP EL
 split
 ·exact Dh _ _ _ _
 ·exact Iff.rfl
def ZW (AP:Nat→Option Hy) (ops:List Az):Nat→Nat→Env→Aj→(List Eff→Prop)→Prop:=
 List.rec (motive:=fun _=>Nat→Nat→Env→Aj→(List Eff→Prop)→Prop) (fun _ _ _ _ K=>K [])
    (fun o _ ih r g env s K=>FD o.guard env
      (WZ AP o.op r g env s fun v u b=>MP u b s fun s'=>ih (r+rank o.op) (g+1) (put o.dst v env) s' fun es=>K (⟨o.dst,v,o.op.reads r env,o.op.writes r env,u,b⟩::es))
      (ih (r+rank o.op) (g+1) (put o.dst .undef env) s fun es=>K (⟨o.dst,.undef,[],[],none,0⟩::es))) ops
theorem Aci (o:Az) (os:List Az) (r g:Nat) (env:Env) (s:Aj) (K:List Eff→Prop):ZW AP (o::os) r g env s K=FD o.guard env
 (WZ AP o.op r g env s fun v u b=>MP u b s fun s'=>ZW AP os (r+rank o.op) (g+1) (put o.dst v env) s' fun es=>K (⟨o.dst,v,o.op.reads r env,o.op.writes r env,u,b⟩::es))
 (ZW AP os (r+rank o.op) (g+1) (put o.dst .undef env) s fun es=>K (⟨o.dst,.undef,[],[],none,0⟩::es)):=rfl
theorem N8:∀{os:List Az} {r g:Nat} {env:Env} {s:Aj} {K:List Eff→Prop},ZW AP os r g env s K→∃N es,HY (run AP N) os r g env s=some es∧K es
 |[],r,g,env,s,K,h=>⟨0,_,rfl,h⟩
 |o::os,r,g,env,s,K,h=>by
  have I5:wanted o.guard env=some false→(ZW AP os (r+rank o.op) (g+1) (put o.dst .undef env) s fun es=>K (⟨o.dst,.undef,[],[],none,0⟩::es))→∃N es,HY (run AP N) (o::os) r g env s=some es∧K es:=by
   intro hw h
   obtain⟨N,es,h1,h2⟩:=N8 h
   exact⟨N,_,by simp only[HY,hw,h1],h2⟩
  have hdo:wanted o.guard env=some true→(WZ AP o.op r g env s fun v u b=>MP u b s fun s'=>ZW AP os (r+rank o.op) (g+1) (put o.dst v env) s' fun es=>K (⟨o.dst,v,o.op.reads r env,o.op.writes r env,u,b⟩::es))→∃N es,HY (run AP N) (o::os) r g env s=some es∧K es:=by
   intro hw h
   obtain⟨N,v,u,b,h1,h2⟩:=W9 h
   rw[QG]at h2
   obtain⟨N',es,h3,h4⟩:=N8 h2
   refine⟨max N N',_,?_,h4⟩
   simp only[HY,hw,TR (BJ (Nat.le_max_left N N')) h1,IW (BJ (AP:=AP) (Nat.le_max_right N N')) h3]
  rw[Aci]at h
  unfold FD at h
  split at h
  ·rename_i hg
   exact hdo (by rw[hg];rfl) h
  ·rename_i r' b hg
   split at h
   ·rename_i b' hb
    cases hbb:(b'==b)
    ·rw[hbb]at h
     exact I5 (by rw[hg];simp only[wanted,hb,hbb]) h
    ·rw[hbb]at h
     exact hdo (by rw[hg];simp only[wanted,hb,hbb]) h
   ·rename_i hb
    exact I5 (by rw[hg];simp only[wanted,hb]) h
   ·cases h
def Aex {α:Type}:List α→List α→(List α→Prop)→Prop
 |[],ys,K=>K ys
 |x::xs,ys,K=>Aex xs ys fun r=>K (x::r)
theorem Vx {α:Type}:∀(xs ys:List α) (K:List α→Prop),Aex xs ys K↔K (xs++ys)
 |[],_,_=>Iff.rfl
 |x::xs,ys,K=>Vx xs ys _
def Rx:List Eff→Aj→(Aj→Prop)→Prop
 |[],s,K=>K s
 |e::es,s,K=>MP e.upd e.bump s fun s=>Rx es s K
theorem QH:∀(es:List Eff) (s:Aj) (K:Aj→Prop),Rx es s K↔K (LG es s)
 |[],_,_=>Iff.rfl
 |e::es,s,K=>by rw[Rx,QG,LG];exact QH es _ K
def Aiu (n:Nat) (σ:List Obj) (K:List Obj→Prop):Prop:=match n with
 |0=>K σ
 |n+1=>Aex σ (List.replicate (n+1) .dead) K
theorem Aey (n:Nat) (σ:List Obj) (K:List Obj→Prop):Aiu n σ K↔K (σ++List.replicate n .dead):=by
 cases n with
 |zero=>simp[Aiu]
 |succ n=>exact Vx _ _ _
def Yr {α:Type}:Nat→List α→(List α→Prop)→Prop
 |0,xs,K=>K xs
 |_+1,[],K=>K []
 |n+1,_::xs,K=>Yr n xs K
theorem Vy {α:Type}:∀(n:Nat) (l:List α) (K:List α→Prop),Yr n l K↔K (l.drop n)
 |0,_,_=>by simp[Yr]
 |_+1,[],_=>by simp[Yr]
 |n+1,_::xs,K=>Vy n xs K
def Aez (AP:Nat→Option Hy) (m:Nat) (un:List (Nat×Nat)) (ops:List Az) (env:Env) (s:Aj) (K:Env→Aj→Prop):Prop:=
 Vw m ops fun hd=>Aiu (ranks hd) s.σ fun σ=>ZW AP hd s.σ.length s.ctr env ⟨σ,s.ctr+m⟩ fun es=>
    need (JO es un=true) (Rx es ⟨σ,s.ctr+m⟩ fun s1=>K (NW es env) s1)
theorem Yt {m:Nat} {un:List (Nat×Nat)} {ops:List Az} {env:Env} {s:Aj} {K:Env→Aj→Prop} (h:Aez AP m un ops env s K):∃N Bz s1,LK (run AP N) m un ops env s=some (Bz,s1)∧K Bz s1:=by
 unfold Aez at h
 rw[Qi,Aey]at h
 obtain⟨N,es,h1,h2,h3⟩:=N8 h
 rw[QH]at h3
 exact⟨N,_,_,by simp only[LK,h1,if_pos h2],h3⟩
def AeA (AP:Nat→Option Hy) (op:BP) (env:Env) (v:AV):List Aj→Prop→Prop
 |[],T=>T
 |S::r,T=>KA AP op env S fun out _=>match out with
  | .ok u=>need (AL u v=true) (AeA AP op env v r T)
  | .Ef _=>False
def AeB (AP:Nat→Option Hy) (S:Aj):List (BP×Env×AV)→Prop→Prop
 |[],T=>T
 |(op,env,v)::r,T=>KA AP op env S fun out _=>match out with
  | .ok u=>need (AL u v=true) (AeB AP S r T)
  | .Ef _=>False
theorem QI {op:BP} {env:Env} {v:AV}:∀{past:List Aj} {T:Prop},AeA AP op env v past T→(∃ N,Kr (run AP N) op env v past=true)∧T
 |[],T,h=>⟨⟨0,rfl⟩,h⟩
 |S::r,T,h=>by
  obtain⟨N,out,s',h1,h2⟩:=Iu h
  cases out with
  |Ef u=>exact h2.elim
  |ok u=>
   obtain⟨h3,h4⟩:=h2
   obtain⟨⟨N',h5⟩,h6⟩:=QI h4
   refine⟨⟨max N N',?_⟩,h6⟩
   simp only[Kr,BL (BJ (Nat.le_max_left N N')) h1,h3,Jm (BJ (Nat.le_max_right N N')) h5,Bool.and_self]
theorem QJ {S:Aj}:∀{pend:List (BP×Env×AV)} {T:Prop},AeB AP S pend T→(∃ N,Kt (run AP N) S pend=true)∧T
 |[],T,h=>⟨⟨0,rfl⟩,h⟩
 |(op,env,v)::r,T,h=>by
  obtain⟨N,out,s',h1,h2⟩:=Iu h
  cases out with
  |Ef u=>exact h2.elim
  |ok u=>
   obtain⟨h3,h4⟩:=h2
   obtain⟨⟨N',h5⟩,h6⟩:=QJ h4
   refine⟨⟨max N N',?_⟩,h6⟩
   simp only[Kt,BL (BJ (Nat.le_max_left N N')) h1,h3,Jo (BJ (Nat.le_max_right N N')) h5,Bool.and_self]
def LV (AP:Nat→Option Hy) (E:List Nat) (ops:List Az):Nat→Env→Aj→Prop→Prop:=
 List.rec (motive:=fun _=>Nat→Env→Aj→Prop→Prop) (fun _ _ _ T=>T)
    (fun o _ ih i env s T=>bif Dw i E then FD o.guard env
      (KA AP o.op env s fun out _=>match out with
        | .ok v=>bif flt o then ih (i+1) (put o.dst v env) s T else False
        | .Ef _=>False)
      (ih (i+1) (put o.dst .undef env) s T)
      else ih (i+1) env s T) ops
theorem Yu (E:List Nat) (o:Az) (os:List Az) (i:Nat) (env:Env) (s:Aj) (T:Prop):LV AP E (o::os) i env s T=bif Dw i E then FD o.guard env
        (KA AP o.op env s fun out _=>match out with
          | .ok v=>bif flt o then LV AP E os (i+1) (put o.dst v env) s T else False
          | .Ef _=>False)
        (LV AP E os (i+1) (put o.dst .undef env) s T)
 else LV AP E os (i+1) env s T:=rfl
theorem Io {E:List Nat}:∀{os:List Az} {i:Nat} {env:Env} {s:Aj} {T:Prop},LV AP E os i env s T→(∃ N,D9 (run AP N) E os i env s=true)∧T
 |[],i,env,s,T,h=>⟨⟨0,rfl⟩,h⟩
 |o::os,i,env,s,T,h=>by
  rw[Yu]at h
  cases hm:Dw i E with
  |false=>
   rw[hm,cond_false]at h
   obtain⟨⟨N,h1⟩,h2⟩:=Io h
   exact⟨⟨N,by simp only[D9,hm,Bool.false_eq_true,if_false];exact h1⟩,h2⟩
  |true=>
   rw[hm,cond_true]at h
   have I5:wanted o.guard env=some false→LV AP E os (i+1) (put o.dst .undef env) s T→(∃ N,D9 (run AP N) E (o::os) i env s=true)∧T:=by
        intro hw h
        obtain⟨⟨N,h1⟩,h2⟩:=Io h
        exact⟨⟨N,by simp only[D9,hm,if_true,hw];exact h1⟩,h2⟩
   have hdo:wanted o.guard env=some true→(KA AP o.op env s fun out _=>match out with
    | .ok v=>bif flt o then LV AP E os (i+1) (put o.dst v env) s T else False
    | .Ef _=>False)→(∃ N,D9 (run AP N) E (o::os) i env s=true)∧T:=by
        intro hw h
        obtain⟨N,out,s1,h1,h2⟩:=Iu h
        cases out with
        |Ef v=>exact h2.elim
        |ok v=>
         dsimp only at h2
         cases hf:flt o with
         |false=>rw[hf]at h2;exact h2.elim
         |true=>
          rw[hf,cond_true]at h2
          obtain⟨⟨N',h3⟩,h4⟩:=Io h2
          refine⟨⟨max N N',?_⟩,h4⟩
          simp only[D9,hm,if_true,hw,BL (BJ (AP:=AP) (Nat.le_max_left N N')) h1,hf,E5 (BJ (AP:=AP) (Nat.le_max_right N N')) h3,Bool.and_self]
   unfold FD at h
   split at h
   ·rename_i hg
    exact hdo (by rw[hg];rfl) h
   ·rename_i r b hg
    split at h
    ·rename_i b' hb
     cases hbb:(b'==b)
     ·rw[hbb]at h
      exact I5 (by rw[hg];simp only[wanted,hb,hbb]) h
     ·rw[hbb]at h
      exact hdo (by rw[hg];simp only[wanted,hb,hbb]) h
    ·rename_i hb
     exact I5 (by rw[hg];simp only[wanted,hb]) h
    ·cases h
def Yv (AP:Nat→Option Hy) (m:Nat) (W pc:List Nat) (o:Az) (os:List Az) (i:Nat) (k:Env→Aj→List (BP×Env×AV)→List Aj→Prop) (Q:AB→Env→Aj→Prop) (env:Env) (s:Aj) (pend:List (BP×Env×AV)) (past:List Aj) (out:AA) (s1:Aj):Prop:=match out with
 | .Ef v=>match pc with
   |p::E=>bif Nat.beq i p&&!(Dw i W||(flt o||Nat.blt i m))then LV AP E os (i+1) env s (Q (.Ef v) [] s1)else False
   |[]=>False
 | .ok v=>bif Dw i W then bif o.op.Fh then AeA AP o.op env v past (k (put o.dst v env) s ((o.op,env,v)::pend) past)else False
   else bif flt o||Nat.blt i m then k (put o.dst v env) s pend past
   else AeB AP s1 pend (k (put o.dst v env) s1 pend (s::past))
def ZX (AP:Nat→Option Hy) (m:Nat) (W pc:List Nat) (ops:List Az):Nat→Env→Aj→List (BP×Env×AV)→List Aj→(AB→Env→Aj→Prop)→Prop:=
 List.rec (motive:=fun _=>Nat→Env→Aj→List (BP×Env×AV)→List Aj→(AB→Env→Aj→Prop)→Prop) (fun _ env s _ _ K=>K .normal env s)
    (fun o os ih i env s pend past K=>FD o.guard env (KA AP o.op env s (Yv AP m W pc o os i (fun env s pend past=>ih (i+1) env s pend past K) K env s pend past))
      (ih (i+1) (put o.dst .undef env) s pend past K)) ops
theorem Acj (m:Nat) (W pc:List Nat) (o:Az) (os:List Az) (i:Nat) (env:Env) (s:Aj) (pend:List (BP×Env×AV)) (past:List Aj) (K:AB→Env→Aj→Prop):ZX AP m W pc (o::os) i env s pend past K=FD o.guard env
 (KA AP o.op env s (Yv AP m W pc o os i (fun env s pend past=>ZX AP m W pc os (i+1) env s pend past K) K env s pend past))
 (ZX AP m W pc os (i+1) (put o.dst .undef env) s pend past K):=rfl
theorem I7 {m:Nat} {W pc:List Nat}:∀{os:List Az} {i:Nat} {env:Env} {s:Aj} {pend:List (BP×Env×AV)} {past:List Aj} {K:AB→Env→Aj→Prop},ZX AP m W pc os i env s pend past K→∃N x env' s',F5 (run AP N) m W pc os i env s pend past=some (x,env',s')∧K x env' s'
 |[],i,env,s,pend,past,K,h=>⟨0,_,_,_,rfl,h⟩
 |o::os,i,env,s,pend,past,K,h=>by
  have I5:wanted o.guard env=some false→ZX AP m W pc os (i+1) (put o.dst .undef env) s pend past K→∃N x env' s',F5 (run AP N) m W pc (o::os) i env s pend past=some (x,env',s')∧K x env' s':=by
   intro hw h
   obtain⟨N,x,env',s',h1,h2⟩:=I7 h
   exact⟨N,x,env',s',by simp only[F5,hw];exact h1,h2⟩
  have hdo:wanted o.guard env=some true→KA AP o.op env s (Yv AP m W pc o os i (fun env s pend past=>ZX AP m W pc os (i+1) env s pend past K) K env s pend past)→∃N x env' s',F5 (run AP N) m W pc (o::os) i env s pend past=some (x,env',s')∧K x env' s':=by
   intro hw h
   obtain⟨N,out,s1,h1,h2⟩:=Iu h
   cases out with
   |Ef v=>
    simp only[Yv]at h2
    cases pc with
    |nil=>exact h2.elim
    |cons p E=>
     dsimp only at h2
     cases hc:(Nat.beq i p&&!(Dw i W||(flt o||Nat.blt i m)))with
     |false=>rw[hc]at h2;exact h2.elim
     |true=>
      rw[hc,cond_true]at h2
      obtain⟨⟨N1,h3⟩,h4⟩:=Io h2
      refine⟨max N N1,_,_,_,?_,h4⟩
      simp only[F5,hw,BL (BJ (AP:=AP) (Nat.le_max_left N N1)) h1,hc,E5 (BJ (AP:=AP) (Nat.le_max_right N N1)) h3,Bool.and_self,if_true]
   |ok v=>
    simp only[Yv]at h2
    cases hm:Dw i W with
    |true=>
     rw[hm,cond_true]at h2
     cases hp:o.op.Fh with
     |false=>rw[hp]at h2;exact h2.elim
     |true=>
      rw[hp,cond_true]at h2
      obtain⟨⟨N1,h3⟩,h4⟩:=QI h2
      obtain⟨N2,x,env',s',h5,h6⟩:=I7 h4
      refine⟨max N (max N1 N2),x,env',s',?_,h6⟩
      simp only[F5,hw,BL (BJ (AP:=AP) (Nat.le_max_left N (max N1 N2))) h1,hm,hp,Jm (BJ (AP:=AP) (show N1≤max N (max N1 N2) by omega)) h3,Bool.and_self,if_true]
      exact Eb (BJ (show N2≤max N (max N1 N2) by omega)) h5
    |false=>
     rw[hm,cond_false]at h2
     cases hf:(flt o||Nat.blt i m)with
     |true=>
      rw[hf,cond_true]at h2
      obtain⟨N2,x,env',s',h5,h6⟩:=I7 h2
      refine⟨max N N2,x,env',s',?_,h6⟩
      simp only[F5,hw,BL (BJ (AP:=AP) (Nat.le_max_left N N2)) h1,hm,hf,if_true,Bool.false_eq_true,if_false]
      exact Eb (BJ (Nat.le_max_right N N2)) h5
     |false=>
      rw[hf,cond_false]at h2
      obtain⟨⟨N1,h3⟩,h4⟩:=QJ h2
      obtain⟨N2,x,env',s',h5,h6⟩:=I7 h4
      refine⟨max N (max N1 N2),x,env',s',?_,h6⟩
      simp only[F5,hw,BL (BJ (AP:=AP) (Nat.le_max_left N (max N1 N2))) h1,hm,hf,Jo (BJ (AP:=AP) (show N1≤max N (max N1 N2) by omega)) h3,if_true,Bool.false_eq_true,if_false]
      exact Eb (BJ (show N2≤max N (max N1 N2) by omega)) h5
  rw[Acj]at h
  unfold FD at h
  split at h
  ·rename_i hg
   exact hdo (by rw[hg];rfl) h
  ·rename_i r b hg
   split at h
   ·rename_i b' hb
    cases hbb:(b'==b)
    ·rw[hbb]at h
     exact I5 (by rw[hg];simp only[wanted,hb,hbb]) h
    ·rw[hbb]at h
     exact hdo (by rw[hg];simp only[wanted,hb,hbb]) h
   ·rename_i hb
    exact I5 (by rw[hg];simp only[wanted,hb]) h
   ·cases h
def AeC (v:AV) (A B:Prop):Prop:=match v with
 | .bool c=>KJ c A B
 |_=>False
def vC (AP:Nat→Option Hy) (c:AQ):Env→Aj→(AB→Env→Aj→Prop)→Prop:=
 AQ.rec (motive:=fun _=>Env→Aj→(AB→Env→Aj→Prop)→Prop)
    (fun env s Q=>Q .normal env s)
    (fun _ JW ops live tr env s Q=>Uj JW env s fun env s=>Yq AP ops env s (Aew live tr Q))
    (fun m un JW ops live tr env s Q=>Uj JW env s fun env s=>Aez AP m un ops env s fun Bz s1=>Yr m ops fun tl=>Yq AP tl Bz s1 (Aew live tr Q))
    (fun m W pc JW ops live tr env s Q=>Uj JW env s fun env s=>ZX AP m W pc ops 0 env s [] [] (Aew live tr Q))
    (fun _ _ iha ihb env s Q=>iha env s (AmH (fun env s=>ihb env s Q) Q))
    (fun c _ _ iha ihb env s Q=>AeC (c.val env) (iha env s Q) (ihb env s Q))
    (fun id _ iha env s Q=>iha env s (Ako id Q))
    (fun live a _ env s Q=>KC live env fun env=>Run AP (.loop live a) env s Q)
    (fun id env s Q=>Q (.exit id) env s)
    (fun env s Q=>Q .ret env s) c
theorem Uk {env:Env} {t:Nat}:∀{ts:List Nat},t∈ts→(commit env ts).get t=env.get t
 |[],h=>by simp at h
 |t'::ts,h=>by
  simp only[commit,Env.get]
  cases hb:Nat.beq t' t
  ·have hne:t≠t':=fun e=>by subst e;simp at hb
   rw[cond_false]
   exact Uk ((List.mem_cons.1 h).resolve_left hne)
  ·rw[cond_true,Nat.eq_of_beq_eq_true hb]
theorem Pn {env env':Env}:∀{ts:List Nat},(∀ t∈ts,env.get t=env'.get t)→commit env ts=commit env' ts
 |[],_=>rfl
 |t::ts,h=>by simp only[commit];rw[h t (by simp),Pn fun t' h'=>h t' (by simp[h'])]
theorem UH (env:Env) (ts:List Nat):commit (commit env ts) ts=commit env ts:=Pn fun _ h=>Uk h
theorem QK {live:List Nat} {a:AQ} {env:Env} {s:Aj} {Q:AB→Env→Aj→Prop} (h:Run AP (.loop live a) (commit env live) s Q):Run AP (.loop live a) env s Q:=by
 obtain⟨N,e,env',s',h1,h2⟩:=h
 refine⟨N,e,env',s',?_,h2⟩
 simp only[ET]at h1 ⊢
 cases N with
 |zero=>simp[iter]at h1
 |succ N=>
  simp only[iter,UH]at h1 ⊢
  exact h1
theorem G8:∀{c:AQ} {env:Env} {s:Aj} {Q:AB→Env→Aj→Prop},vC AP c env s Q→Run AP c env s Q:=by
 intro c
 induction c with
 |skip=>intro env s Q h;exact⟨0,_,_,_,rfl,h⟩
 |exit id=>intro env s Q h;exact⟨0,_,_,_,rfl,h⟩
 |ret=>intro env s Q h;exact⟨0,_,_,_,rfl,h⟩
 |region hd JW ops live tr=>
  intro env s Q h
  obtain⟨Bz,s1,h1,h2⟩:=Ee h
  obtain⟨N,e,Dl,s2,h3,h4⟩:=Gz h2
  cases e with
  |normal=>exact⟨N,_,_,_,by simp only[ET,h1,h3],(N7 _ _ _).1 ((EP _ _ _).1 h4)⟩
  |exit id=>exact⟨N,_,_,_,by simp only[ET,h1,h3],h4⟩
  |ret=>exact⟨N,_,_,_,by simp only[ET,h1,h3],h4⟩
  |Ef v=>exact⟨N,_,_,_,by simp only[ET,h1,h3],h4⟩
 |mix m W pc JW ops live tr=>
  intro env s Q h
  obtain⟨Bz,s1,h1,h2⟩:=Ee h
  obtain⟨N,e,Dl,s2,h3,h4⟩:=I7 h2
  cases e with
  |normal=>exact⟨N,_,_,_,by simp only[ET,h1,h3],(N7 _ _ _).1 ((EP _ _ _).1 h4)⟩
  |exit id=>exact⟨N,_,_,_,by simp only[ET,h1,h3],h4⟩
  |ret=>exact⟨N,_,_,_,by simp only[ET,h1,h3],h4⟩
  |Ef v=>exact⟨N,_,_,_,by simp only[ET,h1,h3],h4⟩
 |par m un JW ops live tr=>
  intro env s Q h
  obtain⟨Bz,s1,h1,h2⟩:=Ee h
  obtain⟨N',Akp,s1',hh,h2⟩:=Yt h2
  rw[Vy]at h2
  obtain⟨N,e,Dl,s2,h3,h4⟩:=Gz h2
  have hh':LK (run AP (max N N')) m un ops Bz s1=some (Akp,s1'):=by
   unfold LK at hh ⊢
   split at hh
   ·rename_i es hes
    rw[IW (BJ (Nat.le_max_right N N')) hes]
    exact hh
   ·cases hh
  have h3':=EO (BJ (AP:=AP) (Nat.le_max_left N N')) h3
  cases e with
  |normal=>exact⟨max N N',_,_,_,by simp only[ET,h1,hh',h3'],(N7 _ _ _).1 ((EP _ _ _).1 h4)⟩
  |exit id=>exact⟨max N N',_,_,_,by simp only[ET,h1,hh',h3'],h4⟩
  |ret=>exact⟨max N N',_,_,_,by simp only[ET,h1,hh',h3'],h4⟩
  |Ef v=>exact⟨max N N',_,_,_,by simp only[ET,h1,hh',h3'],h4⟩
 |seq a b iha ihb=>
  intro env s Q h
  obtain⟨N,e,Bz,s1,h1,h2⟩:=iha h
  cases e with
  |normal=>
   obtain⟨N',e',Dl,s2,h3,h4⟩:=ihb h2
   have h1':=Fv (BJ (AP:=AP) (Nat.le_max_left N N')) (Nat.le_max_left N N') h1
   have h3':=Fv (BJ (AP:=AP) (Nat.le_max_right N N')) (Nat.le_max_right N N') h3
   exact⟨max N N',e',Dl,s2,by simp only[ET,h1',h3'],h4⟩
  |exit id=>exact⟨N,_,_,_,by simp only[ET,h1],h2⟩
  |ret=>exact⟨N,_,_,_,by simp only[ET,h1],h2⟩
  |Ef v=>exact⟨N,_,_,_,by simp only[ET,h1],h2⟩
 |cond c a b iha ihb=>
  intro env s Q h
  change AeC (c.val env) (vC AP a env s Q) (vC AP b env s Q)at h
  unfold AeC at h
  split at h
  ·rename_i c' hc
   cases c'
   ·obtain⟨N,e,Bz,s1,h1,h2⟩:=ihb h
    exact⟨N,e,Bz,s1,by simp only[ET,hc,h1],h2⟩
   ·obtain⟨N,e,Bz,s1,h1,h2⟩:=iha h
    exact⟨N,e,Bz,s1,by simp only[ET,hc,h1],h2⟩
  ·cases h
 |block id a iha=>
  intro env s Q h
  obtain⟨N,e,Bz,s1,h1,h2⟩:=iha h
  cases e with
  |normal=>exact⟨N,_,_,_,by simp only[ET,h1],h2⟩
  |exit j=>
   simp only[Ako]at h2
   cases hb:Nat.beq j id
   ·rw[hb]at h2
    have hne:j≠id:=fun e=>by subst e;simp at hb
    exact⟨N,_,_,_,by simp only[ET,h1,if_neg hne],h2⟩
   ·rw[hb]at h2
    exact⟨N,_,_,_,by simp only[ET,h1,if_pos (Nat.eq_of_beq_eq_true hb)],h2⟩
  |ret=>exact⟨N,_,_,_,by simp only[ET,h1],h2⟩
  |Ef v=>exact⟨N,_,_,_,by simp only[ET,h1],h2⟩
 |loop live a iha=>
  intro env s Q h
  exact QK ((EP _ _ _).1 h)
def AeD (AP:Nat→Option Hy) (live:List Nat) (a:AQ) (Q:AB→Env→Aj→Prop) (e:AB) (env:Env) (s:Aj):Prop:=match e with
 | .normal=>KC live env fun env=>Run AP (.loop live a) env s Q
 |e=>Q e env s
def Aff (fn:FQ) (K:AA→Aj→Prop) (e:AB) (env:Env) (s:Aj):Prop:=match e with
 | .normal=>LC (Fg env s fn.results) fun vs=>K (.ok (DY vs)) s
 | .ret=>LC (Fg env s fn.results) fun vs=>K (.ok (DY vs)) s
 | .Ef v=>K (.Ef v) s
 | .exit _=>False
theorem RZ {f:Nat} {fn:FQ} {args:List AV} {s:Aj} {K:AA→Aj→Prop} (hf:AP f=some (.code fn)) (hl:args.length=fn.np) (h:Run AP fn.body (params args 0) s (Aff fn K)):D6 AP f args s K:=by
 obtain⟨N,e,env,s',h1,h2⟩:=h
 cases e with
 |normal=>
  obtain⟨vs,h3,h4⟩:=h2
  exact⟨N+1,_,_,by simp only[run,hf,if_pos hl,evF,h1,h3,Option.map_some],h4⟩
 |ret=>
  obtain⟨vs,h3,h4⟩:=h2
  exact⟨N+1,_,_,by simp only[run,hf,if_pos hl,evF,h1,h3,Option.map_some],h4⟩
 |Ef v=>exact⟨N+1,_,_,by simp only[run,hf,if_pos hl,evF,h1],h2⟩
 |exit id=>cases h2
end AI
end Go.Proofs.YtchcadfjbkkgmaaGreatDoor
namespace Go.Proofs.YtchcadfjbkkgmaaGreatDoor
namespace AI
open Go.RowKit
variable {AP:Nat→Option Hy}
def Akq (live:List Nat) (I:Env→Aj→Prop) (Q:AB→Env→Aj→Prop) (e:AB) (env:Env) (s:Aj):Prop:=match e with
 | .normal=>KC live env fun env=>I env s
 |e=>Q e env s
structure again (I:Nat→Env→Aj→Prop) (m:Nat) (env:Env) (s:Aj):Prop where
 mk::(h:∃m',m'<m∧I m' env s)
theorem Ai {live:List Nat} {a:AQ} {Q:AB→Env→Aj→Prop} (I:Nat→Env→Aj→Prop)
 (hI:∀m env s,I m env s→commit env live=env∧vC AP a env s (Akq live (again I m) Q)):
 ∀m env s,I m env s→Run AP (.loop live a) env s Q:=by
 intro m
 induction m using Nat.strongRecOn with
 |ind m ih=>
  intro env s h
  obtain⟨hc,h1⟩:=hI m env s h
  obtain⟨N,e,Bz,s1,h2,h3⟩:=G8 h1
  have hr:Run AP a env s (AeD AP live a Q):=by
   refine⟨N,e,Bz,s1,h2,?_⟩
   cases e with
   |normal=>
    simp only[Akq,AeD,EP]at h3 ⊢
    obtain⟨m',hm,h4⟩:=h3
    exact ih m' hm _ _ h4
   |exit id=>exact h3
   |ret=>exact h3
   |Ef v=>exact h3
  obtain⟨N,e,Bz,s1,h1,h2⟩:=hr
  cases e with
  |normal=>
   obtain⟨N',e',Dl,s2,h3,h4⟩:=QK ((EP _ _ _).1 h2)
   refine⟨max N N'+1,e',Dl,s2,?_,h4⟩
   have h1':=Fv (BJ (AP:=AP) (show N≤max N N'+1 by omega)) (show N≤max N N'+1 by omega) h1
   simp only[ET]at h3 ⊢
   rw[iter.eq_2]
   rw[hc,h1']
   exact Qa (fun env s r hr=>Fv (BJ (by omega)) (by omega) hr) (by omega) h3
  |exit id=>exact⟨N+1,_,_,_,by simp only[ET,iter.eq_2,hc,Fv (BJ (AP:=AP) (Nat.le_succ N)) (Nat.le_succ N) h1],h2⟩
  |ret=>exact⟨N+1,_,_,_,by simp only[ET,iter.eq_2,hc,Fv (BJ (AP:=AP) (Nat.le_succ N)) (Nat.le_succ N) h1],h2⟩
  |Ef v=>exact⟨N+1,_,_,_,by simp only[ET,iter.eq_2,hc,Fv (BJ (AP:=AP) (Nat.le_succ N)) (Nat.le_succ N) h1],h2⟩
structure Ah (AP:Nat→Option Hy) (f:Nat) (args:List AV) (R:AV→Prop):Prop where
 mk::(h:∃v,Pure AP f args v∧R v)
def Aiv (R:AV→Prop) (out:AA) (s:Aj):Prop:=match out with
 | .ok r=>Aa6 s.σ EY r R
 | .Ef _=>False
theorem Ad {f:Nat} {fn:FQ} {args:List AV} {R:AV→Prop} (hf:AP f=some (.code fn)) (hl:args.length=fn.np) (h:vC AP fn.body (params args 0) ⟨[],0⟩ (Aff fn (Aiv R))):Ah AP f args R:=by
 obtain⟨N,out,s',h1,h2⟩:=RZ hf hl (G8 h)
 cases out with
 |ok r=>
  have h2:Aa6 s'.σ EY r R:=h2
  obtain⟨v,h3,h4⟩:=Yn h2
  exact⟨v,⟨N,by simp only[CB,h1];exact h3⟩,h4⟩
 |Ef r=>cases h2
theorem Aa {f:Nat} {args:List AV} {R:AV→Prop} {K:AV→Prop} (h:Ah AP f args R) (h2:∀v,R v→K v):Aa2 AP f args K:=by
 obtain⟨v,h3,h4⟩:=h
 exact⟨v,h3,h2 v h4⟩
theorem CP {f:Nat} {args:List AV} {p:Prop} [Decidable p] {K:AV→Prop} (h:Ah AP f args (· =.bool (decide p))) (h1:p→K (.bool true)) (h2:¬p→K (.bool false)):Aa2 AP f args K:=by
 refine Aa h ?_
 rintro _ rfl
 by_cases hp:p
 ·rw[decide_eq_true hp];exact h1 hp
 ·rw[decide_eq_false hp];exact h2 hp
theorem D6.mono {f:Nat} {args:List AV} {s:Aj} {K K':AA→Aj→Prop} (h:D6 AP f args s K) (hk:∀out s,K out s→K' out s):D6 AP f args s K':=by
 obtain⟨N,out,s',h1,h2⟩:=h
 exact⟨N,out,s',h1,hk _ _ h2⟩
theorem BN {p:Prop} [Decidable p] (h:p):AV.bool true=AV.bool (decide p):=by rw[decide_eq_true h]
theorem Bf {p:Prop} [Decidable p] (h:¬p):AV.bool false=AV.bool (decide p):=by rw[decide_eq_false h]
theorem Ah.mono {f:Nat} {args:List AV} {R R':AV→Prop} (h:Ah AP f args R) (h2:∀v,R v→R' v):Ah AP f args R':=by
 obtain⟨v,h3,h4⟩:=h
 exact⟨v,h3,h2 v h4⟩
theorem PK {f:Nat} {fn:FQ} {args:List AV} {s:Aj} {K:AA→Aj→Prop} (hf:AP f=some (.code fn)) (hl:args.length=fn.np) (h:vC AP fn.body (params args 0) s (Aff fn K)):D6 AP f args s K:=
 RZ hf hl (G8 h)
end AI
end Go.Proofs.YtchcadfjbkkgmaaGreatDoor
namespace Go.Proofs.YtchcadfjbkkgmaaGreatDoor
namespace AI
def ints (l:List Int):List AV:=l.map (.int .i64)
abbrev Xj (nn:Bool) (l:List Int):AV:=.sl nn (ints l)
@[simp] theorem lI (l:List Int):(ints l).length=l.length:=by simp[ints]
theorem AeE {l:List Int} {i:Nat} {x:Int} (h:l[i]?=some x):nth (ints l) i=some (.int .i64 x):=by simp[ints,Ar,h]
theorem nI {l:List Int} {i:Nat} (h:i<l.length):nth (ints l) i=some (.int .i64 l[i]):=AeE (List.getElem?_eq_getElem h)
theorem wrap_i64 {z:Int} (h:-2^63≤z) (h2:z<2^63):IntKind.i64.wrap z=z:=by
 rw[IntKind.wrap_i64];omega
theorem nIN {l:List Int} {i:Nat} (h:i<l.length):nth (ints l) (Int.toNat (Nat.cast i))=some (.int .i64 l[i]):=nI h
theorem Yl {es:Nat} {x:AV} (h:x.cells.length=es):Bj es [x]:=by intro y hy;simp at hy;exact hy▸h
theorem Tt {b n:Nat} (h:n*b≤2 ^ 46):roomy b n:=Nat.le_trans h (by decide)
def iss (E:List (Bool×List Int)):List AV:=E.map fun p=>.sl p.1 (ints p.2)
@[simp] theorem lS (E:List (Bool×List Int)):(iss E).length=E.length:=by simp[iss]
theorem nS {E:List (Bool×List Int)} {i:Nat} (h:i<E.length):nth (iss E) i=some (.sl E[i].1 (ints E[i].2)):=by simp[iss,Ar,h]
theorem nSN {E:List (Bool×List Int)} {i:Nat} (h:i<E.length):nth (iss E) (Int.toNat (Nat.cast i))=some (.sl E[i].1 (ints E[i].2)):=nS h
theorem Di {α:Type} {l:List α} {i:Nat} (h:¬(i:Int)<(l.length:Int)):l.take i=l:=List.take_of_length_le (by omega)
theorem BG {α:Type} {p:α→Prop} {l:List α} {i:Nat} (h:i<l.length) (h1:∀x∈l.take i,p x) (h2:p l[i]):∀x∈l.take (i+1),p x:=by
 intro x hx
 rw[List.take_succ_eq_append_getElem h,List.mem_append,List.mem_singleton]at hx
 rcases hx with hx|rfl
 ·exact h1 x hx
 ·exact h2
theorem tIN {l:List Int} {i:Nat} {x y:Int}:(ints l).set (Int.toNat (Nat.cast i)) (BA (.int .i64 x) 0 (.int .i64 y))=ints (l.set i y):=by
 simp[ints,BA,AV.cells,List.map_set]
theorem tI {l:List Int} {i:Nat} {x y:Int}:(ints l).set i (BA (.int .i64 x) 0 (.int .i64 y))=ints (l.set i y):=tIN
theorem uI {l:List Int}:sub (ints l) 0 l.length=ints l:=by
 unfold sub;rw[List.drop_zero,List.take_of_length_le (by simp)]
theorem uS {l:List (Bool×List Int)}:sub (iss l) 0 l.length=iss l:=by
 unfold sub;rw[List.drop_zero,List.take_of_length_le (by simp)]
theorem uIS {l:List Int} {x:Int}:sub (ints (l++[x])) 0 (l.length+1)=ints (l++[x]):=by
 have:=uI (l:=l++[x]);rwa [List.length_append]at this
theorem uSS {l:List (Bool×List Int)} {x:Bool×List Int}:sub (iss (l++[x])) 0 (l.length+1)=iss (l++[x]):=by
 have:=uS (l:=l++[x]);rwa [List.length_append]at this
theorem rIN (n:Nat) (z:Int):List.replicate (Int.toNat (Nat.cast n)) (AV.int .i64 z)=ints (List.replicate n z):=by simp[ints]
theorem rI (n:Nat) (z:Int):List.replicate n (AV.int .i64 z)=ints (List.replicate n z):=by simp[ints]
theorem nY {l:List UInt8} {i:Nat} (h:i<l.length):nth l i=some l[i]:=by simp[Ar,h]
theorem nYN {l:List UInt8} {i:Nat} (h:i<l.length):nth l (Int.toNat (Nat.cast i))=some l[i]:=nY h
def bools (l:List Bool):List AV:=l.map .bool
@[simp] theorem lB (l:List Bool):(bools l).length=l.length:=by simp[bools]
theorem nB {l:List Bool} {i:Nat} (h:i<l.length):nth (bools l) i=some (.bool l[i]):=by simp[bools,Ar,h]
theorem nBN {l:List Bool} {i:Nat} (h:i<l.length):nth (bools l) (Int.toNat (Nat.cast i))=some (.bool l[i]):=nB h
theorem tBN {l:List Bool} {i:Nat} {x y:Bool}:(bools l).set (Int.toNat (Nat.cast i)) (BA (.bool x) 0 (.bool y))=bools (l.set i y):=by
 simp[bools,BA,AV.cells,List.map_set]
theorem tB {l:List Bool} {i:Nat} {x y:Bool}:(bools l).set i (BA (.bool x) 0 (.bool y))=bools (l.set i y):=tBN
theorem uB {l:List Bool}:sub (bools l) 0 l.length=bools l:=by
 unfold sub;rw[List.drop_zero,List.take_of_length_le (by simp)]
theorem rBN (n:Nat) (z:Bool):List.replicate (Int.toNat (Nat.cast n)) (AV.bool z)=bools (List.replicate n z):=by simp[bools]
section
variable {α β:Type} [DecidableEq α] {fk:α→AV} {fv:β→AV} {t:I9}
def Ia (fk:α→AV) (fv:β→AV) (M:List (α×β)):List (AV×AV):=M.map fun p=>(fk p.1,fv p.2)
def Dz:List (α×β)→α→Option β
 |[],_=>none
 |(k',v)::M,k=>if k=k' then some v else Dz M k
def EI:List (α×β)→α→β→List (α×β)
 |[],k,v=>[(k,v)]
 |(k',v')::M,k,v=>if k=k' then(k,v)::M else(k',v')::EI M k v
theorem JI (M:List (α×β)) (k k':α) (v:β):Dz (EI M k v) k'=if k'=k then some v else Dz M k':=by
 induction M with
 |nil=>simp[EI,Dz]
 |cons p M ih=>
  obtain⟨a,b⟩:=p
  simp only[EI]
  by_cases h:k=a
  ·subst h;simp only[if_pos,Dz];split<;>simp_all
  ·rw[if_neg h]
   simp only[Dz,ih]
   by_cases h1:k'=a
   ·subst h1;rw[if_pos rfl,if_neg (fun e=>h e.symm),if_pos rfl]
   ·rw[if_neg h1,if_neg h1]
theorem KD (hk:∀a b,CU t (fk a) (fk b)=some (decide (a=b))) (k:α):∀(M:List (α×β)) (i:Nat),
 (Dz M k=none∧findKey t (fk k) (Ia fk fv M) i=some none∧EI M k=fun v=>M++[(k,v)])∨
 ∃j v,Dz M k=some v∧findKey t (fk k) (Ia fk fv M) i=some (some (i+j,fv v))∧EI M k=fun v=>M.set j (k,v)
 |[],i=>.inl ⟨rfl,rfl,rfl⟩
 |(a,b)::M,i=>by
  by_cases h:k=a
  ·subst h
   refine .inr ⟨0,b,by simp[Dz],?_,by funext v;simp[EI]⟩
   simp only[Ia,List.map_cons,findKey,hk,decide_true,Nat.add_zero]
  ·rcases KD hk k M (i+1)with⟨h1,h2,h3⟩|⟨j,v,h1,h2,h3⟩
   ·refine .inl ⟨by simp[Dz,h,h1],?_,by funext v;simp[EI,h,h3]⟩
    simp only[Ia,List.map_cons,findKey,hk,decide_eq_false h]at h2 ⊢
    exact h2
   ·refine .inr ⟨j+1,v,by simp[Dz,h,h1],?_,by funext v;simp[EI,h,h3]⟩
    simp only[Ia,List.map_cons,findKey,hk,decide_eq_false h]at h2 ⊢
    rw[h2];congr 3;omega
theorem IG (hk:∀a b,CU t (fk a) (fk b)=some (decide (a=b))) {M:List (α×β)} {k:α} {K:Option (Nat×AV)→Prop}
 (h1:Dz M k=none→K none) (h2:∀i v,Dz M k=some v→K (some (i,fv v))):Nb t (fk k) (Ia fk fv M) K:=by
 rcases KD (fv:=fv) hk k M 0 with⟨g1,g2,_⟩|⟨j,v,g1,g2,_⟩
 ·exact⟨_,g2,h1 g1⟩
 ·exact⟨_,g2,h2 _ _ g1⟩
theorem NT (hk:∀a b,CU t (fk a) (fk b)=some (decide (a=b))) {M:List (α×β)} {k:α} {v:β} {K:List (AV×AV)→Prop}
 (h:K (Ia fk fv (EI M k v))):XH t (fk k) (fv v) (Ia fk fv M) K:=by
 rcases KD (fv:=fv) hk k M 0 with⟨g1,g2,g3⟩|⟨j,w,g1,g2,g3⟩
 ·refine⟨_,g2,?_⟩
  rw[g3]at h
  simpa[Aet,Ia]using h
 ·refine⟨_,g2,?_⟩
  rw[g3]at h
  simpa[Aet,Ia,List.map_set]using h
end
theorem EK (a b:Int):CU .int (.int .i64 a) (.int .i64 b)=some (decide (a=b)):=by
 simp only[CU,if_true];rfl
abbrev Ot (M:List (Int×Int)):List (AV×AV):=Ia (.int .i64) (.int .i64) M
theorem fkI {M:List (Int×Int)} {k:Int} {K:Option (Nat×AV)→Prop}
 (h1:Dz M k=none→K none) (h2:∀i v,Dz M k=some v→K (some (i,.int .i64 v))):Nb .int (.int .i64 k) (Ot M) K:=IG EK h1 h2
theorem msI {M:List (Int×Int)} {k v:Int} {K:List (AV×AV)→Prop} (h:K (Ot (EI M k v))):XH .int (.int .i64 k) (.int .i64 v) (Ot M) K:=NT EK h
end AI
end Go.Proofs.YtchcadfjbkkgmaaGreatDoor
