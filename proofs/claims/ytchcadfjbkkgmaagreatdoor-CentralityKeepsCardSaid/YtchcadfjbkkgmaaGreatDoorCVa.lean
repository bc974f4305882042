/- The evaluator, step by step on symbols: what must hold for it to end in 'Q'. The evaluator, step by step on symbols: operations. The evaluator, step by step on symbols: regions, code, loops, functions. Loops by an invariant; what a function answers, as a predicate. Lists of numbers as abstract values; small facts that the steps need. -/
import Derived.Test.YtchcadfjbkkgmaaGreatDoorCSe
set_option linter.unusedVariables false
set_option maxRecDepth 4000
namespace Go.Proofs.YtchcadfjbkkgmaaGreatDoor
namespace AI
open Go.RowKit
variable {AP:Nat→Option G9}
structure Run (AP:Nat→Option G9) (c:Bd) (env:Env) (s:Am) (Q:AZ→Env→Am→Prop):Prop where
 mk::(h:∃N e env' s',Fp (run AP N) N c env s=some (e,env',s')∧Q e env' s')
def Op1 (AP:Nat→Option G9) (o:CW) (env:Env) (s:Am) (K:AX→Am→Prop):Prop:=
 ∃N out s',Aj (run AP N) o env s=some (out,s')∧K out s'
def Ops (AP:Nat→Option G9) (os:List AU) (env:Env) (s:Am) (Q:AZ→Env→Am→Prop):Prop:=
 ∃N e env' s',DL (run AP N) os env s=some (e,env',s')∧Q e env' s'
structure Pure (AP:Nat→Option G9) (f:Nat) (args:List AV) (v:AV):Prop where
 mk::(h:∃N,Dp (run AP N) f args=some v)
structure A8 (AP:Nat→Option G9) (f:Nat) (args:List AV) (s:Am) (K:AX→Am→Prop):Prop where
 mk::(h:∃N out s',run AP N f args s=some (out,s')∧K out s')
theorem Bv {n n':Nat} (h:n≤n'):Fb (run AP n) (run AP n'):=ML h
theorem Run.mono {c:Bd} {env:Env} {s:Am} {Q Q':AZ→Env→Am→Prop} (h:Run AP c env s Q) (hq:∀e env s,Q e env s→Q' e env s):Run AP c env s Q':=by
 obtain⟨N,e,env',s',h1,h2⟩:=h
 exact⟨N,e,env',s',h1,hq _ _ _ h2⟩
def AV.force {R:Sort _} (v:AV) (f:AV→R):R:=
 match v with
 | .bool b=>f (.bool b)
 | .int k n=>f (.int k n)
 | .str s=>f (.str s)
 | .sl nn xs=>f (.sl nn xs)
 | .zc=>f .zc
 | .own o g a b=>f (.own o g a b)
 | .agg cs=>f (.agg cs)
 | .Cb cs=>f (.Cb cs)
 | .ref o g i a=>f (.ref o g i a)
 | .CV cs=>f (.CV cs)
 | .fn g cs=>f (.fn g cs)
 | .map o g=>f (.map o g)
 | .fmap es=>f (.fmap es)
 | .iface t v=>f (.iface t v)
 | .JA=>f .JA
 | .Dt=>f .Dt
 | .Gj=>f .Gj
 | .Ht=>f .Ht
 | .undef=>f .undef
 | .junk=>f .junk
theorem force_eq {R:Sort _} (v:AV) (f:AV→R):v.force f=f v:=by cases v<;>rfl
def LM (b:Bool) (t e:Prop):Prop:=match b with
 |true=>t
 |false=>e
theorem Ry {b:Bool} {t e:Prop} (h1:b=true→t) (h2:b=false→e):LM b t e:=by
 cases b
 ·exact h2 rfl
 ·exact h1 rfl
structure PY (p t e:Prop):Prop where
 mk::(yes:p→t) (no:¬p→e)
structure need (p t:Prop):Prop where
 mk::(l:p) (r:t)
theorem FD {p t:Prop} (h1:p) (h2:t):need p t:=⟨h1,h2⟩
structure Ko (k:IntKind) (z:Int) (K:AV→Prop):Prop where
 mk::(h:∃y,k.wrap z=y∧K (.int k y))
theorem DC {k:IntKind} {z y:Int} {K:AV→Prop} (h:k.wrap z=y) (h2:K (.int k y)):Ko k z K:=⟨y,h,h2⟩
structure Yz {α:Type} (xs:List α) (i:Nat) (K:α→Prop):Prop where
 mk::(h:∃x,nth xs i=some x∧K x)
theorem Ah {α:Type} {xs:List α} {i:Nat} {K:α→Prop} {x:α} (h:nth xs i=some x) (h2:K x):Yz xs i K:=⟨x,h,h2⟩
structure LX {α:Type} (o:Option α) (K:α→Prop):Prop where
 mk::(h:∃x,o=some x∧K x)
theorem AL {α:Type} {o:Option α} {K:α→Prop} {x:α} (h:o=some x) (h2:K x):LX o K:=⟨x,h,h2⟩
structure Acb (AP:Nat→Option G9) (f:Nat) (args:List AV) (K:AV→Prop):Prop where
 mk::(h:∃v,Pure AP f args v∧K v)
def settle (v:AV) (K:AV→Prop):Prop:=match v with
 | .bool b=>LM b (K (.bool true)) (K (.bool false))
 |v=>v.force K
theorem U5 (v:AV) (K:AV→Prop):settle v K↔K v:=by
 cases v<;>first|exact Iff.rfl|skip
 rename_i b
 cases b<;>exact Iff.rfl
def QA {α:Type}:List α→Nat→α→(List α→Prop)→Prop
 |[],_,_,K=>K []
 |_::xs,0,y,K=>K (y::xs)
 |x::xs,n+1,y,K=>QA xs n y fun ys=>K (x::ys)
theorem Eu {α:Type}:∀(l:List α) (n:Nat) (y:α) (K:List α→Prop),QA l n y K↔K (l.set n y)
 |[],_,_,_=>Iff.rfl
 |_::_,0,_,_=>Iff.rfl
 |x::xs,n+1,y,K=>Eu xs n y fun ys=>K (x::ys)
def Zj {α:Type}:List α→α→(List α→Prop)→Prop
 |[],y,K=>K [y]
 |x::xs,y,K=>Zj xs y fun ys=>K (x::ys)
theorem Ob {α:Type}:∀(l:List α) (y:α) (K:List α→Prop),Zj l y K↔K (l++[y])
 |[],_,_=>Iff.rfl
 |x::xs,y,K=>Ob xs y fun ys=>K (x::ys)
def XK (s:Am) (mk:Nat→Nat→AV) (ob:Nat→Obj) (K:AX→Am→Prop):Prop:=
 Zj s.σ (ob s.ctr) fun σ=>K (.ok (mk s.σ.length s.ctr)) ⟨σ,s.ctr+1⟩
structure eqK {α:Type} (a:α) (K:α→Prop):Prop where
 mk::(h:∃b,a=b∧K b)
theorem CB {α:Type} {a b:α} {K:α→Prop} (h1:a=b) (h:K b):eqK a K:=⟨_,h1,h⟩
def Acd (op:BinOp) (k:IntKind) (a b:Int) (K:AV→Prop):Prop:=
 match op with
 | .add=>Ko k (a+b) K
 | .sub=>Ko k (a-b) K
 | .mul=>Ko k (a*b) K
 | .quo=>need (b≠0) (Ko k (a.tdiv b) K)
 | .rem=>need (b≠0) (K (.int k (a.tmod b)))
 | .eql=>PY (a=b) (K (.bool true)) (K (.bool false))
 | .neq=>PY (a=b) (K (.bool false)) (K (.bool true))
 | .lss=>PY (a<b) (K (.bool true)) (K (.bool false))
 | .leq=>PY (a≤b) (K (.bool true)) (K (.bool false))
 | .gtr=>PY (b<a) (K (.bool true)) (K (.bool false))
 | .geq=>PY (b≤a) (K (.bool true)) (K (.bool false))
 | .and=>eqK (k.wrap (BitVec.ofInt k.bits a &&& BitVec.ofInt k.bits b).toNat) fun z=>K (.int k z)
 | .or=>eqK (k.wrap (BitVec.ofInt k.bits a ||| BitVec.ofInt k.bits b).toNat) fun z=>K (.int k z)
 | .xor=>eqK (k.wrap (BitVec.ofInt k.bits a ^^^ BitVec.ofInt k.bits b).toNat) fun z=>K (.int k z)
 | .shl=>need (0≤b) (Ko k (a*2 ^ (min b.toNat k.bits)) K)
 | .shr=>need (0≤b) (eqK (a.fdiv (2 ^ (min b.toNat k.bits))) fun z=>K (.int k z))
 |_=>False
def Ace (op:BinOp) (a b:List UInt8) (K:AV→Prop):Prop:=
 match op with
 | .eql=>PY (a=b) (K (.bool true)) (K (.bool false))
 | .neq=>PY (a=b) (K (.bool false)) (K (.bool true))
 | .lss=>LM (Op.bytesLess a b) (K (.bool true)) (K (.bool false))
 | .leq=>LM (Op.bytesLess a b||a==b) (K (.bool true)) (K (.bool false))
 | .gtr=>LM (Op.bytesLess a b||a==b) (K (.bool false)) (K (.bool true))
 | .geq=>LM (Op.bytesLess a b) (K (.bool false)) (K (.bool true))
 | .add=>need (a.length+b.length<2 ^ 63) (K (.str (a++b)))
 |_=>False
def AfS (op:BinOp) (k k':IntKind) (t:Prop):Prop:=match op with
 | .shl=>t
 | .shr=>t
 |_=>need (k=k') t
theorem Ads {op:BinOp} {k k':IntKind} {t:Prop} (h:AfS op k k' t):(k=k'∨op=.shl∨op=.shr)∧t:=by
 unfold AfS at h
 split at h
 ·exact⟨.inr (.inl rfl),h⟩
 ·exact⟨.inr (.inr rfl),h⟩
 ·exact⟨.inl h.1,h.2⟩
theorem Aid {op:BinOp} {k k':IntKind} {t:JB} {a b:Int} (h:k=k'∨op=.shl∨op=.shr):bin op t (.int k a) (.int k' b)=JY op k a b:=by
 simp only[bin]
 split
 ·rfl
 ·rename_i hk
  rcases h with h|rfl|rfl
  ·exact absurd h hk
  ·rfl
  ·rfl
def Akz (op:BinOp) (t:JB) (x y:AV) (K:AV→Prop):Prop:=
 match x,y with
 | .int k a,.int k' b=>AfS op k k' (Acd op k a b K)
 | .str a,.str b=>Ace op a b K
 |x,y=>LX (bin op t x y) fun v=>settle v K
theorem Abb {op:BinOp} {t:JB} {x y:AV} {K:AV→Prop} (h:Akz op t x y K):∃v,bin op t x y=some v∧K v:=by
 unfold Akz at h
 split at h
 ·rename_i k a k' b
  obtain⟨hk,h⟩:=Ads h
  rw[Aid hk]
  unfold Acd at h
  cases op<;>simp only at h
  case add=>obtain⟨y,h1,h2⟩:=h;exact⟨_,rfl,by rw[h1];exact h2⟩
  case sub=>obtain⟨y,h1,h2⟩:=h;exact⟨_,rfl,by rw[h1];exact h2⟩
  case mul=>obtain⟨y,h1,h2⟩:=h;exact⟨_,rfl,by rw[h1];exact h2⟩
  case quo=>obtain⟨h0,y,h1,h2⟩:=h;exact⟨_,by simp only[JY,if_neg h0];rfl,by rw[h1];exact h2⟩
  case rem=>obtain⟨h0,h2⟩:=h;exact⟨_,by simp only[JY,if_neg h0],h2⟩
  case and=>obtain⟨z,rfl,h2⟩:=h;exact⟨_,rfl,h2⟩
  case or=>obtain⟨z,rfl,h2⟩:=h;exact⟨_,rfl,h2⟩
  case xor=>obtain⟨z,rfl,h2⟩:=h;exact⟨_,rfl,h2⟩
  case shl=>obtain⟨h0,y,h1,h2⟩:=h;exact⟨_,by simp only[JY,if_neg (Int.not_lt.2 h0)];rfl,by rw[h1];exact h2⟩
  case shr=>obtain⟨h0,z,rfl,h2⟩:=h;exact⟨_,by simp only[JY,if_neg (Int.not_lt.2 h0)],h2⟩
  case eql=>
   by_cases c:a=b
   ·exact⟨_,rfl,by have:=h.1 c;simpa only[c,beq_self_eq_true,bne_self_eq_false,Bool.not_true]using this⟩
   ·exact⟨_,rfl,by have:=h.2 c;simpa only[bne,beq_false_of_ne c,Bool.not_false]using this⟩
  case neq=>
   by_cases c:a=b
   ·exact⟨_,rfl,by have:=h.1 c;simpa only[c,beq_self_eq_true,bne_self_eq_false,Bool.not_true]using this⟩
   ·exact⟨_,rfl,by have:=h.2 c;simpa only[bne,beq_false_of_ne c,Bool.not_false]using this⟩
  case lss=>
   by_cases c:a<b
   ·exact⟨_,rfl,by simpa[c]using h.1 c⟩
   ·exact⟨_,rfl,by simpa[c]using h.2 c⟩
  case leq=>
   by_cases c:a≤b
   ·exact⟨_,rfl,by simpa[c]using h.1 c⟩
   ·exact⟨_,rfl,by simpa[c]using h.2 c⟩
  case gtr=>
   by_cases c:b<a
   ·exact⟨_,rfl,by simpa[c]using h.1 c⟩
   ·exact⟨_,rfl,by simpa[c]using h.2 c⟩
  case geq=>
   by_cases c:b≤a
   ·exact⟨_,rfl,by simpa[c]using h.1 c⟩
   ·exact⟨_,rfl,by simpa[c]using h.2 c⟩
 ·rename_i a b
  simp only[bin]
  unfold Ace at h
  cases op<;>simp only at h
  case add=>obtain⟨h0,h2⟩:=h;exact⟨_,by simp only[AaN,if_pos h0],h2⟩
  case eql=>
   by_cases c:a=b
   ·exact⟨_,rfl,by have:=h.1 c;simpa only[c,beq_self_eq_true,bne_self_eq_false,Bool.not_true]using this⟩
   ·exact⟨_,rfl,by have:=h.2 c;simpa only[bne,beq_false_of_ne c,Bool.not_false]using this⟩
  case neq=>
   by_cases c:a=b
   ·exact⟨_,rfl,by have:=h.1 c;simpa only[c,beq_self_eq_true,bne_self_eq_false,Bool.not_true]using this⟩
   ·exact⟨_,rfl,by have:=h.2 c;simpa only[bne,beq_false_of_ne c,Bool.not_false]using this⟩
  case lss=>cases c:Op.bytesLess a b<;>rw[c]at h<;>exact⟨_,rfl,by rw[c];exact h⟩
  case leq=>cases c:(Op.bytesLess a b||a==b)<;>rw[c]at h<;>exact⟨_,rfl,by rw[c];exact h⟩
  case gtr=>cases c:(Op.bytesLess a b||a==b)<;>rw[c]at h<;>exact⟨_,rfl,by rw[c];exact h⟩
  case geq=>cases c:Op.bytesLess a b<;>rw[c]at h<;>exact⟨_,rfl,by rw[c];exact h⟩
 ·obtain⟨v,h1,h2⟩:=h
  exact⟨v,h1,(U5 v K).1 h2⟩
end AI
end Go.Proofs.YtchcadfjbkkgmaaGreatDoor
namespace Go.Proofs.YtchcadfjbkkgmaaGreatDoor
namespace AI
open Go.RowKit
variable {AP:Nat→Option G9}
def done (v:AV) (s:Am) (K:AX→Am→Prop):Prop:=settle v fun v=>K (.ok v) s
def AfT:AQ:=fun _ _ _=>none
def Zk (o:CW) (env:Env) (s:Am) (K:AX→Am→Prop):Prop:=
 LX (Aj AfT o env s) fun r=>match r with
    |(.ok v,s')=>done v s' K
    |(.DI v,s')=>K (.DI v) s'
def Acf (σ:List Obj) (n:Nat) (r:AV) (R:AV→Prop):Prop:=match r with
 | .own o g off len=>match n with
   |0=>False
   |n+1=>match nth σ o with
    |some (.arr g' _ nn cl elems)=>match cl with
     |true=>need (g=g'∧off+len≤elems.length) (eqK (sub elems off len) fun xs=>R (.sl nn xs))
     |false=>LX (snap σ (n+1) (.own o g off len)) R
    |_=>False
 |r=>LX (snap σ n r) R
theorem RS {σ:List Obj} {n:Nat} {r:AV} {R:AV→Prop} (h:Acf σ n r R):∃v,snap σ n r=some v∧R v:=by
 unfold Acf at h
 split at h
 ·rename_i o g off len
  split at h
  ·cases h
  ·split at h
   ·rename_i g' es nn cl elems ho
    split at h
    ·obtain⟨h1,xs,rfl,h2⟩:=h
     refine⟨_,?_,h2⟩
     simp only[snap,ho,if_pos h1,if_true]
    ·obtain⟨v,h1,h2⟩:=h;exact⟨v,h1,h2⟩
   ·cases h
 ·obtain⟨v,h1,h2⟩:=h;exact⟨v,h1,h2⟩
def U6 (σ:List Obj):Nat→List AV→(List AV→Prop)→Prop
 |_,[],K=>K []
 |0,_::_,_=>False
 |n+1,v::vs,K=>Acf σ n v fun a=>U6 σ n vs fun r=>K (a::r)
theorem IZ {σ:List Obj}:∀{n:Nat} {vs:List AV} {K:List AV→Prop},U6 σ n vs K→∃r,Gf σ n vs=some r∧K r
 |n,[],K,h=>⟨[],by cases n<;>rfl,by cases n<;>exact h⟩
 |0,_::_,_,h=>by cases h
 |n+1,v::vs,K,h=>by
  obtain⟨a,h1,h2⟩:=RS h
  obtain⟨r,h3,h4⟩:=IZ h2
  exact⟨_,by simp only[Gf,h1,h3],h4⟩
def Acg (σ:List Obj) (n:Nat) (r:AV) (R:AV→Prop):Prop:=match r with
 | .Cb cs=>match n with
   |0=>False
   |n+1=>U6 σ n cs fun vs=>R (.Cb vs)
 | .agg cs=>match n with
   |0=>False
   |n+1=>U6 σ n cs fun vs=>R (.agg vs)
 |r=>Acf σ n r R
theorem Zl {σ:List Obj} {n:Nat} {r:AV} {R:AV→Prop} (h:Acg σ n r R):∃v,snap σ n r=some v∧R v:=by
 unfold Acg at h
 split at h
 ·split at h
  ·cases h
  ·obtain⟨vs,h1,h2⟩:=IZ h
   exact⟨_,by simp only[snap,h1,Option.map_some],h2⟩
 ·split at h
  ·cases h
  ·obtain⟨vs,h1,h2⟩:=IZ h
   exact⟨_,by simp only[snap,h1,Option.map_some],h2⟩
 ·exact RS h
def AfU (AP:Nat→Option G9) (m:Mode) (f:Nat) (args:List AV) (s:Am) (K:AX→Am→Prop):Prop:=
 match m with
 | .pure=>need (DK args=true) (Acb AP f args fun v=>done v s K)
 | .borrow=>U6 s.σ EZ args fun args'=>Acb AP f args' fun v=>need (v.scalar=true) (done v s K)
 | .share=>A8 AP f args s fun out s'=>match out with
   | .ok r=>LX (compact s.σ.length r s') fun r=>done r.1 r.2 K
   | .DI v=>need (v.closed=true) (K (.DI v) ⟨s'.σ.take s.σ.length,s'.ctr⟩)
 | .own=>∃N r s',Bf (run AP N) .own f args s=some (.ok r,s')∧done r s' K
 | .keep=>A8 AP f args s fun out s'=>match out with
   | .ok r=>done r s' K
   | .DI v=>K (.DI v) s'
structure KI (g g' es es' len:Nat) (nn cl c:Bool) (elems ys:List AV) (bytes:Nat) (K:Nat→Bool→Bool→List AV→Prop):Prop where
 mk::(h:(g=g'∧es=es'∧len≤elems.length∧Bo es ys∧roomy bytes (len+ys.length))∧K (len+ys.length) (nn||!ys.isEmpty) (cl&&c) (elems.take len++ys))
def AkA (a b:Bool) (K:Bool→Prop):Prop:=match b with
 |true=>K a
 |false=>K false
theorem Zm (a b:Bool) (K:Bool→Prop):AkA a b K↔K (a&&b):=by cases a<;>cases b<;>exact Iff.rfl
def AfV (b:Bool) (K:Bool→Prop):Prop:=match b with
 |true=>K true
 |false=>K false
theorem DN (b:Bool) (K:Bool→Prop):AfV b K↔K b:=by cases b<;>exact Iff.rfl
def Ach (env:Env):List (Nat×AO)→(List (Nat×AV)→Prop)→Prop
 |[],K=>K []
 |(j,x)::ps,K=>(x.val env).force fun v=>Ach env ps fun r=>K ((j,v)::r)
theorem Wx (env:Env):∀(ps:List (Nat×AO)) (K:List (Nat×AV)→Prop),Ach env ps K↔K (QS env ps)
 |[],_=>Iff.rfl
 |(j,x)::ps,K=>by simp only[Ach,force_eq,QS];exact Wx env ps _
def GZ (z:AV):Nat→List (Nat×AV)→Nat→(List AV→Prop)→Prop
 |0,_,_,K=>K []
 |n+1,[],i,K=>GZ z n [] (i+1) fun r=>K (z::r)
 |n+1,(j,v)::ps,i,K=>bif Nat.beq i j then GZ z n ps (i+1) fun r=>K (v::r)else GZ z n ((j,v)::ps) (i+1) fun r=>K (z::r)
theorem Ii (z:AV):∀(n:Nat) (ps:List (Nat×AV)) (i:Nat) (K:List AV→Prop),GZ z n ps i K↔K (BZ z n ps i)
 |0,_,_,_=>by simp only[GZ,BZ]
 |n+1,[],i,K=>by simp only[GZ,BZ];exact Ii z n [] (i+1) _
 |n+1,(j,v)::ps,i,K=>by
  simp only[GZ,BZ]
  cases Nat.beq i j
  ·exact Ii z n _ (i+1) _
  ·exact Ii z n _ (i+1) _
def Abc (es:Nat) (v:AV) (s:Am) (K:List AV→Bool→Prop):Prop:=match v with
 | .sl _ xs=>K xs true
 | .zc=>K [] true
 |v=>LX (elemsOf s es v) fun r=>K r.1 r.2
theorem XL {es:Nat} {v:AV} {s:Am} {K:List AV→Bool→Prop} (h:Abc es v s K):∃ys c,elemsOf s es v=some (ys,c)∧K ys c:=by
 unfold Abc at h
 split at h
 ·exact⟨_,_,rfl,h⟩
 ·exact⟨_,_,rfl,h⟩
 ·obtain⟨⟨ys,c⟩,h1,h2⟩:=h
  exact⟨ys,c,h1,h2⟩
def Aie (off j:Nat) (K:Nat→Prop):Prop:=match off with
 |0=>K j
 |n+1=>K (n+1+j)
theorem Zn (off j:Nat) (K:Nat→Prop):Aie off j K↔K (off+j):=by
 cases off with
 |zero=>simp[Aie]
 |succ n=>exact Iff.rfl
structure RU (t:JB) (k:AV) (ents:List (AV×AV)) (K:Option (Nat×AV)→Prop):Prop where
 mk::(h:∃r,findKey t k ents 0=some r∧K r)
def AfW (k v:AV) (ents:List (AV×AV)) (r:Option (Nat×AV)):List (AV×AV):=match r with
 |some (i,_)=>ents.set i (k,v)
 |none=>ents++[(k,v)]
structure Aci (t:JB) (k v:AV) (ents:List (AV×AV)) (K:List (AV×AV)→Prop):Prop where
 mk::(h:∃r,findKey t k ents 0=some r∧K (AfW k v ents r))
def XM (env:Env) (d:Nat) (x:Option AO) (K:Nat→Prop):Prop:=match x with
 |none=>K d
 |some x=>match x.val env with
  | .int _ n=>need (0≤n) (K n.toNat)
  |_=>False
def Tj (env:Env) (len:Nat) (lo hi:Option AO) (K:Nat→Nat→Prop):Prop:=
 XM env len hi fun h=>XM env 0 lo fun l=>need (l≤h∧h≤len) (K l h)
theorem QB {env:Env} {d:Nat} {x:Option AO} {K:Nat→Prop} (h:XM env d x K):∃n,(match x with|none=>some d|some x=>bound (x.val env))=some n∧K n:=by
 unfold XM at h
 split at h
 ·exact⟨d,rfl,h⟩
 ·rename_i x
  split at h
  ·rename_i k n hv
   exact⟨n.toNat,by simp only[hv,bound,if_pos h.1],h.2⟩
  ·cases h
theorem JZ {env:Env} {len:Nat} {lo hi:Option AO} {K:Nat→Nat→Prop} (h:Tj env len lo hi K):∃l u,bounds env len lo hi=some (l,u)∧K l u:=by
 obtain⟨u,h1,h2⟩:=QB h
 obtain⟨l,h3,h4,h5⟩:=QB h2
 refine⟨l,u,?_,h5⟩
 unfold bounds
 cases hi<;>cases lo<;>simp_all
def KH (AP:Nat→Option G9) (o:CW) (env:Env) (s:Am) (K:AX→Am→Prop):Prop:=
 match o with
 | .ZM x=>done (x.val env) s K
 | .JX es=>XK s (fun o g=>.own o g 0 0) (fun g=>.arr g es false true []) K
 | .Ll off e2 es cs=>match nth cs off with
   |some (.sl false [])=>need (0<e2) (XK s (fun o g=>.own o g 0 0) (fun g=>.arr g e2 false true []) fun out s1=>match out with
        | .ok v=>XK s1 (fun o g=>.ref o g 0 0) (fun g=>.arr g es true (AV.agg (cs.set off v)).closed [.agg (cs.set off v)]) K
        | .DI _=>False)
   |_=>False
 | .pick c a b=>match c.val env with
   | .bool c=>LM c (done (a.val env) s K) (done (b.val env) s K)
   |_=>False
 | .alloc es z=>XK s (fun o g=>.ref o g 0 0) (fun g=>.arr g es true z.closed [z]) K
 | .box es x=>(x.val env).force fun v=>need ((v.storable&&v.cells.length==es)=true) (XK s (fun o g=>.ref o g 0 0) (fun g=>.arr g es true v.closed [v]) K)
 | .build z parts=>LX (EL z (KR env parts)) fun cs=>K (.ok (.agg cs)) s
 | .load sz a=>match a.val env with
   | .CV cs=>LX (loadCells cs sz) fun v=>done v s K
   | .ref o g i off=>match nth s.σ o with
     |some (.arr g' _ _ _ elems)=>need (g=g') (Yz elems i fun x=>LX (loadCells (x.cells.drop off) sz) fun v=>done v s K)
     |_=>False
   |_=>False
 | .store sz a x=>match a.val env with
   | .ref o g i off=>match nth s.σ o with
     |some (.arr g' es nn cl elems)=>need (g=g') (Yz elems i fun y=>(x.val env).force fun v=>need ((v.storable&&v.cells.length==sz&&off+sz≤es)=true)
       (AkA cl v.closed fun cl'=>eqK (elems.set i (BQ y off v)) fun es'=>QA s.σ o (.arr g' es nn cl' es') fun σ=>K (.ok .undef) ⟨σ,s.ctr⟩))
     |_=>False
   |_=>False
 | .QX x=>match x.val env with
   | .ref o g i off=>K (.ok (.ref o g i off)) s
   | .CV cs=>K (.ok (.CV cs)) s
   | .fn f cs=>K (.ok (.fn f cs)) s
   |_=>False
 | .bin op t x y=>Akz op t (x.val env) (y.val env) fun v=>K (.ok v) s
 | .un op x=>match op,x.val env with
   | .not,.bool b=>LM b (K (.ok (.bool false)) s) (K (.ok (.bool true)) s)
   | .neg,.int k n=>Ko k (0-n) fun v=>K (.ok v) s
   |_,_=>False
 | .conv k x=>match x.val env with
   | .int _ n=>Ko k n fun v=>K (.ok v) s
   |_=>False
 | .field off sz x=>match x.val env with
   | .agg cs=>LX (loadCells (cs.drop off) sz) fun v=>done v s K
   |_=>False
 | .RG off x=>match x.val env with
   | .CV cs=>K (.ok (.CV (cs.drop off))) s
   | .ref o g i off'=>K (.ok (.ref o g i (off'+off))) s
   |_=>False
 | .UA es x i=>match x.val env,i.val env with
   | .sl _ xs,.int _ i=>need (0≤i) (Yz xs i.toNat fun v=>need (v.cells.length=es) (K (.ok (.CV v.cells)) s))
   | .own o g off len,.int _ i=>match nth s.σ o with
     |some (.arr g' es' _ _ _)=>need (g=g'∧es=es'∧0≤i∧i<len) (Aie off i.toNat fun j=>K (.ok (.ref o g j 0)) s)
     |_=>False
   |_,_=>False
 | .len k x=>match k,x.val env with
   | .slice,.sl _ xs=>eqK xs.length fun n=>K (.ok (.int .i64 n)) s
   | .slice,.own _ _ _ n=>K (.ok (.int .i64 n)) s
   | .str,.str bs=>K (.ok (.int .i64 bs.length)) s
   | .map,.map o g=>match nth s.σ o with
     |some (.mp g' _ ents)=>need (g=g') (K (.ok (.int .i64 ents.length)) s)
     |_=>False
   | .map,.fmap ents=>K (.ok (.int .i64 ents.length)) s
   |_,_=>Zk (.len k x) env s K
 | .P5=>XK s (fun o g=>.map o g) (fun g=>.mp g true []) K
 | .lookup t z SV m k=>match m.val env with
   | .map o g=>match nth s.σ o with
     |some (.mp g' _ ents)=>need (g=g'∧JQ t (k.val env)=true) (RU t (k.val env) ents fun r=>match r with
      |some (_,v)=>bif SV then K (.ok (.Cb [v,.bool true])) s else done v s K
      |none=>bif SV then K (.ok (.Cb [z,.bool false])) s else done z s K)
     |_=>False
   | .fmap ents=>need (JQ t (k.val env)=true) (RU t (k.val env) ents fun r=>match r with
        |some (_,v)=>bif SV then K (.ok (.Cb [v,.bool true])) s else done v s K
        |none=>bif SV then K (.ok (.Cb [z,.bool false])) s else done z s K)
   |_=>Zk (.lookup t z SV m k) env s K
 | .mapset t m k v=>match m.val env with
   | .map o g=>match nth s.σ o with
     |some (.mp g' cl ents)=>(v.val env).force fun vv=>need (g=g'∧JQ t (k.val env)=true∧vv.storable=true)
       (AkA cl vv.closed fun cl'=>Aci t (k.val env) vv ents fun Ab1=>QA s.σ o (.mp g' cl' Ab1) fun σ=>K (.ok .undef) ⟨σ,s.ctr⟩)
     |_=>False
   |_=>False
 | .delete t m k=>match m.val env with
   | .map o g=>match nth s.σ o with
     |some (.mp g' cl ents)=>need (g=g'∧JQ t (k.val env)=true) (RU t (k.val env) ents fun r=>match r with
      |some (i,_)=>QA s.σ o (.mp g' cl (ents.eraseIdx i)) fun σ=>K (.ok .undef) ⟨σ,s.ctr⟩
      |none=>K (.ok .undef) s)
     |_=>False
   |_=>False
 | .lit own es z len parts=>Ach env parts fun ps=>need (UE es len ps 0=true) (GZ z len ps 0 fun xs=>
    bif own then AfV (IQ ps) fun c=>XK s (fun o g=>.own o g 0 len) (fun g=>.arr g es true c xs) K
    else bif Nat.beq len 0 then K (.ok .zc) s else need (IQ ps=true) (K (.ok (.sl true xs)) s))
 | .AaM x i=>match x.val env,i.val env with
   | .str bs,.int _ i=>need (0≤i) (Yz bs i.toNat fun b=>K (.ok (.int .u8 b.toNat)) s)
   |_,_=>False
 | .slice es x lo hi=>match x.val env with
   | .sl nn xs=>Tj env xs.length lo hi fun l h=>need (Bo es xs) (eqK (sub xs l (h-l)) fun ys=>K (.ok (.sl nn ys)) s)
   | .own o g off len=>match nth s.σ o with
     |some (.arr g' es' _ _ _)=>need (g=g'∧es=es') (Tj env len lo hi fun l h=>Aie off l fun j=>K (.ok (.own o g j (h-l))) s)
     |_=>False
   |_=>Zk (.slice es x lo hi) env s K
 | .MR x lo hi=>match x.val env with
   | .str bs=>Tj env bs.length lo hi fun l h=>eqK ((bs.drop l).take (h-l)) fun r=>K (.ok (.str r)) s
   |_=>False
 | .append es bytes a x=>Abc es (x.val env) s fun ys c=>match a.val env with
   | .own o g 0 len=>match nth s.σ o with
     |some (.arr g' es' nn cl' elems)=>KI g g' es es' len nn cl' c elems ys bytes fun n nn cl es'=>QA s.σ o (.arr s.ctr es nn cl es') fun σ=>K (.ok (.own o s.ctr 0 n)) ⟨σ,s.ctr+1⟩
     |_=>False
   |v=>LX (Em es bytes s v ys c) fun r=>done r.1 r.2 K
 | .IU es bytes z len cap=>match len.val env,cap.val env with
   | .int _ l,.int _ c=>need (0≤l∧l≤c∧roomy bytes c.toNat) (eqK (List.replicate l.toNat z) fun xs=>XK s (fun o g=>.own o g 0 l.toNat) (fun g=>.arr g es true z.closed xs) K)
   |_,_=>False
 | .ext x i=>match x.val env with
   | .Cb cs=>LX (nth cs i) fun v=>done v s K
   |_=>False
 | .call m f args=>AfU AP m f (vals env args) s K
 | .Io m x args=>match x.val env with
   | .fn f caps=>AfU AP m f (vals env args++caps) s K
   |_=>False
 |o=>Zk o env s K
theorem Adt (C:AQ):Fb AfT C:=fun _ _ _ _ h=>by cases h
theorem Dq (v:AV) (s:Am) (K:AX→Am→Prop):done v s K↔K (.ok v) s:=U5 v _
theorem JU {o:CW} {env:Env} {s:Am} {K:AX→Am→Prop} (h:Zk o env s K):Op1 AP o env s K:=by
 obtain⟨⟨out,s'⟩,h1,h2⟩:=h
 refine⟨0,out,s',CO (Adt _) h1,?_⟩
 cases out with
 |ok v=>exact(Dq v s' K).1 h2
 |DI v=>exact h2
theorem RV {m:Mode} {f:Nat} {args:List AV} {s:Am} {K:AX→Am→Prop} (h:AfU AP m f args s K):∃N out s',Bf (run AP N) m f args s=some (out,s')∧K out s':=by
 cases m with
 |pure=>
  obtain⟨hc,v,⟨N,hp⟩,hk⟩:=h
  exact⟨N,.ok v,s,by simp only[Bf,if_pos hc,hp,Option.map_some],(Dq v s K).1 hk⟩
 |borrow=>
  obtain⟨args',ha,v,⟨N,hp⟩,hs,hk⟩:=IZ h
  exact⟨N,.ok v,s,by simp only[Bf,ha,hp,if_pos hs],(Dq v s K).1 hk⟩
 |share=>
  obtain⟨N,out,s',hr,hk⟩:=h
  cases out with
  |ok r=>
   obtain⟨⟨r',s''⟩,h1,h2⟩:=hk
   exact⟨N,.ok r',s'',by simp only[Bf,hr,h1,Option.map_some],(Dq r' s'' K).1 h2⟩
  |DI v=>
   obtain⟨h1,h2⟩:=hk
   exact⟨N,.DI v,_,by simp only[Bf,hr,if_pos h1],h2⟩
 |own=>
  obtain⟨N,r,s',h1,h2⟩:=h
  exact⟨N,.ok r,s',h1,(Dq r s' K).1 h2⟩
 |keep=>
  obtain⟨N,out,s',hr,hk⟩:=h
  cases out with
  |ok r=>exact⟨N,.ok r,s',hr,(Dq r s' K).1 hk⟩
  |DI v=>exact⟨N,.DI v,s',hr,hk⟩
theorem Ir {s:Am} {mk:Nat→Nat→AV} {ob:Nat→Obj} {K:AX→Am→Prop}:XK s mk ob K↔K (.ok (mk s.σ.length s.ctr)) (push s (ob s.ctr)):=Ob _ _ _
theorem Ia {o:CW} {env:Env} {s:Am} {K:AX→Am→Prop} (h:KH AP o env s K):Op1 AP o env s K:=by
 cases o
 case ZM x=>exact⟨0,_,_,rfl,(Dq _ _ _).1 h⟩
 case JX es=>simp only[KH]at h;exact⟨0,_,_,rfl,Ir.1 h⟩
 case Ll off e2 es cs=>
  simp only[KH]at h
  split at h
  case h_2=>cases h
  rename_i hoff
  obtain⟨he,h⟩:=h
  have h:=Ir.1 h
  have h:=Ir.1 h
  refine⟨0,_,_,?_,h⟩
  simp only[Aj,hoff,if_pos he]
  simp[push]
 case pick c a b=>
  simp only[KH]at h
  split at h
  ·rename_i c' hc
   cases c'
   ·exact⟨0,_,_,by simp only[Aj,hc],(Dq _ _ _).1 h⟩
   ·exact⟨0,_,_,by simp only[Aj,hc],(Dq _ _ _).1 h⟩
  ·cases h
 case alloc es z=>simp only[KH]at h;exact⟨0,_,_,rfl,Ir.1 h⟩
 case box es x=>
  simp only[KH,force_eq]at h
  obtain⟨h1,h2⟩:=h
  exact⟨0,_,_,by simp only[Aj,if_pos h1],Ir.1 h2⟩
 case build z ps=>
  obtain⟨cs,h1,h2⟩:=h
  exact⟨0,_,_,by simp only[Aj,h1,Option.map_some],h2⟩
 case load sz a=>
  simp only[KH]at h
  split at h
  ·rename_i cs hv
   obtain⟨v,h1,h2⟩:=h
   exact⟨0,_,_,by simp only[Aj,hv,ok,h1,Option.map_some],(Dq _ _ _).1 h2⟩
  ·rename_i o g i off hv
   split at h
   ·rename_i g' es nn cl elems ho
    obtain⟨hg,x,hx,v,h1,h2⟩:=h
    exact⟨0,_,_,by simp only[Aj,hv,ho,if_pos hg,hx,ok,h1,Option.map_some],(Dq _ _ _).1 h2⟩
   ·cases h
  ·cases h
 case store sz a x=>
  simp only[KH]at h
  split at h
  ·rename_i o g i off hv
   split at h
   ·rename_i g' es nn cl elems ho
    obtain⟨hg,y,hy,h⟩:=h
    rw[force_eq]at h
    obtain⟨h1,h2⟩:=h
    rw[Zm]at h2
    obtain⟨es',rfl,h2⟩:=h2
    rw[Eu]at h2
    exact⟨0,_,_,by simp only[Aj,hv,ho,if_pos hg,hy,h1,if_true],h2⟩
   ·cases h
  ·cases h
 case QX x=>
  simp only[KH]at h
  split at h
  ·rename_i hv;exact⟨0,_,_,by simp only[Aj,hv],h⟩
  ·rename_i hv;exact⟨0,_,_,by simp only[Aj,hv],h⟩
  ·rename_i hv;exact⟨0,_,_,by simp only[Aj,hv],h⟩
  ·cases h
 case bin op t x y=>
  obtain⟨v,h1,h2⟩:=Abb h
  exact⟨0,_,_,by simp only[Aj,ok,h1,Option.map_some],h2⟩
 case un op x=>
  simp only[KH]at h
  split at h
  ·rename_i b hv
   cases b
   ·exact⟨0,_,_,by simp only[Aj,hv,Bool.not_false],h⟩
   ·exact⟨0,_,_,by simp only[Aj,hv,Bool.not_true],h⟩
  ·rename_i k n hv
   obtain⟨y,h1,h2⟩:=h
   exact⟨0,_,_,by simp only[Aj,hv,h1],h2⟩
  ·cases h
 case conv k x=>
  simp only[KH]at h
  split at h
  ·rename_i k' n hv
   obtain⟨y,h1,h2⟩:=h
   exact⟨0,_,_,by simp only[Aj,hv,h1],h2⟩
  ·cases h
 case field off sz x=>
  simp only[KH]at h
  split at h
  ·rename_i cs hv
   obtain⟨v,h1,h2⟩:=h
   exact⟨0,_,_,by simp only[Aj,hv,ok,h1,Option.map_some],(Dq _ _ _).1 h2⟩
  ·cases h
 case RG off x=>
  simp only[KH]at h
  split at h
  ·rename_i hv;exact⟨0,_,_,by simp only[Aj,hv],h⟩
  ·rename_i hv;exact⟨0,_,_,by simp only[Aj,hv],h⟩
  ·cases h
 case UA es x i=>
  simp only[KH]at h
  split at h
  ·rename_i nn xs k n hx hi
   obtain⟨h0,v,h1,h2,h3⟩:=h
   exact⟨0,_,_,by simp only[Aj,hx,hi,if_pos h0,h1,if_pos h2],h3⟩
  ·rename_i o g off len k n hx hi
   split at h
   ·rename_i g' es' nn cl elems ho
    obtain⟨h1,h2⟩:=h
    rw[Zn]at h2
    exact⟨0,_,_,by simp only[Aj,hx,hi,ho,if_pos h1],h2⟩
   ·cases h
  ·cases h
 case len k x=>
  simp only[KH]at h
  split at h
  ·rename_i hv
   obtain⟨n,rfl,h⟩:=h
   exact⟨0,_,_,by simp only[Aj,hv],h⟩
  ·rename_i hv;exact⟨0,_,_,by simp only[Aj,hv],h⟩
  ·rename_i hv;exact⟨0,_,_,by simp only[Aj,hv],h⟩
  ·rename_i o g hv
   split at h
   ·rename_i g' cl ents ho
    obtain⟨h1,h2⟩:=h
    exact⟨0,_,_,by simp only[Aj,hv,ho,if_pos h1],h2⟩
   ·cases h
  ·rename_i hv;exact⟨0,_,_,by simp only[Aj,hv],h⟩
  ·exact JU h
 case AaM x i=>
  simp only[KH]at h
  split at h
  ·rename_i bs k n hx hi
   obtain⟨h1,b,h2,h3⟩:=h
   exact⟨0,_,_,by simp only[Aj,hx,hi,if_pos h1,h2],h3⟩
  ·cases h
 case slice es x lo hi=>
  simp only[KH]at h
  split at h
  ·rename_i nn xs hx
   obtain⟨l,u,h1,h2,ys,rfl,h3⟩:=JZ h
   exact⟨0,_,_,by simp only[Aj,hx,h1,if_pos h2],h3⟩
  ·rename_i o g off len hx
   split at h
   ·rename_i g' es' nn cl elems ho
    obtain⟨hg,h⟩:=h
    obtain⟨l,u,h1,h2⟩:=JZ h
    rw[Zn]at h2
    exact⟨0,_,_,by simp only[Aj,hx,ho,if_pos hg,h1],h2⟩
   ·cases h
  ·exact JU h
 case MR x lo hi=>
  simp only[KH]at h
  split at h
  ·rename_i bs hx
   obtain⟨l,u,h1,r,rfl,h2⟩:=JZ h
   exact⟨0,_,_,by simp only[Aj,hx,h1],h2⟩
  ·cases h
 case P5=>simp only[KH]at h;exact⟨0,_,_,rfl,Ir.1 h⟩
 case lookup t z SV m k=>
  simp only[KH]at h
  split at h
  ·rename_i o g hv
   split at h
   ·rename_i g' cl ents ho
    obtain⟨h1,r,h2,h3⟩:=h
    cases r with
    |none=>
     cases SV
     ·exact⟨0,_,_,by simp only[Aj,hv,ho,if_pos h1,h2];rfl,(Dq _ _ _).1 h3⟩
     ·exact⟨0,_,_,by simp only[Aj,hv,ho,if_pos h1,h2];rfl,h3⟩
    |some p=>
     cases SV
     ·exact⟨0,_,_,by simp only[Aj,hv,ho,if_pos h1,h2];rfl,(Dq _ _ _).1 h3⟩
     ·exact⟨0,_,_,by simp only[Aj,hv,ho,if_pos h1,h2];rfl,h3⟩
   ·cases h
  ·rename_i ents hv
   obtain⟨h1,r,h2,h3⟩:=h
   cases r with
   |none=>
    cases SV
    ·exact⟨0,_,_,by simp only[Aj,hv,if_pos h1,h2];rfl,(Dq _ _ _).1 h3⟩
    ·exact⟨0,_,_,by simp only[Aj,hv,if_pos h1,h2];rfl,h3⟩
   |some p=>
    cases SV
    ·exact⟨0,_,_,by simp only[Aj,hv,if_pos h1,h2];rfl,(Dq _ _ _).1 h3⟩
    ·exact⟨0,_,_,by simp only[Aj,hv,if_pos h1,h2];rfl,h3⟩
  ·exact JU h
 case mapset t m k v=>
  simp only[KH]at h
  split at h
  ·rename_i o g hv
   split at h
   ·rename_i g' cl ents ho
    rw[force_eq]at h
    obtain⟨h1,h2⟩:=h
    rw[Zm]at h2
    obtain⟨r,h2,h3⟩:=h2
    rw[Eu]at h3
    cases r with
    |none=>exact⟨0,_,_,by simp only[Aj,hv,ho,if_pos h1,h2];rfl,h3⟩
    |some p=>exact⟨0,_,_,by simp only[Aj,hv,ho,if_pos h1,h2];rfl,h3⟩
   ·cases h
  ·cases h
 case delete t m k=>
  simp only[KH]at h
  split at h
  ·rename_i o g hv
   split at h
   ·rename_i g' cl ents ho
    obtain⟨h1,r,h2,h3⟩:=h
    cases r with
    |none=>exact⟨0,_,_,by simp only[Aj,hv,ho,if_pos h1,h2],h3⟩
    |some p=>
     simp only at h3
     rw[Eu]at h3
     exact⟨0,_,_,by simp only[Aj,hv,ho,if_pos h1,h2],h3⟩
   ·cases h
  ·cases h
 case lit own es z len parts=>
  simp only[KH,Wx]at h
  obtain⟨h1,h2⟩:=h
  rw[Ii]at h2
  cases own
  ·rw[cond_false]at h2
   cases hb:Nat.beq len 0
   ·rw[hb,cond_false]at h2
    have hne:len≠0:=fun e=>by subst e;simp at hb
    exact⟨0,_,_,by simp only[Aj,if_pos h1,if_neg hne,if_pos h2.1];rfl,h2.2⟩
   ·rw[hb,cond_true]at h2
    have he:len=0:=Nat.eq_of_beq_eq_true hb
    exact⟨0,_,_,by simp only[Aj,if_pos h1,if_pos he];rfl,h2⟩
  ·rw[cond_true,DN]at h2
   exact⟨0,_,_,by simp only[Aj,if_pos h1,if_true],Ir.1 h2⟩
 case append es bytes a x=>
  simp only[KH]at h
  obtain⟨ys,cl,h1,h⟩:=XL h
  split at h
  ·rename_i o g len hv
   split at h
   ·rename_i g' es' nn cl' elems ho
    obtain⟨h2,h3⟩:=h
    rw[Eu]at h3
    exact⟨0,_,_,by simp only[Aj,h1,hv,Em,ho,if_pos h2,Option.map_some],h3⟩
   ·cases h
  ·obtain⟨⟨v,s'⟩,h2,h3⟩:=h
   exact⟨0,_,_,by simp only[Aj,h1,h2,Option.map_some],(Dq _ _ _).1 h3⟩
 case IU es bytes z len cap=>
  simp only[KH]at h
  split at h
  ·rename_i k l k' c hl hc
   obtain⟨h1,xs,rfl,h2⟩:=h
   exact⟨0,_,_,by simp only[Aj,hl,hc,if_pos h1],Ir.1 h2⟩
  ·cases h
 case ext x i=>
  simp only[KH]at h
  split at h
  ·rename_i cs hv
   obtain⟨v,h1,h2⟩:=h
   exact⟨0,_,_,by simp only[Aj,hv,ok,h1,Option.map_some],(Dq _ _ _).1 h2⟩
  ·cases h
 case call m f args=>exact RV h
 case Io m x args=>
  simp only[KH]at h
  split at h
  ·rename_i f caps hv
   obtain⟨N,out,s',h1,h2⟩:=RV h
   exact⟨N,out,s',by simp only[Aj,hv];exact h1,h2⟩
  ·cases h
 all_goals exact JU h
end AI
end Go.Proofs.YtchcadfjbkkgmaaGreatDoor
namespace Go.Proofs.YtchcadfjbkkgmaaGreatDoor
namespace AI
open Go.RowKit
variable {AP:Nat→Option G9}
def Gt (g:Option (Nat×Bool)) (env:Env) (t e:Prop):Prop:=match g with
 |none=>t
 |some (r,b)=>match env.get r with
  | .bool b'=>LM (b'==b) t e
  | .undef=>e
  |_=>False
def AfX (k:Env→Am→Prop) (d:Option Nat) (env:Env) (Q:AZ→Env→Am→Prop) (out:AX) (s:Am):Prop:=match out with
 | .ok v=>k (put d v env) s
 | .DI v=>Q (.DI v) env s
def Zo (AP:Nat→Option G9) (ops:List AU):Env→Am→(AZ→Env→Am→Prop)→Prop:=
 List.rec (motive:=fun _=>Env→Am→(AZ→Env→Am→Prop)→Prop) (fun env s Q=>Q .normal env s)
    (fun o _ ih env s Q=>Gt o.guard env (KH AP o.op env s (AfX (fun env s=>ih env s Q) o.dst env Q)) (ih (put o.dst .undef env) s Q)) ops
theorem Adu (o:AU) (os:List AU) (env:Env) (s:Am) (Q:AZ→Env→Am→Prop):Zo AP (o::os) env s Q=Gt o.guard env
 (KH AP o.op env s (AfX (fun env s=>Zo AP os env s Q) o.dst env Q))
 (Zo AP os (put o.dst .undef env) s Q):=rfl
theorem H9:∀{os:List AU} {env:Env} {s:Am} {Q:AZ→Env→Am→Prop},Zo AP os env s Q→Ops AP os env s Q
 |[],env,s,Q,h=>⟨0,_,_,_,rfl,h⟩
 |o::os,env,s,Q,h=>by
  have Nz:wanted o.guard env=some false→Zo AP os (put o.dst .undef env) s Q→Ops AP (o::os) env s Q:=by
   intro hw h
   obtain⟨N,e,env',s',h1,h2⟩:=H9 h
   exact⟨N,e,env',s',by simp only[DL,hw];exact h1,h2⟩
  have hdo:wanted o.guard env=some true→KH AP o.op env s (AfX (fun env s=>Zo AP os env s Q) o.dst env Q)→Ops AP (o::os) env s Q:=by
   intro hw h
   obtain⟨N,out,s1,h1,h2⟩:=Ia h
   cases out with
   |ok v=>
    obtain⟨N',e,env',s',h3,h4⟩:=H9 h2
    refine⟨max N N',e,env',s',?_,h4⟩
    simp only[DL,hw,CO (Bv (Nat.le_max_left N N')) h1]
    exact FU (Bv (Nat.le_max_right N N')) h3
   |DI v=>exact⟨N,_,_,_,by simp only[DL,hw,h1],h2⟩
  rw[Adu]at h
  unfold Gt at h
  split at h
  ·rename_i hg
   exact hdo (by rw[hg];rfl) h
  ·rename_i r b hg
   split at h
   ·rename_i b' hb
    cases hbb:(b'==b)
    ·rw[hbb]at h
     exact Nz (by rw[hg];simp only[wanted,hb,hbb]) h
    ·rw[hbb]at h
     exact hdo (by rw[hg];simp only[wanted,hb,hbb]) h
   ·rename_i hb
    exact Nz (by rw[hg];simp only[wanted,hb]) h
   ·cases h
def Lu:List Nat→Env→(Env→Prop)→Prop
 |[],_,K=>K []
 |t::ts,env,K=>(env.get t).force fun v=>Lu ts env fun e=>K ((t,v)::e)
theorem EG:∀(ts:List Nat) (env:Env) (K:Env→Prop),Lu ts env K↔K (commit env ts)
 |[],_,_=>Iff.rfl
 |t::ts,env,K=>by
  simp only[Lu,force_eq,commit]
  exact EG ts env _
def U7:List Nat→Env→Am→(Env→Am→Prop)→Prop
 |[],env,s,K=>K env s
 |t::ts,env,s,K=>match env.get t with
  | .own o g off len=>match nth s.σ o with
    |some (.arr g' _ nn cl elems)=>need (g=g'∧cl=true∧off+len≤elems.length) (eqK (sub elems off len) fun xs=>QA s.σ o .dead fun σ=>U7 ts ((t,.sl nn xs)::env) ⟨σ,s.ctr⟩ K)
    |_=>False
  | .ref o g i off=>match nth s.σ o with
    |some (.arr g' _ nn cl elems)=>match cl,elems with
     |false,[x]=>match NU x.cells 0 with
      |some (k,o2,g2,a2,n2)=>match nth s.σ o2 with
       |some (.arr g3 _ nn3 cl3 Jp)=>need ((g=g'∧i=0∧off=0∧g2=g3∧o2≠o∧a2+n2≤Jp.length∧cl3=true)∧DK (x.cells.set k (.sl nn3 (sub Jp a2 n2)))=true) (eqK (sub Jp a2 n2) fun xs=>QA s.σ o2 .dead fun σ1=>QA σ1 o .dead fun σ2=>U7 ts ((t,.CV (x.cells.set k (.sl nn3 xs)))::env) ⟨σ2,s.ctr⟩ K)
       |_=>False
      |none=>False
     |cl,elems=>need (g=g'∧cl=true) (Yz elems i fun x=>QA s.σ o .dead fun σ=>U7 ts ((t,.CV (x.cells.drop off))::env) ⟨σ,s.ctr⟩ K)
    |_=>False
  | .map o g=>match nth s.σ o with
    |some (.mp g' cl ents)=>need (g=g'∧cl=true∧YE ents=true) (QA s.σ o .dead fun σ=>U7 ts ((t,.fmap ents)::env) ⟨σ,s.ctr⟩ K)
    |_=>False
  | .sl nn xs=>U7 ts ((t,.sl nn xs)::env) s K
  | .zc=>U7 ts ((t,.zc)::env) s K
  |_=>False
theorem EP:∀{ts:List Nat} {env:Env} {s:Am} {K:Env→Am→Prop},U7 ts env s K→∃env' s',GK ts env s=some (env',s')∧K env' s'
 |[],env,s,K,h=>⟨env,s,rfl,h⟩
 |t::ts,env,s,K,h=>by
  simp only[U7]at h
  split at h
  ·rename_i o g off len hv
   split at h
   ·rename_i g' es nn cl elems ho
    obtain⟨⟨rfl,rfl,hf⟩,xs,rfl,h⟩:=h
    rw[Eu]at h
    obtain⟨env',s',h1,h2⟩:=EP h
    exact⟨env',s',by simp only[GK,hv,ho,true_and,if_pos hf];exact h1,h2⟩
   ·cases h
  ·rename_i o g i off hv
   split at h
   ·rename_i g' es nn cl elems ho
    split at h
    ·rename_i x
     split at h
     ·rename_i k o2 g2 a2 n2 hoc
      split at h
      ·rename_i g3 es3 nn3 cl3 Jp ho2
       obtain⟨⟨⟨hq1,hq2,hq3,hq4,hq5,hq6,rfl⟩,hcl⟩,xs,rfl,h⟩:=h
       rw[Eu,Eu]at h
       obtain⟨env',s',h1,h2⟩:=EP h
       refine⟨env',s',?_,h2⟩
       simp only[GK,hv,ho,hoc,ho2]
       rw[if_pos ⟨hq1,hq2,hq3,hq4,hq5,hq6,hcl⟩]
       exact h1
      ·cases h
     ·cases h
    ·obtain⟨⟨rfl,rfl⟩,⟨x,hx,h⟩⟩:=h
     rw[Eu]at h
     obtain⟨env',s',h1,h2⟩:=EP h
     exact⟨env',s',by simp only[GK,hv,ho,if_pos,hx];exact h1,h2⟩
   ·cases h
  ·rename_i o g hv
   split at h
   ·rename_i g' cl ents ho
    obtain⟨⟨rfl,rfl,hk⟩,h⟩:=h
    rw[Eu]at h
    obtain⟨env',s',h1,h2⟩:=EP h
    exact⟨env',s',by simp only[GK,hv,ho,true_and,if_pos hk];exact h1,h2⟩
   ·cases h
  ·rename_i nn xs hv
   obtain⟨env',s',h1,h2⟩:=EP h
   exact⟨env',s',by simp only[GK,hv];exact h1,h2⟩
  ·rename_i hv
   obtain⟨env',s',h1,h2⟩:=EP h
   exact⟨env',s',by simp only[GK,hv];exact h1,h2⟩
  ·cases h
def Wy {α:Type}:Nat→List α→(List α→Prop)→Prop
 |0,_,K=>K []
 |_+1,[],K=>K []
 |n+1,x::xs,K=>Wy n xs fun ys=>K (x::ys)
theorem Q9 {α:Type}:∀(n:Nat) (l:List α) (K:List α→Prop),Wy n l K↔K (l.take n)
 |0,_,_=>by simp[Wy]
 |_+1,[],_=>by simp[Wy]
 |n+1,x::xs,K=>Q9 n xs fun ys=>K (x::ys)
def AfY (tr:Option Nat) (s:Am) (K:Am→Prop):Prop:=match tr with
 |none=>K s
 |some k=>Wy (kept k s.σ.length) s.σ fun σ=>K ⟨σ,s.ctr⟩
theorem O8 (tr:Option Nat) (s:Am) (K:Am→Prop):AfY tr s K↔K (truncate tr s):=by
 cases tr with
 |none=>exact Iff.rfl
 |some k=>exact Q9 _ s.σ _
def AfZ (live:List Nat) (tr:Option Nat) (Q:AZ→Env→Am→Prop) (e:AZ) (env:Env) (s:Am):Prop:=match e with
 | .normal=>Lu live env fun env=>AfY tr s fun s=>Q .normal env s
 |e=>Q e env s
def Ape (k:Env→Am→Prop) (Q:AZ→Env→Am→Prop) (e:AZ) (env:Env) (s:Am):Prop:=match e with
 | .normal=>k env s
 |e=>Q e env s
def AmM (id:Nat) (Q:AZ→Env→Am→Prop) (e:AZ) (env:Env) (s:Am):Prop:=match e with
 | .exit j=>LM (Nat.beq j id) (Q .normal env s) (Q (.exit j) env s)
 |e=>Q e env s
def XO (AP:Nat→Option G9) (o:CW) (r g:Nat) (env:Env) (s:Am) (K:AV→Option (Nat×Obj)→Nat→Prop):Prop:=
 KH AP o env s fun out s'=>match out with
    | .DI _=>False
    | .ok v=>match o.cls with
      |some .e=>K v none 0
      |some .r=>K v none 0
      |some .w=>match o.writes r env with
       |[t]=>match nth s'.σ t with
        |some ob=>K v (some (t,ob)) 0
        |none=>False
       |_=>False
      |some .a=>match nth s'.σ v.idx with
       |some ob=>bif Nat.blt v.idx s.σ.length then K (v.moved v.idx g) (some (v.idx,ob.Rz g)) 1
        else match nth s.σ r with
           |some .dead=>K (v.moved r g) (some (r,ob.Rz g)) 1
           |_=>False
       |none=>False
      |none=>False
theorem XP {o:CW} {r g:Nat} {env:Env} {s:Am} {K:AV→Option (Nat×Obj)→Nat→Prop} (h:XO AP o r g env s K):∃N v u b,Jm (run AP N) o r g env s=some (v,u,b)∧K v u b:=by
 obtain⟨N,out,s',h1,h2⟩:=Ia h
 cases out with
 |DI v=>cases h2
 |ok v=>
  simp only at h2
  split at h2
  ·rename_i hc;exact⟨N,_,_,_,by simp only[Jm,hc,h1],h2⟩
  ·rename_i hc;exact⟨N,_,_,_,by simp only[Jm,hc,h1],h2⟩
  ·rename_i hc
   split at h2
   ·rename_i t ht
    split at h2
    ·rename_i ob hob;exact⟨N,_,_,_,by simp only[Jm,hc,h1,ht,hob],h2⟩
    ·cases h2
   ·cases h2
  ·rename_i hc
   split at h2
   ·rename_i ob hob
    cases hb:Nat.blt v.idx s.σ.length
    ·rw[hb,cond_false]at h2
     have hlt:¬v.idx<s.σ.length:=fun hlt=>by
      have:=(show (Nat.blt v.idx s.σ.length=true) from Nat.blt_eq▸hlt)
      rw[hb]at this;cases this
     split at h2
     ·rename_i hd
      exact⟨N,_,_,_,by simp only[Jm,hc,h1,hob,if_neg hlt,hd],h2⟩
     ·cases h2
    ·rw[hb,cond_true]at h2
     exact⟨N,_,_,_,by simp only[Jm,hc,h1,hob,if_pos (show v.idx<s.σ.length from Nat.blt_eq▸hb)],h2⟩
   ·cases h2
  ·cases h2
def Oc (u:Option (Nat×Obj)) (b:Nat) (s:Am) (K:Am→Prop):Prop:=match u with
 |some (t,ob)=>QA s.σ t ob fun σ=>K ⟨σ,s.ctr+b⟩
 |none=>K ⟨s.σ,s.ctr+b⟩
theorem RX (u:Option (Nat×Obj)) (b:Nat) (s:Am) (K:Am→Prop):Oc u b s K↔K (FQ u b s):=by
 unfold Oc FQ
 split
 ·exact Eu _ _ _ _
 ·exact Iff.rfl
def Abd (AP:Nat→Option G9) (ops:List AU):Nat→Nat→Env→Am→(List Eff→Prop)→Prop:=
 List.rec (motive:=fun _=>Nat→Nat→Env→Am→(List Eff→Prop)→Prop) (fun _ _ _ _ K=>K [])
    (fun o _ ih r g env s K=>Gt o.guard env
      (XO AP o.op r g env s fun v u b=>Oc u b s fun s'=>ih (r+rank o.op) (g+1) (put o.dst v env) s' fun es=>K (⟨o.dst,v,o.op.reads r env,o.op.writes r env,u,b⟩::es))
      (ih (r+rank o.op) (g+1) (put o.dst .undef env) s fun es=>K (⟨o.dst,.undef,[],[],none,0⟩::es))) ops
theorem Adv (o:AU) (os:List AU) (r g:Nat) (env:Env) (s:Am) (K:List Eff→Prop):Abd AP (o::os) r g env s K=Gt o.guard env
 (XO AP o.op r g env s fun v u b=>Oc u b s fun s'=>Abd AP os (r+rank o.op) (g+1) (put o.dst v env) s' fun es=>K (⟨o.dst,v,o.op.reads r env,o.op.writes r env,u,b⟩::es))
 (Abd AP os (r+rank o.op) (g+1) (put o.dst .undef env) s fun es=>K (⟨o.dst,.undef,[],[],none,0⟩::es)):=rfl
theorem O9:∀{os:List AU} {r g:Nat} {env:Env} {s:Am} {K:List Eff→Prop},Abd AP os r g env s K→∃N es,IE (run AP N) os r g env s=some es∧K es
 |[],r,g,env,s,K,h=>⟨0,_,rfl,h⟩
 |o::os,r,g,env,s,K,h=>by
  have Nz:wanted o.guard env=some false→(Abd AP os (r+rank o.op) (g+1) (put o.dst .undef env) s fun es=>K (⟨o.dst,.undef,[],[],none,0⟩::es))→∃N es,IE (run AP N) (o::os) r g env s=some es∧K es:=by
   intro hw h
   obtain⟨N,es,h1,h2⟩:=O9 h
   exact⟨N,_,by simp only[IE,hw,h1],h2⟩
  have hdo:wanted o.guard env=some true→(XO AP o.op r g env s fun v u b=>Oc u b s fun s'=>Abd AP os (r+rank o.op) (g+1) (put o.dst v env) s' fun es=>K (⟨o.dst,v,o.op.reads r env,o.op.writes r env,u,b⟩::es))→∃N es,IE (run AP N) (o::os) r g env s=some es∧K es:=by
   intro hw h
   obtain⟨N,v,u,b,h1,h2⟩:=XP h
   rw[RX]at h2
   obtain⟨N',es,h3,h4⟩:=O9 h2
   refine⟨max N N',_,?_,h4⟩
   simp only[IE,hw,Ut (Bv (Nat.le_max_left N N')) h1,Jq (Bv (AP:=AP) (Nat.le_max_right N N')) h3]
  rw[Adv]at h
  unfold Gt at h
  split at h
  ·rename_i hg
   exact hdo (by rw[hg];rfl) h
  ·rename_i r' b hg
   split at h
   ·rename_i b' hb
    cases hbb:(b'==b)
    ·rw[hbb]at h
     exact Nz (by rw[hg];simp only[wanted,hb,hbb]) h
    ·rw[hbb]at h
     exact hdo (by rw[hg];simp only[wanted,hb,hbb]) h
   ·rename_i hb
    exact Nz (by rw[hg];simp only[wanted,hb]) h
   ·cases h
def Af0 {α:Type}:List α→List α→(List α→Prop)→Prop
 |[],ys,K=>K ys
 |x::xs,ys,K=>Af0 xs ys fun r=>K (x::r)
theorem WA {α:Type}:∀(xs ys:List α) (K:List α→Prop),Af0 xs ys K↔K (xs++ys)
 |[],_,_=>Iff.rfl
 |x::xs,ys,K=>WA xs ys _
def Tn:List Eff→Am→(Am→Prop)→Prop
 |[],s,K=>K s
 |e::es,s,K=>Oc e.upd e.bump s fun s=>Tn es s K
theorem RY:∀(es:List Eff) (s:Am) (K:Am→Prop),Tn es s K↔K (MZ es s)
 |[],_,_=>Iff.rfl
 |e::es,s,K=>by rw[Tn,RX,MZ];exact RY es _ K
def AkB (n:Nat) (σ:List Obj) (K:List Obj→Prop):Prop:=match n with
 |0=>K σ
 |n+1=>Af0 σ (List.replicate (n+1) .dead) K
theorem Af1 (n:Nat) (σ:List Obj) (K:List Obj→Prop):AkB n σ K↔K (σ++List.replicate n .dead):=by
 cases n with
 |zero=>simp[AkB]
 |succ n=>exact WA _ _ _
def Zp {α:Type}:Nat→List α→(List α→Prop)→Prop
 |0,xs,K=>K xs
 |_+1,[],K=>K []
 |n+1,_::xs,K=>Zp n xs K
theorem WB {α:Type}:∀(n:Nat) (l:List α) (K:List α→Prop),Zp n l K↔K (l.drop n)
 |0,_,_=>by simp[Zp]
 |_+1,[],_=>by simp[Zp]
 |n+1,_::xs,K=>WB n xs K
def Af2 (AP:Nat→Option G9) (m:Nat) (un:List (Nat×Nat)) (ops:List AU) (env:Env) (s:Am) (K:Env→Am→Prop):Prop:=
 Wy m ops fun hd=>AkB (ranks hd) s.σ fun σ=>Abd AP hd s.σ.length s.ctr env ⟨σ,s.ctr+m⟩ fun es=>
    need (Kr es un=true) (Tn es ⟨σ,s.ctr+m⟩ fun s1=>K (OQ es env) s1)
theorem Zq {m:Nat} {un:List (Nat×Nat)} {ops:List AU} {env:Env} {s:Am} {K:Env→Am→Prop} (h:Af2 AP m un ops env s K):∃N BP s1,Nh (run AP N) m un ops env s=some (BP,s1)∧K BP s1:=by
 unfold Af2 at h
 rw[Q9,Af1]at h
 obtain⟨N,es,h1,h2,h3⟩:=O9 h
 rw[RY]at h3
 exact⟨N,_,_,by simp only[Nh,h1,if_pos h2],h3⟩
def Af3 (AP:Nat→Option G9) (op:CW) (env:Env) (v:AV):List Am→Prop→Prop
 |[],T=>T
 |S::r,T=>KH AP op env S fun out _=>match out with
  | .ok u=>need (BR u v=true) (Af3 AP op env v r T)
  | .DI _=>False
def Af4 (AP:Nat→Option G9) (S:Am):List (CW×Env×AV)→Prop→Prop
 |[],T=>T
 |(op,env,v)::r,T=>KH AP op env S fun out _=>match out with
  | .ok u=>need (BR u v=true) (Af4 AP S r T)
  | .DI _=>False
theorem RZ {op:CW} {env:Env} {v:AV}:∀{past:List Am} {T:Prop},Af3 AP op env v past T→(∃ N,KX (run AP N) op env v past=true)∧T
 |[],T,h=>⟨⟨0,rfl⟩,h⟩
 |S::r,T,h=>by
  obtain⟨N,out,s',h1,h2⟩:=Ia h
  cases out with
  |DI u=>exact h2.elim
  |ok u=>
   obtain⟨h3,h4⟩:=h2
   obtain⟨⟨N',h5⟩,h6⟩:=RZ h4
   refine⟨⟨max N N',?_⟩,h6⟩
   simp only[KX,CO (Bv (Nat.le_max_left N N')) h1,h3,JK (Bv (Nat.le_max_right N N')) h5,Bool.and_self]
theorem Si {S:Am}:∀{pend:List (CW×Env×AV)} {T:Prop},Af4 AP S pend T→(∃ N,KY (run AP N) S pend=true)∧T
 |[],T,h=>⟨⟨0,rfl⟩,h⟩
 |(op,env,v)::r,T,h=>by
  obtain⟨N,out,s',h1,h2⟩:=Ia h
  cases out with
  |DI u=>exact h2.elim
  |ok u=>
   obtain⟨h3,h4⟩:=h2
   obtain⟨⟨N',h5⟩,h6⟩:=Si h4
   refine⟨⟨max N N',?_⟩,h6⟩
   simp only[KY,CO (Bv (Nat.le_max_left N N')) h1,h3,JL (Bv (Nat.le_max_right N N')) h5,Bool.and_self]
def NC (AP:Nat→Option G9) (E:List Nat) (ops:List AU):Nat→Env→Am→Prop→Prop:=
 List.rec (motive:=fun _=>Nat→Env→Am→Prop→Prop) (fun _ _ _ T=>T)
    (fun o _ ih i env s T=>bif D8 i E then Gt o.guard env
      (KH AP o.op env s fun out _=>match out with
        | .ok v=>bif flt o then ih (i+1) (put o.dst v env) s T else False
        | .DI _=>False)
      (ih (i+1) (put o.dst .undef env) s T)
      else ih (i+1) env s T) ops
theorem Zr (E:List Nat) (o:AU) (os:List AU) (i:Nat) (env:Env) (s:Am) (T:Prop):NC AP E (o::os) i env s T=bif D8 i E then Gt o.guard env
        (KH AP o.op env s fun out _=>match out with
          | .ok v=>bif flt o then NC AP E os (i+1) (put o.dst v env) s T else False
          | .DI _=>False)
        (NC AP E os (i+1) (put o.dst .undef env) s T)
 else NC AP E os (i+1) env s T:=rfl
theorem I4 {E:List Nat}:∀{os:List AU} {i:Nat} {env:Env} {s:Am} {T:Prop},NC AP E os i env s T→(∃ N,EI (run AP N) E os i env s=true)∧T
 |[],i,env,s,T,h=>⟨⟨0,rfl⟩,h⟩
 |o::os,i,env,s,T,h=>by
  rw[Zr]at h
  cases hm:D8 i E with
  |false=>
   rw[hm,cond_false]at h
   obtain⟨⟨N,h1⟩,h2⟩:=I4 h
   exact⟨⟨N,by simp only[EI,hm,Bool.false_eq_true,if_false];exact h1⟩,h2⟩
  |true=>
   rw[hm,cond_true]at h
   have Nz:wanted o.guard env=some false→NC AP E os (i+1) (put o.dst .undef env) s T→(∃ N,EI (run AP N) E (o::os) i env s=true)∧T:=by
        intro hw h
        obtain⟨⟨N,h1⟩,h2⟩:=I4 h
        exact⟨⟨N,by simp only[EI,hm,if_true,hw];exact h1⟩,h2⟩
   have hdo:wanted o.guard env=some true→(KH AP o.op env s fun out _=>match out with
    | .ok v=>bif flt o then NC AP E os (i+1) (put o.dst v env) s T else False
    | .DI _=>False)→(∃ N,EI (run AP N) E (o::os) i env s=true)∧T:=by
        intro hw h
        obtain⟨N,out,s1,h1,h2⟩:=Ia h
        cases out with
        |DI v=>exact h2.elim
        |ok v=>
         dsimp only at h2
         cases hf:flt o with
         |false=>rw[hf]at h2;exact h2.elim
         |true=>
          rw[hf,cond_true]at h2
          obtain⟨⟨N',h3⟩,h4⟩:=I4 h2
          refine⟨⟨max N N',?_⟩,h4⟩
          simp only[EI,hm,if_true,hw,CO (Bv (AP:=AP) (Nat.le_max_left N N')) h1,hf,F9 (Bv (AP:=AP) (Nat.le_max_right N N')) h3,Bool.and_self]
   unfold Gt at h
   split at h
   ·rename_i hg
    exact hdo (by rw[hg];rfl) h
   ·rename_i r b hg
    split at h
    ·rename_i b' hb
     cases hbb:(b'==b)
     ·rw[hbb]at h
      exact Nz (by rw[hg];simp only[wanted,hb,hbb]) h
     ·rw[hbb]at h
      exact hdo (by rw[hg];simp only[wanted,hb,hbb]) h
    ·rename_i hb
     exact Nz (by rw[hg];simp only[wanted,hb]) h
    ·cases h
def Zt (AP:Nat→Option G9) (m:Nat) (W pc:List Nat) (o:AU) (os:List AU) (i:Nat) (k:Env→Am→List (CW×Env×AV)→List Am→Prop) (Q:AZ→Env→Am→Prop) (env:Env) (s:Am) (pend:List (CW×Env×AV)) (past:List Am) (out:AX) (s1:Am):Prop:=match out with
 | .DI v=>match pc with
   |p::E=>bif Nat.beq i p&&!(D8 i W||(flt o||Nat.blt i m))then NC AP E os (i+1) env s (Q (.DI v) [] s1)else False
   |[]=>False
 | .ok v=>bif D8 i W then bif o.op.Gh then Af3 AP o.op env v past (k (put o.dst v env) s ((o.op,env,v)::pend) past)else False
   else bif flt o||Nat.blt i m then k (put o.dst v env) s pend past
   else Af4 AP s1 pend (k (put o.dst v env) s1 pend (s::past))
def Abe (AP:Nat→Option G9) (m:Nat) (W pc:List Nat) (ops:List AU):Nat→Env→Am→List (CW×Env×AV)→List Am→(AZ→Env→Am→Prop)→Prop:=
 List.rec (motive:=fun _=>Nat→Env→Am→List (CW×Env×AV)→List Am→(AZ→Env→Am→Prop)→Prop) (fun _ env s _ _ K=>K .normal env s)
    (fun o os ih i env s pend past K=>Gt o.guard env (KH AP o.op env s (Zt AP m W pc o os i (fun env s pend past=>ih (i+1) env s pend past K) K env s pend past))
      (ih (i+1) (put o.dst .undef env) s pend past K)) ops
theorem Adw (m:Nat) (W pc:List Nat) (o:AU) (os:List AU) (i:Nat) (env:Env) (s:Am) (pend:List (CW×Env×AV)) (past:List Am) (K:AZ→Env→Am→Prop):Abe AP m W pc (o::os) i env s pend past K=Gt o.guard env
 (KH AP o.op env s (Zt AP m W pc o os i (fun env s pend past=>Abe AP m W pc os (i+1) env s pend past K) K env s pend past))
 (Abe AP m W pc os (i+1) (put o.dst .undef env) s pend past K):=rfl
theorem Jw {m:Nat} {W pc:List Nat}:∀{os:List AU} {i:Nat} {env:Env} {s:Am} {pend:List (CW×Env×AV)} {past:List Am} {K:AZ→Env→Am→Prop},Abe AP m W pc os i env s pend past K→∃N x env' s',GL (run AP N) m W pc os i env s pend past=some (x,env',s')∧K x env' s'
 |[],i,env,s,pend,past,K,h=>⟨0,_,_,_,rfl,h⟩
 |o::os,i,env,s,pend,past,K,h=>by
  have Nz:wanted o.guard env=some false→Abe AP m W pc os (i+1) (put o.dst .undef env) s pend past K→∃N x env' s',GL (run AP N) m W pc (o::os) i env s pend past=some (x,env',s')∧K x env' s':=by
   intro hw h
   obtain⟨N,x,env',s',h1,h2⟩:=Jw h
   exact⟨N,x,env',s',by simp only[GL,hw];exact h1,h2⟩
  have hdo:wanted o.guard env=some true→KH AP o.op env s (Zt AP m W pc o os i (fun env s pend past=>Abe AP m W pc os (i+1) env s pend past K) K env s pend past)→∃N x env' s',GL (run AP N) m W pc (o::os) i env s pend past=some (x,env',s')∧K x env' s':=by
   intro hw h
   obtain⟨N,out,s1,h1,h2⟩:=Ia h
   cases out with
   |DI v=>
    simp only[Zt]at h2
    cases pc with
    |nil=>exact h2.elim
    |cons p E=>
     dsimp only at h2
     cases hc:(Nat.beq i p&&!(D8 i W||(flt o||Nat.blt i m)))with
     |false=>rw[hc]at h2;exact h2.elim
     |true=>
      rw[hc,cond_true]at h2
      obtain⟨⟨N1,h3⟩,h4⟩:=I4 h2
      refine⟨max N N1,_,_,_,?_,h4⟩
      simp only[GL,hw,CO (Bv (AP:=AP) (Nat.le_max_left N N1)) h1,hc,F9 (Bv (AP:=AP) (Nat.le_max_right N N1)) h3,Bool.and_self,if_true]
   |ok v=>
    simp only[Zt]at h2
    cases hm:D8 i W with
    |true=>
     rw[hm,cond_true]at h2
     cases hp:o.op.Gh with
     |false=>rw[hp]at h2;exact h2.elim
     |true=>
      rw[hp,cond_true]at h2
      obtain⟨⟨N1,h3⟩,h4⟩:=RZ h2
      obtain⟨N2,x,env',s',h5,h6⟩:=Jw h4
      refine⟨max N (max N1 N2),x,env',s',?_,h6⟩
      simp only[GL,hw,CO (Bv (AP:=AP) (Nat.le_max_left N (max N1 N2))) h1,hm,hp,JK (Bv (AP:=AP) (show N1≤max N (max N1 N2) by omega)) h3,Bool.and_self,if_true]
      exact EK (Bv (show N2≤max N (max N1 N2) by omega)) h5
    |false=>
     rw[hm,cond_false]at h2
     cases hf:(flt o||Nat.blt i m)with
     |true=>
      rw[hf,cond_true]at h2
      obtain⟨N2,x,env',s',h5,h6⟩:=Jw h2
      refine⟨max N N2,x,env',s',?_,h6⟩
      simp only[GL,hw,CO (Bv (AP:=AP) (Nat.le_max_left N N2)) h1,hm,hf,if_true,Bool.false_eq_true,if_false]
      exact EK (Bv (Nat.le_max_right N N2)) h5
     |false=>
      rw[hf,cond_false]at h2
      obtain⟨⟨N1,h3⟩,h4⟩:=Si h2
      obtain⟨N2,x,env',s',h5,h6⟩:=Jw h4
      refine⟨max N (max N1 N2),x,env',s',?_,h6⟩
      simp only[GL,hw,CO (Bv (AP:=AP) (Nat.le_max_left N (max N1 N2))) h1,hm,hf,JL (Bv (AP:=AP) (show N1≤max N (max N1 N2) by omega)) h3,if_true,Bool.false_eq_true,if_false]
      exact EK (Bv (show N2≤max N (max N1 N2) by omega)) h5
  rw[Adw]at h
  unfold Gt at h
  split at h
  ·rename_i hg
   exact hdo (by rw[hg];rfl) h
  ·rename_i r b hg
   split at h
   ·rename_i b' hb
    cases hbb:(b'==b)
    ·rw[hbb]at h
     exact Nz (by rw[hg];simp only[wanted,hb,hbb]) h
    ·rw[hbb]at h
     exact hdo (by rw[hg];simp only[wanted,hb,hbb]) h
   ·rename_i hb
    exact Nz (by rw[hg];simp only[wanted,hb]) h
   ·cases h
def Af5 (v:AV) (A B:Prop):Prop:=match v with
 | .bool c=>LM c A B
 |_=>False
def vC (AP:Nat→Option G9) (c:Bd):Env→Am→(AZ→Env→Am→Prop)→Prop:=
 Bd.rec (motive:=fun _=>Env→Am→(AZ→Env→Am→Prop)→Prop)
    (fun env s Q=>Q .normal env s)
    (fun _ KG ops live tr env s Q=>U7 KG env s fun env s=>Zo AP ops env s (AfZ live tr Q))
    (fun m un KG ops live tr env s Q=>U7 KG env s fun env s=>Af2 AP m un ops env s fun BP s1=>Zp m ops fun tl=>Zo AP tl BP s1 (AfZ live tr Q))
    (fun m W pc KG ops live tr env s Q=>U7 KG env s fun env s=>Abe AP m W pc ops 0 env s [] [] (AfZ live tr Q))
    (fun _ _ iha ihb env s Q=>iha env s (Ape (fun env s=>ihb env s Q) Q))
    (fun c _ _ iha ihb env s Q=>Af5 (c.val env) (iha env s Q) (ihb env s Q))
    (fun id _ iha env s Q=>iha env s (AmM id Q))
    (fun live a _ env s Q=>Lu live env fun env=>Run AP (.loop live a) env s Q)
    (fun id env s Q=>Q (.exit id) env s)
    (fun env s Q=>Q .ret env s) c
theorem U8 {env:Env} {t:Nat}:∀{ts:List Nat},t∈ts→(commit env ts).get t=env.get t
 |[],h=>by simp at h
 |t'::ts,h=>by
  simp only[commit,Env.get]
  cases hb:Nat.beq t' t
  ·have hne:t≠t':=fun e=>by subst e;simp at hb
   rw[cond_false]
   exact U8 ((List.mem_cons.1 h).resolve_left hne)
  ·rw[cond_true,Nat.eq_of_beq_eq_true hb]
theorem QC {env env':Env}:∀{ts:List Nat},(∀ t∈ts,env.get t=env'.get t)→commit env ts=commit env' ts
 |[],_=>rfl
 |t::ts,h=>by simp only[commit];rw[h t (by simp),QC fun t' h'=>h t' (by simp[h'])]
theorem Vs (env:Env) (ts:List Nat):commit (commit env ts) ts=commit env ts:=QC fun _ h=>U8 h
theorem ND {live:List Nat} {a:Bd} {env:Env} {s:Am} {Q:AZ→Env→Am→Prop} (h:Run AP (.loop live a) (commit env live) s Q):Run AP (.loop live a) env s Q:=by
 obtain⟨N,e,env',s',h1,h2⟩:=h
 refine⟨N,e,env',s',?_,h2⟩
 simp only[Fp]at h1 ⊢
 cases N with
 |zero=>simp[iter]at h1
 |succ N=>
  simp only[iter,Vs]at h1 ⊢
  exact h1
theorem FW:∀{c:Bd} {env:Env} {s:Am} {Q:AZ→Env→Am→Prop},vC AP c env s Q→Run AP c env s Q:=by
 intro c
 induction c with
 |skip=>intro env s Q h;exact⟨0,_,_,_,rfl,h⟩
 |exit id=>intro env s Q h;exact⟨0,_,_,_,rfl,h⟩
 |ret=>intro env s Q h;exact⟨0,_,_,_,rfl,h⟩
 |region hd KG ops live tr=>
  intro env s Q h
  obtain⟨BP,s1,h1,h2⟩:=EP h
  obtain⟨N,e,Dx,s2,h3,h4⟩:=H9 h2
  cases e with
  |normal=>exact⟨N,_,_,_,by simp only[Fp,h1,h3],(O8 _ _ _).1 ((EG _ _ _).1 h4)⟩
  |exit id=>exact⟨N,_,_,_,by simp only[Fp,h1,h3],h4⟩
  |ret=>exact⟨N,_,_,_,by simp only[Fp,h1,h3],h4⟩
  |DI v=>exact⟨N,_,_,_,by simp only[Fp,h1,h3],h4⟩
 |mix m W pc KG ops live tr=>
  intro env s Q h
  obtain⟨BP,s1,h1,h2⟩:=EP h
  obtain⟨N,e,Dx,s2,h3,h4⟩:=Jw h2
  cases e with
  |normal=>exact⟨N,_,_,_,by simp only[Fp,h1,h3],(O8 _ _ _).1 ((EG _ _ _).1 h4)⟩
  |exit id=>exact⟨N,_,_,_,by simp only[Fp,h1,h3],h4⟩
  |ret=>exact⟨N,_,_,_,by simp only[Fp,h1,h3],h4⟩
  |DI v=>exact⟨N,_,_,_,by simp only[Fp,h1,h3],h4⟩
 |par m un KG ops live tr=>
  intro env s Q h
  obtain⟨BP,s1,h1,h2⟩:=EP h
  obtain⟨N',AmN,s1',hh,h2⟩:=Zq h2
  rw[WB]at h2
  obtain⟨N,e,Dx,s2,h3,h4⟩:=H9 h2
  have hh':Nh (run AP (max N N')) m un ops BP s1=some (AmN,s1'):=by
   unfold Nh at hh ⊢
   split at hh
   ·rename_i es hes
    rw[Jq (Bv (Nat.le_max_right N N')) hes]
    exact hh
   ·cases hh
  have h3':=FU (Bv (AP:=AP) (Nat.le_max_left N N')) h3
  cases e with
  |normal=>exact⟨max N N',_,_,_,by simp only[Fp,h1,hh',h3'],(O8 _ _ _).1 ((EG _ _ _).1 h4)⟩
  |exit id=>exact⟨max N N',_,_,_,by simp only[Fp,h1,hh',h3'],h4⟩
  |ret=>exact⟨max N N',_,_,_,by simp only[Fp,h1,hh',h3'],h4⟩
  |DI v=>exact⟨max N N',_,_,_,by simp only[Fp,h1,hh',h3'],h4⟩
 |seq a b iha ihb=>
  intro env s Q h
  obtain⟨N,e,BP,s1,h1,h2⟩:=iha h
  cases e with
  |normal=>
   obtain⟨N',e',Dx,s2,h3,h4⟩:=ihb h2
   have h1':=Di (Bv (AP:=AP) (Nat.le_max_left N N')) (Nat.le_max_left N N') h1
   have h3':=Di (Bv (AP:=AP) (Nat.le_max_right N N')) (Nat.le_max_right N N') h3
   exact⟨max N N',e',Dx,s2,by simp only[Fp,h1',h3'],h4⟩
  |exit id=>exact⟨N,_,_,_,by simp only[Fp,h1],h2⟩
  |ret=>exact⟨N,_,_,_,by simp only[Fp,h1],h2⟩
  |DI v=>exact⟨N,_,_,_,by simp only[Fp,h1],h2⟩
 |cond c a b iha ihb=>
  intro env s Q h
  change Af5 (c.val env) (vC AP a env s Q) (vC AP b env s Q)at h
  unfold Af5 at h
  split at h
  ·rename_i c' hc
   cases c'
   ·obtain⟨N,e,BP,s1,h1,h2⟩:=ihb h
    exact⟨N,e,BP,s1,by simp only[Fp,hc,h1],h2⟩
   ·obtain⟨N,e,BP,s1,h1,h2⟩:=iha h
    exact⟨N,e,BP,s1,by simp only[Fp,hc,h1],h2⟩
  ·cases h
 |block id a iha=>
  intro env s Q h
  obtain⟨N,e,BP,s1,h1,h2⟩:=iha h
  cases e with
  |normal=>exact⟨N,_,_,_,by simp only[Fp,h1],h2⟩
  |exit j=>
   simp only[AmM]at h2
   cases hb:Nat.beq j id
   ·rw[hb]at h2
    have hne:j≠id:=fun e=>by subst e;simp at hb
    exact⟨N,_,_,_,by simp only[Fp,h1,if_neg hne],h2⟩
   ·rw[hb]at h2
    exact⟨N,_,_,_,by simp only[Fp,h1,if_pos (Nat.eq_of_beq_eq_true hb)],h2⟩
  |ret=>exact⟨N,_,_,_,by simp only[Fp,h1],h2⟩
  |DI v=>exact⟨N,_,_,_,by simp only[Fp,h1],h2⟩
 |loop live a iha=>
  intro env s Q h
  exact ND ((EG _ _ _).1 h)
def Abf (AP:Nat→Option G9) (live:List Nat) (a:Bd) (Q:AZ→Env→Am→Prop) (e:AZ) (env:Env) (s:Am):Prop:=match e with
 | .normal=>Lu live env fun env=>Run AP (.loop live a) env s Q
 |e=>Q e env s
theorem I7 {live:List Nat} {a:Bd} {env:Env} {s:Am} {Q:AZ→Env→Am→Prop} (h:vC AP a env s (Abf AP live a Q)) (hc:commit env live=env):Run AP (.loop live a) env s Q:=by
 obtain⟨N,e,BP,s1,h1,h2⟩:=FW h
 cases e with
 |normal=>
  obtain⟨N',e',Dx,s2,h3,h4⟩:=ND ((EG _ _ _).1 h2)
  refine⟨max N N'+1,e',Dx,s2,?_,h4⟩
  have h1':=Di (Bv (AP:=AP) (show N≤max N N'+1 by omega)) (show N≤max N N'+1 by omega) h1
  simp only[Fp]at h3 ⊢
  rw[iter.eq_2]
  rw[hc,h1']
  exact NY (fun env s r hr=>Di (Bv (by omega)) (by omega) hr) (by omega) h3
 |exit id=>exact⟨N+1,_,_,_,by simp only[Fp,iter.eq_2,hc,Di (Bv (AP:=AP) (Nat.le_succ N)) (Nat.le_succ N) h1],h2⟩
 |ret=>exact⟨N+1,_,_,_,by simp only[Fp,iter.eq_2,hc,Di (Bv (AP:=AP) (Nat.le_succ N)) (Nat.le_succ N) h1],h2⟩
 |DI v=>exact⟨N+1,_,_,_,by simp only[Fp,iter.eq_2,hc,Di (Bv (AP:=AP) (Nat.le_succ N)) (Nat.le_succ N) h1],h2⟩
def Ahr (fn:GU) (K:AX→Am→Prop) (e:AZ) (env:Env) (s:Am):Prop:=match e with
 | .normal=>LX (D7 env s fn.results) fun vs=>K (.ok (En vs)) s
 | .ret=>LX (D7 env s fn.results) fun vs=>K (.ok (En vs)) s
 | .DI v=>K (.DI v) s
 | .exit _=>False
theorem Uu {f:Nat} {fn:GU} {args:List AV} {s:Am} {K:AX→Am→Prop} (hf:AP f=some (.code fn)) (hl:args.length=fn.np) (h:Run AP fn.body (params args 0) s (Ahr fn K)):A8 AP f args s K:=by
 obtain⟨N,e,env,s',h1,h2⟩:=h
 cases e with
 |normal=>
  obtain⟨vs,h3,h4⟩:=h2
  exact⟨N+1,_,_,by simp only[run,hf,if_pos hl,evF,h1,h3,Option.map_some],h4⟩
 |ret=>
  obtain⟨vs,h3,h4⟩:=h2
  exact⟨N+1,_,_,by simp only[run,hf,if_pos hl,evF,h1,h3,Option.map_some],h4⟩
 |DI v=>exact⟨N+1,_,_,by simp only[run,hf,if_pos hl,evF,h1],h2⟩
 |exit id=>cases h2
end AI
end Go.Proofs.YtchcadfjbkkgmaaGreatDoor
namespace Go.Proofs.YtchcadfjbkkgmaaGreatDoor
namespace AI
open Go.RowKit
variable {AP:Nat→Option G9}
def AmO (live:List Nat) (I:Env→Am→Prop) (Q:AZ→Env→Am→Prop) (e:AZ) (env:Env) (s:Am):Prop:=match e with
 | .normal=>Lu live env fun env=>I env s
 |e=>Q e env s
structure again (I:Nat→Env→Am→Prop) (m:Nat) (env:Env) (s:Am):Prop where
 mk::(h:∃m',m'<m∧I m' env s)
theorem Ap {live:List Nat} {a:Bd} {Q:AZ→Env→Am→Prop} (I:Nat→Env→Am→Prop)
 (hI:∀m env s,I m env s→commit env live=env∧vC AP a env s (AmO live (again I m) Q)):
 ∀m env s,I m env s→Run AP (.loop live a) env s Q:=by
 intro m
 induction m using Nat.strongRecOn with
 |ind m ih=>
  intro env s h
  obtain⟨hc,h1⟩:=hI m env s h
  obtain⟨N,e,BP,s1,h2,h3⟩:=FW h1
  have hr:Run AP a env s (Abf AP live a Q):=by
   refine⟨N,e,BP,s1,h2,?_⟩
   cases e with
   |normal=>
    simp only[AmO,Abf,EG]at h3 ⊢
    obtain⟨m',hm,h4⟩:=h3
    exact ih m' hm _ _ h4
   |exit id=>exact h3
   |ret=>exact h3
   |DI v=>exact h3
  obtain⟨N,e,BP,s1,h1,h2⟩:=hr
  cases e with
  |normal=>
   obtain⟨N',e',Dx,s2,h3,h4⟩:=ND ((EG _ _ _).1 h2)
   refine⟨max N N'+1,e',Dx,s2,?_,h4⟩
   have h1':=Di (Bv (AP:=AP) (show N≤max N N'+1 by omega)) (show N≤max N N'+1 by omega) h1
   simp only[Fp]at h3 ⊢
   rw[iter.eq_2]
   rw[hc,h1']
   exact NY (fun env s r hr=>Di (Bv (by omega)) (by omega) hr) (by omega) h3
  |exit id=>exact⟨N+1,_,_,_,by simp only[Fp,iter.eq_2,hc,Di (Bv (AP:=AP) (Nat.le_succ N)) (Nat.le_succ N) h1],h2⟩
  |ret=>exact⟨N+1,_,_,_,by simp only[Fp,iter.eq_2,hc,Di (Bv (AP:=AP) (Nat.le_succ N)) (Nat.le_succ N) h1],h2⟩
  |DI v=>exact⟨N+1,_,_,_,by simp only[Fp,iter.eq_2,hc,Di (Bv (AP:=AP) (Nat.le_succ N)) (Nat.le_succ N) h1],h2⟩
structure Af (AP:Nat→Option G9) (f:Nat) (args:List AV) (R:AV→Prop):Prop where
 mk::(h:∃v,Pure AP f args v∧R v)
def AkC (R:AV→Prop) (out:AX) (s:Am):Prop:=match out with
 | .ok r=>Acg s.σ EZ r R
 | .DI _=>False
theorem Ac {f:Nat} {fn:GU} {args:List AV} {R:AV→Prop} (hf:AP f=some (.code fn)) (hl:args.length=fn.np) (h:vC AP fn.body (params args 0) ⟨[],0⟩ (Ahr fn (AkC R))):Af AP f args R:=by
 obtain⟨N,out,s',h1,h2⟩:=Uu hf hl (FW h)
 cases out with
 |ok r=>
  have h2:Acg s'.σ EZ r R:=h2
  obtain⟨v,h3,h4⟩:=Zl h2
  exact⟨v,⟨N,by simp only[Dp,h1];exact h3⟩,h4⟩
 |DI r=>cases h2
theorem Aa {f:Nat} {args:List AV} {R:AV→Prop} {K:AV→Prop} (h:Af AP f args R) (h2:∀v,R v→K v):Acb AP f args K:=by
 obtain⟨v,h3,h4⟩:=h
 exact⟨v,h3,h2 v h4⟩
theorem BX {f:Nat} {args:List AV} {p:Prop} [Decidable p] {K:AV→Prop} (h:Af AP f args (· =.bool (decide p))) (h1:p→K (.bool true)) (h2:¬p→K (.bool false)):Acb AP f args K:=by
 refine Aa h ?_
 rintro _ rfl
 by_cases hp:p
 ·rw[decide_eq_true hp];exact h1 hp
 ·rw[decide_eq_false hp];exact h2 hp
theorem A8.mono {f:Nat} {args:List AV} {s:Am} {K K':AX→Am→Prop} (h:A8 AP f args s K) (hk:∀out s,K out s→K' out s):A8 AP f args s K':=by
 obtain⟨N,out,s',h1,h2⟩:=h
 exact⟨N,out,s',h1,hk _ _ h2⟩
theorem BD {p:Prop} [Decidable p] (h:p):AV.bool true=AV.bool (decide p):=by rw[decide_eq_true h]
theorem AY {p:Prop} [Decidable p] (h:¬p):AV.bool false=AV.bool (decide p):=by rw[decide_eq_false h]
theorem Af.mono {f:Nat} {args:List AV} {R R':AV→Prop} (h:Af AP f args R) (h2:∀v,R v→R' v):Af AP f args R':=by
 obtain⟨v,h3,h4⟩:=h
 exact⟨v,h3,h2 v h4⟩
theorem Ar {f:Nat} {fn:GU} {args:List AV} {s:Am} {K:AX→Am→Prop} (hf:AP f=some (.code fn)) (hl:args.length=fn.np) (h:vC AP fn.body (params args 0) s (Ahr fn K)):A8 AP f args s K:=
 Uu hf hl (FW h)
end AI
end Go.Proofs.YtchcadfjbkkgmaaGreatDoor
namespace Go.Proofs.YtchcadfjbkkgmaaGreatDoor
namespace AI
def ints (l:List Int):List AV:=l.map (.int .i64)
@[simp] theorem lI (l:List Int):(ints l).length=l.length:=by simp[ints]
theorem Af6 {l:List Int} {i:Nat} {x:Int} (h:l[i]?=some x):nth (ints l) i=some (.int .i64 x):=by simp[ints,AA,h]
theorem nI {l:List Int} {i:Nat} (h:i<l.length):nth (ints l) i=some (.int .i64 l[i]):=Af6 (List.getElem?_eq_getElem h)
theorem wrap_i64 {z:Int} (h:-2^63≤z) (h2:z<2^63):IntKind.i64.wrap z=z:=by
 rw[IntKind.wrap_i64];omega
theorem nIN {l:List Int} {i:Nat} (h:i<l.length):nth (ints l) (Int.toNat (Nat.cast i))=some (.int .i64 l[i]):=nI h
theorem Yh {es:Nat} {x:AV} (h:x.cells.length=es):Bo es [x]:=by intro y hy;simp at hy;exact hy▸h
theorem Jd {b n:Nat} (h:n*b≤2 ^ 46):roomy b n:=Nat.le_trans h (by decide)
def iss (E:List (Bool×List Int)):List AV:=E.map fun p=>.sl p.1 (ints p.2)
@[simp] theorem lS (E:List (Bool×List Int)):(iss E).length=E.length:=by simp[iss]
theorem nS {E:List (Bool×List Int)} {i:Nat} (h:i<E.length):nth (iss E) i=some (.sl E[i].1 (ints E[i].2)):=by simp[iss,AA,h]
theorem nSN {E:List (Bool×List Int)} {i:Nat} (h:i<E.length):nth (iss E) (Int.toNat (Nat.cast i))=some (.sl E[i].1 (ints E[i].2)):=nS h
theorem Df {α:Type} {l:List α} {i:Nat} (h:¬(i:Int)<(l.length:Int)):l.take i=l:=List.take_of_length_le (by omega)
theorem BN {α:Type} {p:α→Prop} {l:List α} {i:Nat} (h:i<l.length) (h1:∀x∈l.take i,p x) (h2:p l[i]):∀x∈l.take (i+1),p x:=by
 intro x hx
 rw[List.take_succ_eq_append_getElem h,List.mem_append,List.mem_singleton]at hx
 rcases hx with hx|rfl
 ·exact h1 x hx
 ·exact h2
theorem tIN {l:List Int} {i:Nat} {x y:Int}:(ints l).set (Int.toNat (Nat.cast i)) (BQ (.int .i64 x) 0 (.int .i64 y))=ints (l.set i y):=by
 simp[ints,BQ,AV.cells,List.map_set]
theorem tI {l:List Int} {i:Nat} {x y:Int}:(ints l).set i (BQ (.int .i64 x) 0 (.int .i64 y))=ints (l.set i y):=tIN
theorem uI {l:List Int}:sub (ints l) 0 l.length=ints l:=by
 unfold sub;rw[List.drop_zero,List.take_of_length_le (by simp)]
theorem uS {l:List (Bool×List Int)}:sub (iss l) 0 l.length=iss l:=by
 unfold sub;rw[List.drop_zero,List.take_of_length_le (by simp)]
theorem uIS {l:List Int} {x:Int}:sub (ints (l++[x])) 0 (l.length+1)=ints (l++[x]):=by
 have:=uI (l:=l++[x]);rwa [List.length_append]at this
theorem uSS {l:List (Bool×List Int)} {x:Bool×List Int}:sub (iss (l++[x])) 0 (l.length+1)=iss (l++[x]):=by
 have:=uS (l:=l++[x]);rwa [List.length_append]at this
theorem rIN (n:Nat) (z:Int):List.replicate (Int.toNat (Nat.cast n)) (AV.int .i64 z)=ints (List.replicate n z):=by simp[ints]
theorem rI (n:Nat) (z:Int):List.replicate n (AV.int .i64 z)=ints (List.replicate n z):=by simp[ints]
theorem nY {l:List UInt8} {i:Nat} (h:i<l.length):nth l i=some l[i]:=by simp[AA,h]
theorem nYN {l:List UInt8} {i:Nat} (h:i<l.length):nth l (Int.toNat (Nat.cast i))=some l[i]:=nY h
def bools (l:List Bool):List AV:=l.map .bool
@[simp] theorem lB (l:List Bool):(bools l).length=l.length:=by simp[bools]
theorem nB {l:List Bool} {i:Nat} (h:i<l.length):nth (bools l) i=some (.bool l[i]):=by simp[bools,AA,h]
theorem nBN {l:List Bool} {i:Nat} (h:i<l.length):nth (bools l) (Int.toNat (Nat.cast i))=some (.bool l[i]):=nB h
theorem tBN {l:List Bool} {i:Nat} {x y:Bool}:(bools l).set (Int.toNat (Nat.cast i)) (BQ (.bool x) 0 (.bool y))=bools (l.set i y):=by
 simp[bools,BQ,AV.cells,List.map_set]
theorem tB {l:List Bool} {i:Nat} {x y:Bool}:(bools l).set i (BQ (.bool x) 0 (.bool y))=bools (l.set i y):=tBN
theorem uB {l:List Bool}:sub (bools l) 0 l.length=bools l:=by
 unfold sub;rw[List.drop_zero,List.take_of_length_le (by simp)]
theorem rBN (n:Nat) (z:Bool):List.replicate (Int.toNat (Nat.cast n)) (AV.bool z)=bools (List.replicate n z):=by simp[bools]
section
variable {α β:Type} [DecidableEq α] {fk:α→AV} {fv:β→AV} {t:JB}
def IW (fk:α→AV) (fv:β→AV) (M:List (α×β)):List (AV×AV):=M.map fun p=>(fk p.1,fv p.2)
def EH:List (α×β)→α→Option β
 |[],_=>none
 |(k',v)::M,k=>if k=k' then some v else EH M k
def Fz:List (α×β)→α→β→List (α×β)
 |[],k,v=>[(k,v)]
 |(k',v')::M,k,v=>if k=k' then(k,v)::M else(k',v')::Fz M k v
theorem I5 (M:List (α×β)) (k k':α) (v:β):EH (Fz M k v) k'=if k'=k then some v else EH M k':=by
 induction M with
 |nil=>simp[Fz,EH]
 |cons p M ih=>
  obtain⟨a,b⟩:=p
  simp only[Fz]
  by_cases h:k=a
  ·subst h;simp only[if_pos,EH];split<;>simp_all
  ·rw[if_neg h]
   simp only[EH,ih]
   by_cases h1:k'=a
   ·subst h1;rw[if_pos rfl,if_neg (fun e=>h e.symm),if_pos rfl]
   ·rw[if_neg h1,if_neg h1]
theorem LC (hk:∀a b,CX t (fk a) (fk b)=some (decide (a=b))) (k:α):∀(M:List (α×β)) (i:Nat),
 (EH M k=none∧findKey t (fk k) (IW fk fv M) i=some none∧Fz M k=fun v=>M++[(k,v)])∨
 ∃j v,EH M k=some v∧findKey t (fk k) (IW fk fv M) i=some (some (i+j,fv v))∧Fz M k=fun v=>M.set j (k,v)
 |[],i=>.inl ⟨rfl,rfl,rfl⟩
 |(a,b)::M,i=>by
  by_cases h:k=a
  ·subst h
   refine .inr ⟨0,b,by simp[EH],?_,by funext v;simp[Fz]⟩
   simp only[IW,List.map_cons,findKey,hk,decide_true,Nat.add_zero]
  ·rcases LC hk k M (i+1)with⟨h1,h2,h3⟩|⟨j,v,h1,h2,h3⟩
   ·refine .inl ⟨by simp[EH,h,h1],?_,by funext v;simp[Fz,h,h3]⟩
    simp only[IW,List.map_cons,findKey,hk,decide_eq_false h]at h2 ⊢
    exact h2
   ·refine .inr ⟨j+1,v,by simp[EH,h,h1],?_,by funext v;simp[Fz,h,h3]⟩
    simp only[IW,List.map_cons,findKey,hk,decide_eq_false h]at h2 ⊢
    rw[h2];congr 3;omega
theorem LD (hk:∀a b,CX t (fk a) (fk b)=some (decide (a=b))) {M:List (α×β)} {k:α} {K:Option (Nat×AV)→Prop}
 (h1:EH M k=none→K none) (h2:∀i v,EH M k=some v→K (some (i,fv v))):RU t (fk k) (IW fk fv M) K:=by
 rcases LC (fv:=fv) hk k M 0 with⟨g1,g2,_⟩|⟨j,v,g1,g2,_⟩
 ·exact⟨_,g2,h1 g1⟩
 ·exact⟨_,g2,h2 _ _ g1⟩
theorem U9 (hk:∀a b,CX t (fk a) (fk b)=some (decide (a=b))) {M:List (α×β)} {k:α} {v:β} {K:List (AV×AV)→Prop}
 (h:K (IW fk fv (Fz M k v))):Aci t (fk k) (fv v) (IW fk fv M) K:=by
 rcases LC (fv:=fv) hk k M 0 with⟨g1,g2,g3⟩|⟨j,w,g1,g2,g3⟩
 ·refine⟨_,g2,?_⟩
  rw[g3]at h
  simpa[AfW,IW]using h
 ·refine⟨_,g2,?_⟩
  rw[g3]at h
  simpa[AfW,IW,List.map_set]using h
end
theorem Ic (a b:Int):CX .int (.int .i64 a) (.int .i64 b)=some (decide (a=b)):=by
 simp only[CX,if_true];rfl
abbrev Af7 (M:List (Int×Int)):List (AV×AV):=IW (.int .i64) (.int .i64) M
end AI
end Go.Proofs.YtchcadfjbkkgmaaGreatDoor
