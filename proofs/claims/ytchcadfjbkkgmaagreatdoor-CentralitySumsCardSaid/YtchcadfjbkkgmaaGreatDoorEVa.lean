/- The evaluator, step by step on symbols: what must hold for it to end in 'Q'. The evaluator, step by step on symbols: operations. The evaluator, step by step on symbols: regions, code, loops, functions. Loops by an invariant; what a function answers, as a predicate. Lists of numbers as abstract values; small facts that the steps need. -/
import Derived.Test.YtchcadfjbkkgmaaGreatDoorESe
set_option linter.unusedVariables false
set_option maxRecDepth 4000
namespace Go.Proofs.YtchcadfjbkkgmaaGreatDoor
namespace AI
open Go.RowKit
variable {AP:Nat→Option Ht}
structure Run (AP:Nat→Option Ht) (c:AQ) (env:Env) (s:Ai) (Q:AL→Env→Ai→Prop):Prop where
 mk::(h:∃N e env' s',EO (run AP N) N c env s=some (e,env',s')∧Q e env' s')
def Op1 (AP:Nat→Option Ht) (o:BO) (env:Env) (s:Ai) (K:AB→Ai→Prop):Prop:=
 ∃N out s',Ag (run AP N) o env s=some (out,s')∧K out s'
def Ops (AP:Nat→Option Ht) (os:List AA) (env:Env) (s:Ai) (Q:AL→Env→Ai→Prop):Prop:=
 ∃N e env' s',C9 (run AP N) os env s=some (e,env',s')∧Q e env' s'
structure Pure (AP:Nat→Option Ht) (f:Nat) (args:List AV) (v:AV):Prop where
 mk::(h:∃N,Cj (run AP N) f args=some v)
structure D7 (AP:Nat→Option Ht) (f:Nat) (args:List AV) (s:Ai) (K:AB→Ai→Prop):Prop where
 mk::(h:∃N out s',run AP N f args s=some (out,s')∧K out s')
theorem BJ {n n':Nat} (h:n≤n'):En (run AP n) (run AP n'):=Le h
theorem Run.mono {c:AQ} {env:Env} {s:Ai} {Q Q':AL→Env→Ai→Prop} (h:Run AP c env s Q) (hq:∀e env s,Q e env s→Q' e env s):Run AP c env s Q':=by
 obtain⟨N,e,env',s',h1,h2⟩:=h
 exact⟨N,e,env',s',h1,hq _ _ _ h2⟩
def AV.force {R:Sort _} (v:AV) (f:AV→R):R:=
 match v with
 | .bool b=>f (.bool b)
 | .int k n=>f (.int k n)
 | .str s=>f (.str s)
 | .sl nn xs=>f (.sl nn xs)
 | .zc=>f .zc
 | .own o g a b=>f (.own o g a b)
 | .agg cs=>f (.agg cs)
 | .CP cs=>f (.CP cs)
 | .ref o g i a=>f (.ref o g i a)
 | .CB cs=>f (.CB cs)
 | .fn g cs=>f (.fn g cs)
 | .map o g=>f (.map o g)
 | .fmap es=>f (.fmap es)
 | .iface t v=>f (.iface t v)
 | .Ja=>f .Ja
 | .CJ=>f .CJ
 | .Fe=>f .Fe
 | .Gp=>f .Gp
 | .undef=>f .undef
 | .junk=>f .junk
theorem force_eq {R:Sort _} (v:AV) (f:AV→R):v.force f=f v:=by cases v<;>rfl
def KL (b:Bool) (t e:Prop):Prop:=match b with
 |true=>t
 |false=>e
theorem Yg {b:Bool} {t e:Prop} (h1:b=true→t) (h2:b=false→e):KL b t e:=by
 cases b
 ·exact h2 rfl
 ·exact h1 rfl
structure Pm (p t e:Prop):Prop where
 mk::(yes:p→t) (no:¬p→e)
structure need (p t:Prop):Prop where
 mk::(l:p) (r:t)
theorem Ap {p t:Prop} (h1:p) (h2:t):need p t:=⟨h1,h2⟩
structure Jh (k:IntKind) (z:Int) (K:AV→Prop):Prop where
 mk::(h:∃y,k.wrap z=y∧K (.int k y))
theorem CW {k:IntKind} {z y:Int} {K:AV→Prop} (h:k.wrap z=y) (h2:K (.int k y)):Jh k z K:=⟨y,h,h2⟩
structure QJ {α:Type} (xs:List α) (i:Nat) (K:α→Prop):Prop where
 mk::(h:∃x,nth xs i=some x∧K x)
theorem Au {α:Type} {xs:List α} {i:Nat} {K:α→Prop} {x:α} (h:nth xs i=some x) (h2:K x):QJ xs i K:=⟨x,h,h2⟩
structure LX {α:Type} (o:Option α) (K:α→Prop):Prop where
 mk::(h:∃x,o=some x∧K x)
theorem Dl {α:Type} {o:Option α} {K:α→Prop} {x:α} (h:o=some x) (h2:K x):LX o K:=⟨x,h,h2⟩
structure AaM (AP:Nat→Option Ht) (f:Nat) (args:List AV) (K:AV→Prop):Prop where
 mk::(h:∃v,Pure AP f args v∧K v)
def settle (v:AV) (K:AV→Prop):Prop:=match v with
 | .bool b=>KL b (K (.bool true)) (K (.bool false))
 |v=>v.force K
theorem Ue (v:AV) (K:AV→Prop):settle v K↔K v:=by
 cases v<;>first|exact Iff.rfl|skip
 rename_i b
 cases b<;>exact Iff.rfl
def Qb {α:Type}:List α→Nat→α→(List α→Prop)→Prop
 |[],_,_,K=>K []
 |_::xs,0,y,K=>K (y::xs)
 |x::xs,n+1,y,K=>Qb xs n y fun ys=>K (x::ys)
theorem Di {α:Type}:∀(l:List α) (n:Nat) (y:α) (K:List α→Prop),Qb l n y K↔K (l.set n y)
 |[],_,_,_=>Iff.rfl
 |_::_,0,_,_=>Iff.rfl
 |x::xs,n+1,y,K=>Di xs n y fun ys=>K (x::ys)
def AaN {α:Type}:List α→α→(List α→Prop)→Prop
 |[],y,K=>K [y]
 |x::xs,y,K=>AaN xs y fun ys=>K (x::ys)
theorem Qc {α:Type}:∀(l:List α) (y:α) (K:List α→Prop),AaN l y K↔K (l++[y])
 |[],_,_=>Iff.rfl
 |x::xs,y,K=>Qc xs y fun ys=>K (x::ys)
def WI (s:Ai) (mk:Nat→Nat→AV) (ob:Nat→Obj) (K:AB→Ai→Prop):Prop:=
 AaN s.σ (ob s.ctr) fun σ=>K (.ok (mk s.σ.length s.ctr)) ⟨σ,s.ctr+1⟩
structure eqK {α:Type} (a:α) (K:α→Prop):Prop where
 mk::(h:∃b,a=b∧K b)
theorem A8 {α:Type} {a b:α} {K:α→Prop} (h1:a=b) (h:K b):eqK a K:=⟨_,h1,h⟩
def AaO (op:BinOp) (k:IntKind) (a b:Int) (K:AV→Prop):Prop:=
 match op with
 | .add=>Jh k (a+b) K
 | .sub=>Jh k (a-b) K
 | .mul=>Jh k (a*b) K
 | .quo=>need (b≠0) (Jh k (a.tdiv b) K)
 | .rem=>need (b≠0) (K (.int k (a.tmod b)))
 | .eql=>Pm (a=b) (K (.bool true)) (K (.bool false))
 | .neq=>Pm (a=b) (K (.bool false)) (K (.bool true))
 | .lss=>Pm (a<b) (K (.bool true)) (K (.bool false))
 | .leq=>Pm (a≤b) (K (.bool true)) (K (.bool false))
 | .gtr=>Pm (b<a) (K (.bool true)) (K (.bool false))
 | .geq=>Pm (b≤a) (K (.bool true)) (K (.bool false))
 | .and=>eqK (k.wrap (BitVec.ofInt k.bits a &&& BitVec.ofInt k.bits b).toNat) fun z=>K (.int k z)
 | .or=>eqK (k.wrap (BitVec.ofInt k.bits a ||| BitVec.ofInt k.bits b).toNat) fun z=>K (.int k z)
 | .xor=>eqK (k.wrap (BitVec.ofInt k.bits a ^^^ BitVec.ofInt k.bits b).toNat) fun z=>K (.int k z)
 | .shl=>need (0≤b) (Jh k (a*2 ^ (min b.toNat k.bits)) K)
 | .shr=>need (0≤b) (eqK (a.fdiv (2 ^ (min b.toNat k.bits))) fun z=>K (.int k z))
 |_=>False
def AaP (op:BinOp) (a b:List UInt8) (K:AV→Prop):Prop:=
 match op with
 | .eql=>Pm (a=b) (K (.bool true)) (K (.bool false))
 | .neq=>Pm (a=b) (K (.bool false)) (K (.bool true))
 | .lss=>KL (Op.bytesLess a b) (K (.bool true)) (K (.bool false))
 | .leq=>KL (Op.bytesLess a b||a==b) (K (.bool true)) (K (.bool false))
 | .gtr=>KL (Op.bytesLess a b||a==b) (K (.bool false)) (K (.bool true))
 | .geq=>KL (Op.bytesLess a b) (K (.bool false)) (K (.bool true))
 | .add=>need (a.length+b.length<2 ^ 63) (K (.str (a++b)))
 |_=>False
def Ad6 (op:BinOp) (k k':IntKind) (t:Prop):Prop:=match op with
 | .shl=>t
 | .shr=>t
 |_=>need (k=k') t
theorem AbV {op:BinOp} {k k':IntKind} {t:Prop} (h:Ad6 op k k' t):(k=k'∨op=.shl∨op=.shr)∧t:=by
 unfold Ad6 at h
 split at h
 ·exact⟨.inr (.inl rfl),h⟩
 ·exact⟨.inr (.inr rfl),h⟩
 ·exact⟨.inl h.1,h.2⟩
theorem AfU {op:BinOp} {k k':IntKind} {t:Jb} {a b:Int} (h:k=k'∨op=.shl∨op=.shr):bin op t (.int k a) (.int k' b)=Js op k a b:=by
 simp only[bin]
 split
 ·rfl
 ·rename_i hk
  rcases h with h|rfl|rfl
  ·exact absurd h hk
  ·rfl
  ·rfl
def Aie (op:BinOp) (t:Jb) (x y:AV) (K:AV→Prop):Prop:=
 match x,y with
 | .int k a,.int k' b=>Ad6 op k k' (AaO op k a b K)
 | .str a,.str b=>AaP op a b K
 |x,y=>LX (bin op t x y) fun v=>settle v K
theorem ZG {op:BinOp} {t:Jb} {x y:AV} {K:AV→Prop} (h:Aie op t x y K):∃v,bin op t x y=some v∧K v:=by
 unfold Aie at h
 split at h
 ·rename_i k a k' b
  obtain⟨hk,h⟩:=AbV h
  rw[AfU hk]
  unfold AaO at h
  cases op<;>simp only at h
  case add=>obtain⟨y,h1,h2⟩:=h;exact⟨_,rfl,by rw[h1];exact h2⟩
  case sub=>obtain⟨y,h1,h2⟩:=h;exact⟨_,rfl,by rw[h1];exact h2⟩
  case mul=>obtain⟨y,h1,h2⟩:=h;exact⟨_,rfl,by rw[h1];exact h2⟩
  case quo=>obtain⟨h0,y,h1,h2⟩:=h;exact⟨_,by simp only[Js,if_neg h0];rfl,by rw[h1];exact h2⟩
  case rem=>obtain⟨h0,h2⟩:=h;exact⟨_,by simp only[Js,if_neg h0],h2⟩
  case and=>obtain⟨z,rfl,h2⟩:=h;exact⟨_,rfl,h2⟩
  case or=>obtain⟨z,rfl,h2⟩:=h;exact⟨_,rfl,h2⟩
  case xor=>obtain⟨z,rfl,h2⟩:=h;exact⟨_,rfl,h2⟩
  case shl=>obtain⟨h0,y,h1,h2⟩:=h;exact⟨_,by simp only[Js,if_neg (Int.not_lt.2 h0)];rfl,by rw[h1];exact h2⟩
  case shr=>obtain⟨h0,z,rfl,h2⟩:=h;exact⟨_,by simp only[Js,if_neg (Int.not_lt.2 h0)],h2⟩
  case eql=>
   by_cases c:a=b
   ·exact⟨_,rfl,by have:=h.1 c;simpa only[c,beq_self_eq_true,bne_self_eq_false,Bool.not_true]using this⟩
   ·exact⟨_,rfl,by have:=h.2 c;simpa only[bne,beq_false_of_ne c,Bool.not_false]using this⟩
  case neq=>
   by_cases c:a=b
   ·exact⟨_,rfl,by have:=h.1 c;simpa only[c,beq_self_eq_true,bne_self_eq_false,Bool.not_true]using this⟩
   ·exact⟨_,rfl,by have:=h.2 c;simpa only[bne,beq_false_of_ne c,Bool.not_false]using this⟩
  case lss=>
   by_cases c:a<b
   ·exact⟨_,rfl,by simpa[c]using h.1 c⟩
   ·exact⟨_,rfl,by simpa[c]using h.2 c⟩
  case leq=>
   by_cases c:a≤b
   ·exact⟨_,rfl,by simpa[c]using h.1 c⟩
   ·exact⟨_,rfl,by simpa[c]using h.2 c⟩
  case gtr=>
   by_cases c:b<a
   ·exact⟨_,rfl,by simpa[c]using h.1 c⟩
   ·exact⟨_,rfl,by simpa[c]using h.2 c⟩
  case geq=>
   by_cases c:b≤a
   ·exact⟨_,rfl,by simpa[c]using h.1 c⟩
   ·exact⟨_,rfl,by simpa[c]using h.2 c⟩
 ·rename_i a b
  simp only[bin]
  unfold AaP at h
  cases op<;>simp only at h
  case add=>obtain⟨h0,h2⟩:=h;exact⟨_,by simp only[ZH,if_pos h0],h2⟩
  case eql=>
   by_cases c:a=b
   ·exact⟨_,rfl,by have:=h.1 c;simpa only[c,beq_self_eq_true,bne_self_eq_false,Bool.not_true]using this⟩
   ·exact⟨_,rfl,by have:=h.2 c;simpa only[bne,beq_false_of_ne c,Bool.not_false]using this⟩
  case neq=>
   by_cases c:a=b
   ·exact⟨_,rfl,by have:=h.1 c;simpa only[c,beq_self_eq_true,bne_self_eq_false,Bool.not_true]using this⟩
   ·exact⟨_,rfl,by have:=h.2 c;simpa only[bne,beq_false_of_ne c,Bool.not_false]using this⟩
  case lss=>cases c:Op.bytesLess a b<;>rw[c]at h<;>exact⟨_,rfl,by rw[c];exact h⟩
  case leq=>cases c:(Op.bytesLess a b||a==b)<;>rw[c]at h<;>exact⟨_,rfl,by rw[c];exact h⟩
  case gtr=>cases c:(Op.bytesLess a b||a==b)<;>rw[c]at h<;>exact⟨_,rfl,by rw[c];exact h⟩
  case geq=>cases c:Op.bytesLess a b<;>rw[c]at h<;>exact⟨_,rfl,by rw[c];exact h⟩
 ·obtain⟨v,h1,h2⟩:=h
  exact⟨v,h1,(Ue v K).1 h2⟩
end AI
end Go.Proofs.YtchcadfjbkkgmaaGreatDoor
namespace Go.Proofs.YtchcadfjbkkgmaaGreatDoor
namespace AI
open Go.RowKit
variable {AP:Nat→Option Ht}
def done (v:AV) (s:Ai) (K:AB→Ai→Prop):Prop:=settle v fun v=>K (.ok v) s
def Ad7:Az:=fun _ _ _=>none
def Yh (o:BO) (env:Env) (s:Ai) (K:AB→Ai→Prop):Prop:=
 LX (Ag Ad7 o env s) fun r=>match r with
    |(.ok v,s')=>done v s' K
    |(.Ef v,s')=>K (.Ef v) s'
def AaQ (σ:List Obj) (n:Nat) (r:AV) (R:AV→Prop):Prop:=match r with
 | .own o g off len=>match n with
   |0=>False
   |n+1=>match nth σ o with
    |some (.arr g' _ nn cl elems)=>match cl with
     |true=>need (g=g'∧off+len≤elems.length) (eqK (sub elems off len) fun xs=>R (.sl nn xs))
     |false=>LX (snap σ (n+1) (.own o g off len)) R
    |_=>False
 |r=>LX (snap σ n r) R
theorem QA {σ:List Obj} {n:Nat} {r:AV} {R:AV→Prop} (h:AaQ σ n r R):∃v,snap σ n r=some v∧R v:=by
 unfold AaQ at h
 split at h
 ·rename_i o g off len
  split at h
  ·cases h
  ·split at h
   ·rename_i g' es nn cl elems ho
    split at h
    ·obtain⟨h1,xs,rfl,h2⟩:=h
     refine⟨_,?_,h2⟩
     simp only[snap,ho,if_pos h1,if_true]
    ·obtain⟨v,h1,h2⟩:=h;exact⟨v,h1,h2⟩
   ·cases h
 ·obtain⟨v,h1,h2⟩:=h;exact⟨v,h1,h2⟩
def Uf (σ:List Obj):Nat→List AV→(List AV→Prop)→Prop
 |_,[],K=>K []
 |0,_::_,_=>False
 |n+1,v::vs,K=>AaQ σ n v fun a=>Uf σ n vs fun r=>K (a::r)
theorem Ik {σ:List Obj}:∀{n:Nat} {vs:List AV} {K:List AV→Prop},Uf σ n vs K→∃r,G7 σ n vs=some r∧K r
 |n,[],K,h=>⟨[],by cases n<;>rfl,by cases n<;>exact h⟩
 |0,_::_,_,h=>by cases h
 |n+1,v::vs,K,h=>by
  obtain⟨a,h1,h2⟩:=QA h
  obtain⟨r,h3,h4⟩:=Ik h2
  exact⟨_,by simp only[G7,h1,h3],h4⟩
def AaR (σ:List Obj) (n:Nat) (r:AV) (R:AV→Prop):Prop:=match r with
 | .CP cs=>match n with
   |0=>False
   |n+1=>Uf σ n cs fun vs=>R (.CP vs)
 | .agg cs=>match n with
   |0=>False
   |n+1=>Uf σ n cs fun vs=>R (.agg vs)
 |r=>AaQ σ n r R
theorem Yi {σ:List Obj} {n:Nat} {r:AV} {R:AV→Prop} (h:AaR σ n r R):∃v,snap σ n r=some v∧R v:=by
 unfold AaR at h
 split at h
 ·split at h
  ·cases h
  ·obtain⟨vs,h1,h2⟩:=Ik h
   exact⟨_,by simp only[snap,h1,Option.map_some],h2⟩
 ·split at h
  ·cases h
  ·obtain⟨vs,h1,h2⟩:=Ik h
   exact⟨_,by simp only[snap,h1,Option.map_some],h2⟩
 ·exact QA h
def Ad8 (AP:Nat→Option Ht) (m:Mode) (f:Nat) (args:List AV) (s:Ai) (K:AB→Ai→Prop):Prop:=
 match m with
 | .pure=>need (EW args=true) (AaM AP f args fun v=>done v s K)
 | .borrow=>Uf s.σ EP args fun args'=>AaM AP f args' fun v=>need (v.scalar=true) (done v s K)
 | .share=>D7 AP f args s fun out s'=>match out with
   | .ok r=>LX (compact s.σ.length r s') fun r=>done r.1 r.2 K
   | .Ef v=>need (v.closed=true) (K (.Ef v) ⟨s'.σ.take s.σ.length,s'.ctr⟩)
 | .own=>∃N r s',Ba (run AP N) .own f args s=some (.ok r,s')∧done r s' K
 | .keep=>D7 AP f args s fun out s'=>match out with
   | .ok r=>done r s' K
   | .Ef v=>K (.Ef v) s'
structure VQ (g g' es es' len:Nat) (nn cl c:Bool) (elems ys:List AV) (bytes:Nat) (K:Nat→Bool→Bool→List AV→Prop):Prop where
 mk::(h:(g=g'∧es=es'∧len≤elems.length∧Bh es ys∧roomy bytes (len+ys.length))∧K (len+ys.length) (nn||!ys.isEmpty) (cl&&c) (elems.take len++ys))
def Aif (a b:Bool) (K:Bool→Prop):Prop:=match b with
 |true=>K a
 |false=>K false
theorem Yj (a b:Bool) (K:Bool→Prop):Aif a b K↔K (a&&b):=by cases a<;>cases b<;>exact Iff.rfl
def Ad9 (b:Bool) (K:Bool→Prop):Prop:=match b with
 |true=>K true
 |false=>K false
theorem ZI (b:Bool) (K:Bool→Prop):Ad9 b K↔K b:=by cases b<;>exact Iff.rfl
def AaS (env:Env):List (Nat×AO)→(List (Nat×AV)→Prop)→Prop
 |[],K=>K []
 |(j,x)::ps,K=>(x.val env).force fun v=>AaS env ps fun r=>K ((j,v)::r)
theorem Vp (env:Env):∀(ps:List (Nat×AO)) (K:List (Nat×AV)→Prop),AaS env ps K↔K (PZ env ps)
 |[],_=>Iff.rfl
 |(j,x)::ps,K=>by simp only[AaS,force_eq,PZ];exact Vp env ps _
def FY (z:AV):Nat→List (Nat×AV)→Nat→(List AV→Prop)→Prop
 |0,_,_,K=>K []
 |n+1,[],i,K=>FY z n [] (i+1) fun r=>K (z::r)
 |n+1,(j,v)::ps,i,K=>bif Nat.beq i j then FY z n ps (i+1) fun r=>K (v::r)else FY z n ((j,v)::ps) (i+1) fun r=>K (z::r)
theorem GL (z:AV):∀(n:Nat) (ps:List (Nat×AV)) (i:Nat) (K:List AV→Prop),FY z n ps i K↔K (BF z n ps i)
 |0,_,_,_=>by simp only[FY,BF]
 |n+1,[],i,K=>by simp only[FY,BF];exact GL z n [] (i+1) _
 |n+1,(j,v)::ps,i,K=>by
  simp only[FY,BF]
  cases Nat.beq i j
  ·exact GL z n _ (i+1) _
  ·exact GL z n _ (i+1) _
def ZJ (es:Nat) (v:AV) (s:Ai) (K:List AV→Bool→Prop):Prop:=match v with
 | .sl _ xs=>K xs true
 | .zc=>K [] true
 |v=>LX (elemsOf s es v) fun r=>K r.1 r.2
theorem WJ {es:Nat} {v:AV} {s:Ai} {K:List AV→Bool→Prop} (h:ZJ es v s K):∃ys c,elemsOf s es v=some (ys,c)∧K ys c:=by
 unfold ZJ at h
 split at h
 ·exact⟨_,_,rfl,h⟩
 ·exact⟨_,_,rfl,h⟩
 ·obtain⟨⟨ys,c⟩,h1,h2⟩:=h
  exact⟨ys,c,h1,h2⟩
def AfV (off j:Nat) (K:Nat→Prop):Prop:=match off with
 |0=>K j
 |n+1=>K (n+1+j)
theorem Yk (off j:Nat) (K:Nat→Prop):AfV off j K↔K (off+j):=by
 cases off with
 |zero=>simp[AfV]
 |succ n=>exact Iff.rfl
structure MW (t:Jb) (k:AV) (ents:List (AV×AV)) (K:Option (Nat×AV)→Prop):Prop where
 mk::(h:∃r,findKey t k ents 0=some r∧K r)
def Aea (k v:AV) (ents:List (AV×AV)) (r:Option (Nat×AV)):List (AV×AV):=match r with
 |some (i,_)=>ents.set i (k,v)
 |none=>ents++[(k,v)]
structure Xr (t:Jb) (k v:AV) (ents:List (AV×AV)) (K:List (AV×AV)→Prop):Prop where
 mk::(h:∃r,findKey t k ents 0=some r∧K (Aea k v ents r))
def WL (env:Env) (d:Nat) (x:Option AO) (K:Nat→Prop):Prop:=match x with
 |none=>K d
 |some x=>match x.val env with
  | .int _ n=>need (0≤n) (K n.toNat)
  |_=>False
def Rt (env:Env) (len:Nat) (lo hi:Option AO) (K:Nat→Nat→Prop):Prop:=
 WL env len hi fun h=>WL env 0 lo fun l=>need (l≤h∧h≤len) (K l h)
theorem Po {env:Env} {d:Nat} {x:Option AO} {K:Nat→Prop} (h:WL env d x K):∃n,(match x with|none=>some d|some x=>bound (x.val env))=some n∧K n:=by
 unfold WL at h
 split at h
 ·exact⟨d,rfl,h⟩
 ·rename_i x
  split at h
  ·rename_i k n hv
   exact⟨n.toNat,by simp only[hv,bound,if_pos h.1],h.2⟩
  ·cases h
theorem Jt {env:Env} {len:Nat} {lo hi:Option AO} {K:Nat→Nat→Prop} (h:Rt env len lo hi K):∃l u,bounds env len lo hi=some (l,u)∧K l u:=by
 obtain⟨u,h1,h2⟩:=Po h
 obtain⟨l,h3,h4,h5⟩:=Po h2
 refine⟨l,u,?_,h5⟩
 unfold bounds
 cases hi<;>cases lo<;>simp_all
def KD (AP:Nat→Option Ht) (o:BO) (env:Env) (s:Ai) (K:AB→Ai→Prop):Prop:=
 match o with
 | .Yw x=>done (x.val env) s K
 | .Jq es=>WI s (fun o g=>.own o g 0 0) (fun g=>.arr g es false true []) K
 | .JU off e2 es cs=>match nth cs off with
   |some (.sl false [])=>need (0<e2) (WI s (fun o g=>.own o g 0 0) (fun g=>.arr g e2 false true []) fun out s1=>match out with
        | .ok v=>WI s1 (fun o g=>.ref o g 0 0) (fun g=>.arr g es true (AV.agg (cs.set off v)).closed [.agg (cs.set off v)]) K
        | .Ef _=>False)
   |_=>False
 | .pick c a b=>match c.val env with
   | .bool c=>KL c (done (a.val env) s K) (done (b.val env) s K)
   |_=>False
 | .alloc es z=>WI s (fun o g=>.ref o g 0 0) (fun g=>.arr g es true z.closed [z]) K
 | .box es x=>(x.val env).force fun v=>need ((v.storable&&v.cells.length==es)=true) (WI s (fun o g=>.ref o g 0 0) (fun g=>.arr g es true v.closed [v]) K)
 | .build z parts=>LX (Ea z (Kq env parts)) fun cs=>K (.ok (.agg cs)) s
 | .load sz a=>match a.val env with
   | .CB cs=>LX (loadCells cs sz) fun v=>done v s K
   | .ref o g i off=>match nth s.σ o with
     |some (.arr g' _ _ _ elems)=>need (g=g') (QJ elems i fun x=>LX (loadCells (x.cells.drop off) sz) fun v=>done v s K)
     |_=>False
   |_=>False
 | .store sz a x=>match a.val env with
   | .ref o g i off=>match nth s.σ o with
     |some (.arr g' es nn cl elems)=>need (g=g') (QJ elems i fun y=>(x.val env).force fun v=>need ((v.storable&&v.cells.length==sz&&off+sz≤es)=true)
       (Aif cl v.closed fun cl'=>eqK (elems.set i (Bz y off v)) fun es'=>Qb s.σ o (.arr g' es nn cl' es') fun σ=>K (.ok .undef) ⟨σ,s.ctr⟩))
     |_=>False
   |_=>False
 | .PG x=>match x.val env with
   | .ref o g i off=>K (.ok (.ref o g i off)) s
   | .CB cs=>K (.ok (.CB cs)) s
   | .fn f cs=>K (.ok (.fn f cs)) s
   |_=>False
 | .bin op t x y=>Aie op t (x.val env) (y.val env) fun v=>K (.ok v) s
 | .un op x=>match op,x.val env with
   | .not,.bool b=>KL b (K (.ok (.bool false)) s) (K (.ok (.bool true)) s)
   | .neg,.int k n=>Jh k (0-n) fun v=>K (.ok v) s
   |_,_=>False
 | .conv k x=>match x.val env with
   | .int _ n=>Jh k n fun v=>K (.ok v) s
   |_=>False
 | .field off sz x=>match x.val env with
   | .agg cs=>LX (loadCells (cs.drop off) sz) fun v=>done v s K
   |_=>False
 | .Qh off x=>match x.val env with
   | .CB cs=>K (.ok (.CB (cs.drop off))) s
   | .ref o g i off'=>K (.ok (.ref o g i (off'+off))) s
   |_=>False
 | .RD es x i=>match x.val env,i.val env with
   | .sl _ xs,.int _ i=>need (0≤i) (QJ xs i.toNat fun v=>need (v.cells.length=es) (K (.ok (.CB v.cells)) s))
   | .own o g off len,.int _ i=>match nth s.σ o with
     |some (.arr g' es' _ _ _)=>need (g=g'∧es=es'∧0≤i∧i<len) (AfV off i.toNat fun j=>K (.ok (.ref o g j 0)) s)
     |_=>False
   |_,_=>False
 | .len k x=>match k,x.val env with
   | .slice,.sl _ xs=>eqK xs.length fun n=>K (.ok (.int .i64 n)) s
   | .slice,.own _ _ _ n=>K (.ok (.int .i64 n)) s
   | .str,.str bs=>K (.ok (.int .i64 bs.length)) s
   | .map,.map o g=>match nth s.σ o with
     |some (.mp g' _ ents)=>need (g=g') (K (.ok (.int .i64 ents.length)) s)
     |_=>False
   | .map,.fmap ents=>K (.ok (.int .i64 ents.length)) s
   |_,_=>Yh (.len k x) env s K
 | .Oe=>WI s (fun o g=>.map o g) (fun g=>.mp g true []) K
 | .lookup t z QT m k=>match m.val env with
   | .map o g=>match nth s.σ o with
     |some (.mp g' _ ents)=>need (g=g'∧Jg t (k.val env)=true) (MW t (k.val env) ents fun r=>match r with
      |some (_,v)=>bif QT then K (.ok (.CP [v,.bool true])) s else done v s K
      |none=>bif QT then K (.ok (.CP [z,.bool false])) s else done z s K)
     |_=>False
   | .fmap ents=>need (Jg t (k.val env)=true) (MW t (k.val env) ents fun r=>match r with
        |some (_,v)=>bif QT then K (.ok (.CP [v,.bool true])) s else done v s K
        |none=>bif QT then K (.ok (.CP [z,.bool false])) s else done z s K)
   |_=>Yh (.lookup t z QT m k) env s K
 | .mapset t m k v=>match m.val env with
   | .map o g=>match nth s.σ o with
     |some (.mp g' cl ents)=>(v.val env).force fun vv=>need (g=g'∧Jg t (k.val env)=true∧vv.storable=true)
       (Aif cl vv.closed fun cl'=>Xr t (k.val env) vv ents fun Aar=>Qb s.σ o (.mp g' cl' Aar) fun σ=>K (.ok .undef) ⟨σ,s.ctr⟩)
     |_=>False
   |_=>False
 | .delete t m k=>match m.val env with
   | .map o g=>match nth s.σ o with
     |some (.mp g' cl ents)=>need (g=g'∧Jg t (k.val env)=true) (MW t (k.val env) ents fun r=>match r with
      |some (i,_)=>Qb s.σ o (.mp g' cl (ents.eraseIdx i)) fun σ=>K (.ok .undef) ⟨σ,s.ctr⟩
      |none=>K (.ok .undef) s)
     |_=>False
   |_=>False
 | .lit own es z len parts=>AaS env parts fun ps=>need (TK es len ps 0=true) (FY z len ps 0 fun xs=>
    bif own then Ad9 (Ii ps) fun c=>WI s (fun o g=>.own o g 0 len) (fun g=>.arr g es true c xs) K
    else bif Nat.beq len 0 then K (.ok .zc) s else need (Ii ps=true) (K (.ok (.sl true xs)) s))
 | .YB x i=>match x.val env,i.val env with
   | .str bs,.int _ i=>need (0≤i) (QJ bs i.toNat fun b=>K (.ok (.int .u8 b.toNat)) s)
   |_,_=>False
 | .slice es x lo hi=>match x.val env with
   | .sl nn xs=>Rt env xs.length lo hi fun l h=>need (Bh es xs) (eqK (sub xs l (h-l)) fun ys=>K (.ok (.sl nn ys)) s)
   | .own o g off len=>match nth s.σ o with
     |some (.arr g' es' _ _ _)=>need (g=g'∧es=es') (Rt env len lo hi fun l h=>AfV off l fun j=>K (.ok (.own o g j (h-l))) s)
     |_=>False
   |_=>Yh (.slice es x lo hi) env s K
 | .KR x lo hi=>match x.val env with
   | .str bs=>Rt env bs.length lo hi fun l h=>eqK ((bs.drop l).take (h-l)) fun r=>K (.ok (.str r)) s
   |_=>False
 | .append es bytes a x=>ZJ es (x.val env) s fun ys c=>match a.val env with
   | .own o g 0 len=>match nth s.σ o with
     |some (.arr g' es' nn cl' elems)=>VQ g g' es es' len nn cl' c elems ys bytes fun n nn cl es'=>Qb s.σ o (.arr s.ctr es nn cl es') fun σ=>K (.ok (.own o s.ctr 0 n)) ⟨σ,s.ctr+1⟩
     |_=>False
   |v=>LX (DV es bytes s v ys c) fun r=>done r.1 r.2 K
 | .Hz es bytes z len cap=>match len.val env,cap.val env with
   | .int _ l,.int _ c=>need (0≤l∧l≤c∧roomy bytes c.toNat) (eqK (List.replicate l.toNat z) fun xs=>WI s (fun o g=>.own o g 0 l.toNat) (fun g=>.arr g es true z.closed xs) K)
   |_,_=>False
 | .ext x i=>match x.val env with
   | .CP cs=>LX (nth cs i) fun v=>done v s K
   |_=>False
 | .call m f args=>Ad8 AP m f (vals env args) s K
 | .GX m x args=>match x.val env with
   | .fn f caps=>Ad8 AP m f (vals env args++caps) s K
   |_=>False
 |o=>Yh o env s K
theorem AbW (C:Az):En Ad7 C:=fun _ _ _ _ h=>by cases h
theorem CG (v:AV) (s:Ai) (K:AB→Ai→Prop):done v s K↔K (.ok v) s:=Ue v _
theorem Jm {o:BO} {env:Env} {s:Ai} {K:AB→Ai→Prop} (h:Yh o env s K):Op1 AP o env s K:=by
 obtain⟨⟨out,s'⟩,h1,h2⟩:=h
 refine⟨0,out,s',BM (AbW _) h1,?_⟩
 cases out with
 |ok v=>exact(CG v s' K).1 h2
 |Ef v=>exact h2
theorem QB {m:Mode} {f:Nat} {args:List AV} {s:Ai} {K:AB→Ai→Prop} (h:Ad8 AP m f args s K):∃N out s',Ba (run AP N) m f args s=some (out,s')∧K out s':=by
 cases m with
 |pure=>
  obtain⟨hc,v,⟨N,hp⟩,hk⟩:=h
  exact⟨N,.ok v,s,by simp only[Ba,if_pos hc,hp,Option.map_some],(CG v s K).1 hk⟩
 |borrow=>
  obtain⟨args',ha,v,⟨N,hp⟩,hs,hk⟩:=Ik h
  exact⟨N,.ok v,s,by simp only[Ba,ha,hp,if_pos hs],(CG v s K).1 hk⟩
 |share=>
  obtain⟨N,out,s',hr,hk⟩:=h
  cases out with
  |ok r=>
   obtain⟨⟨r',s''⟩,h1,h2⟩:=hk
   exact⟨N,.ok r',s'',by simp only[Ba,hr,h1,Option.map_some],(CG r' s'' K).1 h2⟩
  |Ef v=>
   obtain⟨h1,h2⟩:=hk
   exact⟨N,.Ef v,_,by simp only[Ba,hr,if_pos h1],h2⟩
 |own=>
  obtain⟨N,r,s',h1,h2⟩:=h
  exact⟨N,.ok r,s',h1,(CG r s' K).1 h2⟩
 |keep=>
  obtain⟨N,out,s',hr,hk⟩:=h
  cases out with
  |ok r=>exact⟨N,.ok r,s',hr,(CG r s' K).1 hk⟩
  |Ef v=>exact⟨N,.Ef v,s',hr,hk⟩
theorem Hf {s:Ai} {mk:Nat→Nat→AV} {ob:Nat→Obj} {K:AB→Ai→Prop}:WI s mk ob K↔K (.ok (mk s.σ.length s.ctr)) (push s (ob s.ctr)):=Qc _ _ _
theorem Ir {o:BO} {env:Env} {s:Ai} {K:AB→Ai→Prop} (h:KD AP o env s K):Op1 AP o env s K:=by
 cases o
 case Yw x=>exact⟨0,_,_,rfl,(CG _ _ _).1 h⟩
 case Jq es=>simp only[KD]at h;exact⟨0,_,_,rfl,Hf.1 h⟩
 case JU off e2 es cs=>
  simp only[KD]at h
  split at h
  case h_2=>cases h
  rename_i hoff
  obtain⟨he,h⟩:=h
  have h:=Hf.1 h
  have h:=Hf.1 h
  refine⟨0,_,_,?_,h⟩
  simp only[Ag,hoff,if_pos he]
  simp[push]
 case pick c a b=>
  simp only[KD]at h
  split at h
  ·rename_i c' hc
   cases c'
   ·exact⟨0,_,_,by simp only[Ag,hc],(CG _ _ _).1 h⟩
   ·exact⟨0,_,_,by simp only[Ag,hc],(CG _ _ _).1 h⟩
  ·cases h
 case alloc es z=>simp only[KD]at h;exact⟨0,_,_,rfl,Hf.1 h⟩
 case box es x=>
  simp only[KD,force_eq]at h
  obtain⟨h1,h2⟩:=h
  exact⟨0,_,_,by simp only[Ag,if_pos h1],Hf.1 h2⟩
 case build z ps=>
  obtain⟨cs,h1,h2⟩:=h
  exact⟨0,_,_,by simp only[Ag,h1,Option.map_some],h2⟩
 case load sz a=>
  simp only[KD]at h
  split at h
  ·rename_i cs hv
   obtain⟨v,h1,h2⟩:=h
   exact⟨0,_,_,by simp only[Ag,hv,ok,h1,Option.map_some],(CG _ _ _).1 h2⟩
  ·rename_i o g i off hv
   split at h
   ·rename_i g' es nn cl elems ho
    obtain⟨hg,x,hx,v,h1,h2⟩:=h
    exact⟨0,_,_,by simp only[Ag,hv,ho,if_pos hg,hx,ok,h1,Option.map_some],(CG _ _ _).1 h2⟩
   ·cases h
  ·cases h
 case store sz a x=>
  simp only[KD]at h
  split at h
  ·rename_i o g i off hv
   split at h
   ·rename_i g' es nn cl elems ho
    obtain⟨hg,y,hy,h⟩:=h
    rw[force_eq]at h
    obtain⟨h1,h2⟩:=h
    rw[Yj]at h2
    obtain⟨es',rfl,h2⟩:=h2
    rw[Di]at h2
    exact⟨0,_,_,by simp only[Ag,hv,ho,if_pos hg,hy,h1,if_true],h2⟩
   ·cases h
  ·cases h
 case PG x=>
  simp only[KD]at h
  split at h
  ·rename_i hv;exact⟨0,_,_,by simp only[Ag,hv],h⟩
  ·rename_i hv;exact⟨0,_,_,by simp only[Ag,hv],h⟩
  ·rename_i hv;exact⟨0,_,_,by simp only[Ag,hv],h⟩
  ·cases h
 case bin op t x y=>
  obtain⟨v,h1,h2⟩:=ZG h
  exact⟨0,_,_,by simp only[Ag,ok,h1,Option.map_some],h2⟩
 case un op x=>
  simp only[KD]at h
  split at h
  ·rename_i b hv
   cases b
   ·exact⟨0,_,_,by simp only[Ag,hv,Bool.not_false],h⟩
   ·exact⟨0,_,_,by simp only[Ag,hv,Bool.not_true],h⟩
  ·rename_i k n hv
   obtain⟨y,h1,h2⟩:=h
   exact⟨0,_,_,by simp only[Ag,hv,h1],h2⟩
  ·cases h
 case conv k x=>
  simp only[KD]at h
  split at h
  ·rename_i k' n hv
   obtain⟨y,h1,h2⟩:=h
   exact⟨0,_,_,by simp only[Ag,hv,h1],h2⟩
  ·cases h
 case field off sz x=>
  simp only[KD]at h
  split at h
  ·rename_i cs hv
   obtain⟨v,h1,h2⟩:=h
   exact⟨0,_,_,by simp only[Ag,hv,ok,h1,Option.map_some],(CG _ _ _).1 h2⟩
  ·cases h
 case Qh off x=>
  simp only[KD]at h
  split at h
  ·rename_i hv;exact⟨0,_,_,by simp only[Ag,hv],h⟩
  ·rename_i hv;exact⟨0,_,_,by simp only[Ag,hv],h⟩
  ·cases h
 case RD es x i=>
  simp only[KD]at h
  split at h
  ·rename_i nn xs k n hx hi
   obtain⟨h0,v,h1,h2,h3⟩:=h
   exact⟨0,_,_,by simp only[Ag,hx,hi,if_pos h0,h1,if_pos h2],h3⟩
  ·rename_i o g off len k n hx hi
   split at h
   ·rename_i g' es' nn cl elems ho
    obtain⟨h1,h2⟩:=h
    rw[Yk]at h2
    exact⟨0,_,_,by simp only[Ag,hx,hi,ho,if_pos h1],h2⟩
   ·cases h
  ·cases h
 case len k x=>
  simp only[KD]at h
  split at h
  ·rename_i hv
   obtain⟨n,rfl,h⟩:=h
   exact⟨0,_,_,by simp only[Ag,hv],h⟩
  ·rename_i hv;exact⟨0,_,_,by simp only[Ag,hv],h⟩
  ·rename_i hv;exact⟨0,_,_,by simp only[Ag,hv],h⟩
  ·rename_i o g hv
   split at h
   ·rename_i g' cl ents ho
    obtain⟨h1,h2⟩:=h
    exact⟨0,_,_,by simp only[Ag,hv,ho,if_pos h1],h2⟩
   ·cases h
  ·rename_i hv;exact⟨0,_,_,by simp only[Ag,hv],h⟩
  ·exact Jm h
 case YB x i=>
  simp only[KD]at h
  split at h
  ·rename_i bs k n hx hi
   obtain⟨h1,b,h2,h3⟩:=h
   exact⟨0,_,_,by simp only[Ag,hx,hi,if_pos h1,h2],h3⟩
  ·cases h
 case slice es x lo hi=>
  simp only[KD]at h
  split at h
  ·rename_i nn xs hx
   obtain⟨l,u,h1,h2,ys,rfl,h3⟩:=Jt h
   exact⟨0,_,_,by simp only[Ag,hx,h1,if_pos h2],h3⟩
  ·rename_i o g off len hx
   split at h
   ·rename_i g' es' nn cl elems ho
    obtain⟨hg,h⟩:=h
    obtain⟨l,u,h1,h2⟩:=Jt h
    rw[Yk]at h2
    exact⟨0,_,_,by simp only[Ag,hx,ho,if_pos hg,h1],h2⟩
   ·cases h
  ·exact Jm h
 case KR x lo hi=>
  simp only[KD]at h
  split at h
  ·rename_i bs hx
   obtain⟨l,u,h1,r,rfl,h2⟩:=Jt h
   exact⟨0,_,_,by simp only[Ag,hx,h1],h2⟩
  ·cases h
 case Oe=>simp only[KD]at h;exact⟨0,_,_,rfl,Hf.1 h⟩
 case lookup t z QT m k=>
  simp only[KD]at h
  split at h
  ·rename_i o g hv
   split at h
   ·rename_i g' cl ents ho
    obtain⟨h1,r,h2,h3⟩:=h
    cases r with
    |none=>
     cases QT
     ·exact⟨0,_,_,by simp only[Ag,hv,ho,if_pos h1,h2];rfl,(CG _ _ _).1 h3⟩
     ·exact⟨0,_,_,by simp only[Ag,hv,ho,if_pos h1,h2];rfl,h3⟩
    |some p=>
     cases QT
     ·exact⟨0,_,_,by simp only[Ag,hv,ho,if_pos h1,h2];rfl,(CG _ _ _).1 h3⟩
     ·exact⟨0,_,_,by simp only[Ag,hv,ho,if_pos h1,h2];rfl,h3⟩
   ·cases h
  ·rename_i ents hv
   obtain⟨h1,r,h2,h3⟩:=h
   cases r with
   |none=>
    cases QT
    ·exact⟨0,_,_,by simp only[Ag,hv,if_pos h1,h2];rfl,(CG _ _ _).1 h3⟩
    ·exact⟨0,_,_,by simp only[Ag,hv,if_pos h1,h2];rfl,h3⟩
   |some p=>
    cases QT
    ·exact⟨0,_,_,by simp only[Ag,hv,if_pos h1,h2];rfl,(CG _ _ _).1 h3⟩
    ·exact⟨0,_,_,by simp only[Ag,hv,if_pos h1,h2];rfl,h3⟩
  ·exact Jm h
 case mapset t m k v=>
  simp only[KD]at h
  split at h
  ·rename_i o g hv
   split at h
   ·rename_i g' cl ents ho
    rw[force_eq]at h
    obtain⟨h1,h2⟩:=h
    rw[Yj]at h2
    obtain⟨r,h2,h3⟩:=h2
    rw[Di]at h3
    cases r with
    |none=>exact⟨0,_,_,by simp only[Ag,hv,ho,if_pos h1,h2];rfl,h3⟩
    |some p=>exact⟨0,_,_,by simp only[Ag,hv,ho,if_pos h1,h2];rfl,h3⟩
   ·cases h
  ·cases h
 case delete t m k=>
  simp only[KD]at h
  split at h
  ·rename_i o g hv
   split at h
   ·rename_i g' cl ents ho
    obtain⟨h1,r,h2,h3⟩:=h
    cases r with
    |none=>exact⟨0,_,_,by simp only[Ag,hv,ho,if_pos h1,h2],h3⟩
    |some p=>
     simp only at h3
     rw[Di]at h3
     exact⟨0,_,_,by simp only[Ag,hv,ho,if_pos h1,h2],h3⟩
   ·cases h
  ·cases h
 case lit own es z len parts=>
  simp only[KD,Vp]at h
  obtain⟨h1,h2⟩:=h
  rw[GL]at h2
  cases own
  ·rw[cond_false]at h2
   cases hb:Nat.beq len 0
   ·rw[hb,cond_false]at h2
    have hne:len≠0:=fun e=>by subst e;simp at hb
    exact⟨0,_,_,by simp only[Ag,if_pos h1,if_neg hne,if_pos h2.1];rfl,h2.2⟩
   ·rw[hb,cond_true]at h2
    have he:len=0:=Nat.eq_of_beq_eq_true hb
    exact⟨0,_,_,by simp only[Ag,if_pos h1,if_pos he];rfl,h2⟩
  ·rw[cond_true,ZI]at h2
   exact⟨0,_,_,by simp only[Ag,if_pos h1,if_true],Hf.1 h2⟩
 case append es bytes a x=>
  simp only[KD]at h
  obtain⟨ys,cl,h1,h⟩:=WJ h
  split at h
  ·rename_i o g len hv
   split at h
   ·rename_i g' es' nn cl' elems ho
    obtain⟨h2,h3⟩:=h
    rw[Di]at h3
    exact⟨0,_,_,by simp only[Ag,h1,hv,DV,ho,if_pos h2,Option.map_some],h3⟩
   ·cases h
  ·obtain⟨⟨v,s'⟩,h2,h3⟩:=h
   exact⟨0,_,_,by simp only[Ag,h1,h2,Option.map_some],(CG _ _ _).1 h3⟩
 case Hz es bytes z len cap=>
  simp only[KD]at h
  split at h
  ·rename_i k l k' c hl hc
   obtain⟨h1,xs,rfl,h2⟩:=h
   exact⟨0,_,_,by simp only[Ag,hl,hc,if_pos h1],Hf.1 h2⟩
  ·cases h
 case ext x i=>
  simp only[KD]at h
  split at h
  ·rename_i cs hv
   obtain⟨v,h1,h2⟩:=h
   exact⟨0,_,_,by simp only[Ag,hv,ok,h1,Option.map_some],(CG _ _ _).1 h2⟩
  ·cases h
 case call m f args=>exact QB h
 case GX m x args=>
  simp only[KD]at h
  split at h
  ·rename_i f caps hv
   obtain⟨N,out,s',h1,h2⟩:=QB h
   exact⟨N,out,s',by simp only[Ag,hv];exact h1,h2⟩
  ·cases h
 all_goals exact Jm h
end AI
end Go.Proofs.YtchcadfjbkkgmaaGreatDoor
namespace Go.Proofs.YtchcadfjbkkgmaaGreatDoor
namespace AI
open Go.RowKit
variable {AP:Nat→Option Ht}
def Fz (g:Option (Nat×Bool)) (env:Env) (t e:Prop):Prop:=match g with
 |none=>t
 |some (r,b)=>match env.get r with
  | .bool b'=>KL (b'==b) t e
  | .undef=>e
  |_=>False
def Aeb (k:Env→Ai→Prop) (d:Option Nat) (env:Env) (Q:AL→Env→Ai→Prop) (out:AB) (s:Ai):Prop:=match out with
 | .ok v=>k (put d v env) s
 | .Ef v=>Q (.Ef v) env s
def Yl (AP:Nat→Option Ht) (ops:List AA):Env→Ai→(AL→Env→Ai→Prop)→Prop:=
 List.rec (motive:=fun _=>Env→Ai→(AL→Env→Ai→Prop)→Prop) (fun env s Q=>Q .normal env s)
    (fun o _ ih env s Q=>Fz o.guard env (KD AP o.op env s (Aeb (fun env s=>ih env s Q) o.dst env Q)) (ih (put o.dst .undef env) s Q)) ops
theorem AbX (o:AA) (os:List AA) (env:Env) (s:Ai) (Q:AL→Env→Ai→Prop):Yl AP (o::os) env s Q=Fz o.guard env
 (KD AP o.op env s (Aeb (fun env s=>Yl AP os env s Q) o.dst env Q))
 (Yl AP os (put o.dst .undef env) s Q):=rfl
theorem Gs:∀{os:List AA} {env:Env} {s:Ai} {Q:AL→Env→Ai→Prop},Yl AP os env s Q→Ops AP os env s Q
 |[],env,s,Q,h=>⟨0,_,_,_,rfl,h⟩
 |o::os,env,s,Q,h=>by
  have I7:wanted o.guard env=some false→Yl AP os (put o.dst .undef env) s Q→Ops AP (o::os) env s Q:=by
   intro hw h
   obtain⟨N,e,env',s',h1,h2⟩:=Gs h
   exact⟨N,e,env',s',by simp only[C9,hw];exact h1,h2⟩
  have hdo:wanted o.guard env=some true→KD AP o.op env s (Aeb (fun env s=>Yl AP os env s Q) o.dst env Q)→Ops AP (o::os) env s Q:=by
   intro hw h
   obtain⟨N,out,s1,h1,h2⟩:=Ir h
   cases out with
   |ok v=>
    obtain⟨N',e,env',s',h3,h4⟩:=Gs h2
    refine⟨max N N',e,env',s',?_,h4⟩
    simp only[C9,hw,BM (BJ (Nat.le_max_left N N')) h1]
    exact EL (BJ (Nat.le_max_right N N')) h3
   |Ef v=>exact⟨N,_,_,_,by simp only[C9,hw,h1],h2⟩
  rw[AbX]at h
  unfold Fz at h
  split at h
  ·rename_i hg
   exact hdo (by rw[hg];rfl) h
  ·rename_i r b hg
   split at h
   ·rename_i b' hb
    cases hbb:(b'==b)
    ·rw[hbb]at h
     exact I7 (by rw[hg];simp only[wanted,hb,hbb]) h
    ·rw[hbb]at h
     exact hdo (by rw[hg];simp only[wanted,hb,hbb]) h
   ·rename_i hb
    exact I7 (by rw[hg];simp only[wanted,hb]) h
   ·cases h
def KE:List Nat→Env→(Env→Prop)→Prop
 |[],_,K=>K []
 |t::ts,env,K=>(env.get t).force fun v=>KE ts env fun e=>K ((t,v)::e)
theorem EM:∀(ts:List Nat) (env:Env) (K:Env→Prop),KE ts env K↔K (commit env ts)
 |[],_,_=>Iff.rfl
 |t::ts,env,K=>by
  simp only[KE,force_eq,commit]
  exact EM ts env _
def Ug:List Nat→Env→Ai→(Env→Ai→Prop)→Prop
 |[],env,s,K=>K env s
 |t::ts,env,s,K=>match env.get t with
  | .own o g off len=>match nth s.σ o with
    |some (.arr g' _ nn cl elems)=>need (g=g'∧cl=true∧off+len≤elems.length) (eqK (sub elems off len) fun xs=>Qb s.σ o .dead fun σ=>Ug ts ((t,.sl nn xs)::env) ⟨σ,s.ctr⟩ K)
    |_=>False
  | .ref o g i off=>match nth s.σ o with
    |some (.arr g' _ nn cl elems)=>match cl,elems with
     |false,[x]=>match MK x.cells 0 with
      |some (k,o2,g2,a2,n2)=>match nth s.σ o2 with
       |some (.arr g3 _ nn3 cl3 IZ)=>need ((g=g'∧i=0∧off=0∧g2=g3∧o2≠o∧a2+n2≤IZ.length∧cl3=true)∧EW (x.cells.set k (.sl nn3 (sub IZ a2 n2)))=true) (eqK (sub IZ a2 n2) fun xs=>Qb s.σ o2 .dead fun σ1=>Qb σ1 o .dead fun σ2=>Ug ts ((t,.CB (x.cells.set k (.sl nn3 xs)))::env) ⟨σ2,s.ctr⟩ K)
       |_=>False
      |none=>False
     |cl,elems=>need (g=g'∧cl=true) (QJ elems i fun x=>Qb s.σ o .dead fun σ=>Ug ts ((t,.CB (x.cells.drop off))::env) ⟨σ,s.ctr⟩ K)
    |_=>False
  | .map o g=>match nth s.σ o with
    |some (.mp g' cl ents)=>need (g=g'∧cl=true∧Ya ents=true) (Qb s.σ o .dead fun σ=>Ug ts ((t,.fmap ents)::env) ⟨σ,s.ctr⟩ K)
    |_=>False
  | .sl nn xs=>Ug ts ((t,.sl nn xs)::env) s K
  | .zc=>Ug ts ((t,.zc)::env) s K
  |_=>False
theorem Ee:∀{ts:List Nat} {env:Env} {s:Ai} {K:Env→Ai→Prop},Ug ts env s K→∃env' s',FQ ts env s=some (env',s')∧K env' s'
 |[],env,s,K,h=>⟨env,s,rfl,h⟩
 |t::ts,env,s,K,h=>by
  simp only[Ug]at h
  split at h
  ·rename_i o g off len hv
   split at h
   ·rename_i g' es nn cl elems ho
    obtain⟨⟨rfl,rfl,hf⟩,xs,rfl,h⟩:=h
    rw[Di]at h
    obtain⟨env',s',h1,h2⟩:=Ee h
    exact⟨env',s',by simp only[FQ,hv,ho,true_and,if_pos hf];exact h1,h2⟩
   ·cases h
  ·rename_i o g i off hv
   split at h
   ·rename_i g' es nn cl elems ho
    split at h
    ·rename_i x
     split at h
     ·rename_i k o2 g2 a2 n2 hoc
      split at h
      ·rename_i g3 es3 nn3 cl3 IZ ho2
       obtain⟨⟨⟨hq1,hq2,hq3,hq4,hq5,hq6,rfl⟩,hcl⟩,xs,rfl,h⟩:=h
       rw[Di,Di]at h
       obtain⟨env',s',h1,h2⟩:=Ee h
       refine⟨env',s',?_,h2⟩
       simp only[FQ,hv,ho,hoc,ho2]
       rw[if_pos ⟨hq1,hq2,hq3,hq4,hq5,hq6,hcl⟩]
       exact h1
      ·cases h
     ·cases h
    ·obtain⟨⟨rfl,rfl⟩,⟨x,hx,h⟩⟩:=h
     rw[Di]at h
     obtain⟨env',s',h1,h2⟩:=Ee h
     exact⟨env',s',by simp only[FQ,hv,ho,if_pos,hx];exact h1,h2⟩
   ·cases h
  ·rename_i o g hv
   split at h
   ·rename_i g' cl ents ho
    obtain⟨⟨rfl,rfl,hk⟩,h⟩:=h
    rw[Di]at h
    obtain⟨env',s',h1,h2⟩:=Ee h
    exact⟨env',s',by simp only[FQ,hv,ho,true_and,if_pos hk];exact h1,h2⟩
   ·cases h
  ·rename_i nn xs hv
   obtain⟨env',s',h1,h2⟩:=Ee h
   exact⟨env',s',by simp only[FQ,hv];exact h1,h2⟩
  ·rename_i hv
   obtain⟨env',s',h1,h2⟩:=Ee h
   exact⟨env',s',by simp only[FQ,hv];exact h1,h2⟩
  ·cases h
def Vq {α:Type}:Nat→List α→(List α→Prop)→Prop
 |0,_,K=>K []
 |_+1,[],K=>K []
 |n+1,x::xs,K=>Vq n xs fun ys=>K (x::ys)
theorem Qd {α:Type}:∀(n:Nat) (l:List α) (K:List α→Prop),Vq n l K↔K (l.take n)
 |0,_,_=>by simp[Vq]
 |_+1,[],_=>by simp[Vq]
 |n+1,x::xs,K=>Qd n xs fun ys=>K (x::ys)
def Aec (tr:Option Nat) (s:Ai) (K:Ai→Prop):Prop:=match tr with
 |none=>K s
 |some k=>Vq (kept k s.σ.length) s.σ fun σ=>K ⟨σ,s.ctr⟩
theorem N8 (tr:Option Nat) (s:Ai) (K:Ai→Prop):Aec tr s K↔K (truncate tr s):=by
 cases tr with
 |none=>exact Iff.rfl
 |some k=>exact Qd _ s.σ _
def Aed (live:List Nat) (tr:Option Nat) (Q:AL→Env→Ai→Prop) (e:AL) (env:Env) (s:Ai):Prop:=match e with
 | .normal=>KE live env fun env=>Aec tr s fun s=>Q .normal env s
 |e=>Q e env s
def Amq (k:Env→Ai→Prop) (Q:AL→Env→Ai→Prop) (e:AL) (env:Env) (s:Ai):Prop:=match e with
 | .normal=>k env s
 |e=>Q e env s
def Akd (id:Nat) (Q:AL→Env→Ai→Prop) (e:AL) (env:Env) (s:Ai):Prop:=match e with
 | .exit j=>KL (Nat.beq j id) (Q .normal env s) (Q (.exit j) env s)
 |e=>Q e env s
def WM (AP:Nat→Option Ht) (o:BO) (r g:Nat) (env:Env) (s:Ai) (K:AV→Option (Nat×Obj)→Nat→Prop):Prop:=
 KD AP o env s fun out s'=>match out with
    | .Ef _=>False
    | .ok v=>match o.cls with
      |some .e=>K v none 0
      |some .r=>K v none 0
      |some .w=>match o.writes r env with
       |[t]=>match nth s'.σ t with
        |some ob=>K v (some (t,ob)) 0
        |none=>False
       |_=>False
      |some .a=>match nth s'.σ v.idx with
       |some ob=>bif Nat.blt v.idx s.σ.length then K (v.moved v.idx g) (some (v.idx,ob.Qz g)) 1
        else match nth s.σ r with
           |some .dead=>K (v.moved r g) (some (r,ob.Qz g)) 1
           |_=>False
       |none=>False
      |none=>False
theorem WO {o:BO} {r g:Nat} {env:Env} {s:Ai} {K:AV→Option (Nat×Obj)→Nat→Prop} (h:WM AP o r g env s K):∃N v u b,IY (run AP N) o r g env s=some (v,u,b)∧K v u b:=by
 obtain⟨N,out,s',h1,h2⟩:=Ir h
 cases out with
 |Ef v=>cases h2
 |ok v=>
  simp only at h2
  split at h2
  ·rename_i hc;exact⟨N,_,_,_,by simp only[IY,hc,h1],h2⟩
  ·rename_i hc;exact⟨N,_,_,_,by simp only[IY,hc,h1],h2⟩
  ·rename_i hc
   split at h2
   ·rename_i t ht
    split at h2
    ·rename_i ob hob;exact⟨N,_,_,_,by simp only[IY,hc,h1,ht,hob],h2⟩
    ·cases h2
   ·cases h2
  ·rename_i hc
   split at h2
   ·rename_i ob hob
    cases hb:Nat.blt v.idx s.σ.length
    ·rw[hb,cond_false]at h2
     have hlt:¬v.idx<s.σ.length:=fun hlt=>by
      have:=(show (Nat.blt v.idx s.σ.length=true) from Nat.blt_eq▸hlt)
      rw[hb]at this;cases this
     split at h2
     ·rename_i hd
      exact⟨N,_,_,_,by simp only[IY,hc,h1,hob,if_neg hlt,hd],h2⟩
     ·cases h2
    ·rw[hb,cond_true]at h2
     exact⟨N,_,_,_,by simp only[IY,hc,h1,hob,if_pos (show v.idx<s.σ.length from Nat.blt_eq▸hb)],h2⟩
   ·cases h2
  ·cases h2
def MN (u:Option (Nat×Obj)) (b:Nat) (s:Ai) (K:Ai→Prop):Prop:=match u with
 |some (t,ob)=>Qb s.σ t ob fun σ=>K ⟨σ,s.ctr+b⟩
 |none=>K ⟨s.σ,s.ctr+b⟩
theorem QC (u:Option (Nat×Obj)) (b:Nat) (s:Ai) (K:Ai→Prop):MN u b s K↔K (EK u b s):=by
 unfold MN EK
 split
 ·exact Di _ _ _ _
 ·exact Iff.rfl
def ZK (AP:Nat→Option Ht) (ops:List AA):Nat→Nat→Env→Ai→(List Eff→Prop)→Prop:=
 List.rec (motive:=fun _=>Nat→Nat→Env→Ai→(List Eff→Prop)→Prop) (fun _ _ _ _ K=>K [])
    (fun o _ ih r g env s K=>Fz o.guard env
      (WM AP o.op r g env s fun v u b=>MN u b s fun s'=>ih (r+rank o.op) (g+1) (put o.dst v env) s' fun es=>K (⟨o.dst,v,o.op.reads r env,o.op.writes r env,u,b⟩::es))
      (ih (r+rank o.op) (g+1) (put o.dst .undef env) s fun es=>K (⟨o.dst,.undef,[],[],none,0⟩::es))) ops
theorem AbY (o:AA) (os:List AA) (r g:Nat) (env:Env) (s:Ai) (K:List Eff→Prop):ZK AP (o::os) r g env s K=Fz o.guard env
 (WM AP o.op r g env s fun v u b=>MN u b s fun s'=>ZK AP os (r+rank o.op) (g+1) (put o.dst v env) s' fun es=>K (⟨o.dst,v,o.op.reads r env,o.op.writes r env,u,b⟩::es))
 (ZK AP os (r+rank o.op) (g+1) (put o.dst .undef env) s fun es=>K (⟨o.dst,.undef,[],[],none,0⟩::es)):=rfl
theorem N9:∀{os:List AA} {r g:Nat} {env:Env} {s:Ai} {K:List Eff→Prop},ZK AP os r g env s K→∃N es,Hy (run AP N) os r g env s=some es∧K es
 |[],r,g,env,s,K,h=>⟨0,_,rfl,h⟩
 |o::os,r,g,env,s,K,h=>by
  have I7:wanted o.guard env=some false→(ZK AP os (r+rank o.op) (g+1) (put o.dst .undef env) s fun es=>K (⟨o.dst,.undef,[],[],none,0⟩::es))→∃N es,Hy (run AP N) (o::os) r g env s=some es∧K es:=by
   intro hw h
   obtain⟨N,es,h1,h2⟩:=N9 h
   exact⟨N,_,by simp only[Hy,hw,h1],h2⟩
  have hdo:wanted o.guard env=some true→(WM AP o.op r g env s fun v u b=>MN u b s fun s'=>ZK AP os (r+rank o.op) (g+1) (put o.dst v env) s' fun es=>K (⟨o.dst,v,o.op.reads r env,o.op.writes r env,u,b⟩::es))→∃N es,Hy (run AP N) (o::os) r g env s=some es∧K es:=by
   intro hw h
   obtain⟨N,v,u,b,h1,h2⟩:=WO h
   rw[QC]at h2
   obtain⟨N',es,h3,h4⟩:=N9 h2
   refine⟨max N N',_,?_,h4⟩
   simp only[Hy,hw,Ud (BJ (Nat.le_max_left N N')) h1,I5 (BJ (AP:=AP) (Nat.le_max_right N N')) h3]
  rw[AbY]at h
  unfold Fz at h
  split at h
  ·rename_i hg
   exact hdo (by rw[hg];rfl) h
  ·rename_i r' b hg
   split at h
   ·rename_i b' hb
    cases hbb:(b'==b)
    ·rw[hbb]at h
     exact I7 (by rw[hg];simp only[wanted,hb,hbb]) h
    ·rw[hbb]at h
     exact hdo (by rw[hg];simp only[wanted,hb,hbb]) h
   ·rename_i hb
    exact I7 (by rw[hg];simp only[wanted,hb]) h
   ·cases h
def Aee {α:Type}:List α→List α→(List α→Prop)→Prop
 |[],ys,K=>K ys
 |x::xs,ys,K=>Aee xs ys fun r=>K (x::r)
theorem Vr {α:Type}:∀(xs ys:List α) (K:List α→Prop),Aee xs ys K↔K (xs++ys)
 |[],_,_=>Iff.rfl
 |x::xs,ys,K=>Vr xs ys _
def Ru:List Eff→Ai→(Ai→Prop)→Prop
 |[],s,K=>K s
 |e::es,s,K=>MN e.upd e.bump s fun s=>Ru es s K
theorem QD:∀(es:List Eff) (s:Ai) (K:Ai→Prop),Ru es s K↔K (LU es s)
 |[],_,_=>Iff.rfl
 |e::es,s,K=>by rw[Ru,QC,LU];exact QD es _ K
def Aig (n:Nat) (σ:List Obj) (K:List Obj→Prop):Prop:=match n with
 |0=>K σ
 |n+1=>Aee σ (List.replicate (n+1) .dead) K
theorem Aef (n:Nat) (σ:List Obj) (K:List Obj→Prop):Aig n σ K↔K (σ++List.replicate n .dead):=by
 cases n with
 |zero=>simp[Aig]
 |succ n=>exact Vr _ _ _
def Ym {α:Type}:Nat→List α→(List α→Prop)→Prop
 |0,xs,K=>K xs
 |_+1,[],K=>K []
 |n+1,_::xs,K=>Ym n xs K
theorem Vs {α:Type}:∀(n:Nat) (l:List α) (K:List α→Prop),Ym n l K↔K (l.drop n)
 |0,_,_=>by simp[Ym]
 |_+1,[],_=>by simp[Ym]
 |n+1,_::xs,K=>Vs n xs K
def Aeg (AP:Nat→Option Ht) (m:Nat) (un:List (Nat×Nat)) (ops:List AA) (env:Env) (s:Ai) (K:Env→Ai→Prop):Prop:=
 Vq m ops fun hd=>Aig (ranks hd) s.σ fun σ=>ZK AP hd s.σ.length s.ctr env ⟨σ,s.ctr+m⟩ fun es=>
    need (JO es un=true) (Ru es ⟨σ,s.ctr+m⟩ fun s1=>K (N7 es env) s1)
theorem Yn {m:Nat} {un:List (Nat×Nat)} {ops:List AA} {env:Env} {s:Ai} {K:Env→Ai→Prop} (h:Aeg AP m un ops env s K):∃N BA s1,LW (run AP N) m un ops env s=some (BA,s1)∧K BA s1:=by
 unfold Aeg at h
 rw[Qd,Aef]at h
 obtain⟨N,es,h1,h2,h3⟩:=N9 h
 rw[QD]at h3
 exact⟨N,_,_,by simp only[LW,h1,if_pos h2],h3⟩
def Aeh (AP:Nat→Option Ht) (op:BO) (env:Env) (v:AV):List Ai→Prop→Prop
 |[],T=>T
 |S::r,T=>KD AP op env S fun out _=>match out with
  | .ok u=>need (Bc u v=true) (Aeh AP op env v r T)
  | .Ef _=>False
def Aei (AP:Nat→Option Ht) (S:Ai):List (BO×Env×AV)→Prop→Prop
 |[],T=>T
 |(op,env,v)::r,T=>KD AP op env S fun out _=>match out with
  | .ok u=>need (Bc u v=true) (Aei AP S r T)
  | .Ef _=>False
theorem QE {op:BO} {env:Env} {v:AV}:∀{past:List Ai} {T:Prop},Aeh AP op env v past T→(∃ N,Ky (run AP N) op env v past=true)∧T
 |[],T,h=>⟨⟨0,rfl⟩,h⟩
 |S::r,T,h=>by
  obtain⟨N,out,s',h1,h2⟩:=Ir h
  cases out with
  |Ef u=>exact h2.elim
  |ok u=>
   obtain⟨h3,h4⟩:=h2
   obtain⟨⟨N',h5⟩,h6⟩:=QE h4
   refine⟨⟨max N N',?_⟩,h6⟩
   simp only[Ky,BM (BJ (Nat.le_max_left N N')) h1,h3,Jk (BJ (Nat.le_max_right N N')) h5,Bool.and_self]
theorem QF {S:Ai}:∀{pend:List (BO×Env×AV)} {T:Prop},Aei AP S pend T→(∃ N,Kz (run AP N) S pend=true)∧T
 |[],T,h=>⟨⟨0,rfl⟩,h⟩
 |(op,env,v)::r,T,h=>by
  obtain⟨N,out,s',h1,h2⟩:=Ir h
  cases out with
  |Ef u=>exact h2.elim
  |ok u=>
   obtain⟨h3,h4⟩:=h2
   obtain⟨⟨N',h5⟩,h6⟩:=QF h4
   refine⟨⟨max N N',?_⟩,h6⟩
   simp only[Kz,BM (BJ (Nat.le_max_left N N')) h1,h3,Jl (BJ (Nat.le_max_right N N')) h5,Bool.and_self]
def LY (AP:Nat→Option Ht) (E:List Nat) (ops:List AA):Nat→Env→Ai→Prop→Prop:=
 List.rec (motive:=fun _=>Nat→Env→Ai→Prop→Prop) (fun _ _ _ T=>T)
    (fun o _ ih i env s T=>bif Dw i E then Fz o.guard env
      (KD AP o.op env s fun out _=>match out with
        | .ok v=>bif flt o then ih (i+1) (put o.dst v env) s T else False
        | .Ef _=>False)
      (ih (i+1) (put o.dst .undef env) s T)
      else ih (i+1) env s T) ops
theorem Yo (E:List Nat) (o:AA) (os:List AA) (i:Nat) (env:Env) (s:Ai) (T:Prop):LY AP E (o::os) i env s T=bif Dw i E then Fz o.guard env
        (KD AP o.op env s fun out _=>match out with
          | .ok v=>bif flt o then LY AP E os (i+1) (put o.dst v env) s T else False
          | .Ef _=>False)
        (LY AP E os (i+1) (put o.dst .undef env) s T)
 else LY AP E os (i+1) env s T:=rfl
theorem Il {E:List Nat}:∀{os:List AA} {i:Nat} {env:Env} {s:Ai} {T:Prop},LY AP E os i env s T→(∃ N,Eb (run AP N) E os i env s=true)∧T
 |[],i,env,s,T,h=>⟨⟨0,rfl⟩,h⟩
 |o::os,i,env,s,T,h=>by
  rw[Yo]at h
  cases hm:Dw i E with
  |false=>
   rw[hm,cond_false]at h
   obtain⟨⟨N,h1⟩,h2⟩:=Il h
   exact⟨⟨N,by simp only[Eb,hm,Bool.false_eq_true,if_false];exact h1⟩,h2⟩
  |true=>
   rw[hm,cond_true]at h
   have I7:wanted o.guard env=some false→LY AP E os (i+1) (put o.dst .undef env) s T→(∃ N,Eb (run AP N) E (o::os) i env s=true)∧T:=by
        intro hw h
        obtain⟨⟨N,h1⟩,h2⟩:=Il h
        exact⟨⟨N,by simp only[Eb,hm,if_true,hw];exact h1⟩,h2⟩
   have hdo:wanted o.guard env=some true→(KD AP o.op env s fun out _=>match out with
    | .ok v=>bif flt o then LY AP E os (i+1) (put o.dst v env) s T else False
    | .Ef _=>False)→(∃ N,Eb (run AP N) E (o::os) i env s=true)∧T:=by
        intro hw h
        obtain⟨N,out,s1,h1,h2⟩:=Ir h
        cases out with
        |Ef v=>exact h2.elim
        |ok v=>
         dsimp only at h2
         cases hf:flt o with
         |false=>rw[hf]at h2;exact h2.elim
         |true=>
          rw[hf,cond_true]at h2
          obtain⟨⟨N',h3⟩,h4⟩:=Il h2
          refine⟨⟨max N N',?_⟩,h4⟩
          simp only[Eb,hm,if_true,hw,BM (BJ (AP:=AP) (Nat.le_max_left N N')) h1,hf,EX (BJ (AP:=AP) (Nat.le_max_right N N')) h3,Bool.and_self]
   unfold Fz at h
   split at h
   ·rename_i hg
    exact hdo (by rw[hg];rfl) h
   ·rename_i r b hg
    split at h
    ·rename_i b' hb
     cases hbb:(b'==b)
     ·rw[hbb]at h
      exact I7 (by rw[hg];simp only[wanted,hb,hbb]) h
     ·rw[hbb]at h
      exact hdo (by rw[hg];simp only[wanted,hb,hbb]) h
    ·rename_i hb
     exact I7 (by rw[hg];simp only[wanted,hb]) h
    ·cases h
def Yp (AP:Nat→Option Ht) (m:Nat) (W pc:List Nat) (o:AA) (os:List AA) (i:Nat) (k:Env→Ai→List (BO×Env×AV)→List Ai→Prop) (Q:AL→Env→Ai→Prop) (env:Env) (s:Ai) (pend:List (BO×Env×AV)) (past:List Ai) (out:AB) (s1:Ai):Prop:=match out with
 | .Ef v=>match pc with
   |p::E=>bif Nat.beq i p&&!(Dw i W||(flt o||Nat.blt i m))then LY AP E os (i+1) env s (Q (.Ef v) [] s1)else False
   |[]=>False
 | .ok v=>bif Dw i W then bif o.op.E5 then Aeh AP o.op env v past (k (put o.dst v env) s ((o.op,env,v)::pend) past)else False
   else bif flt o||Nat.blt i m then k (put o.dst v env) s pend past
   else Aei AP s1 pend (k (put o.dst v env) s1 pend (s::past))
def ZL (AP:Nat→Option Ht) (m:Nat) (W pc:List Nat) (ops:List AA):Nat→Env→Ai→List (BO×Env×AV)→List Ai→(AL→Env→Ai→Prop)→Prop:=
 List.rec (motive:=fun _=>Nat→Env→Ai→List (BO×Env×AV)→List Ai→(AL→Env→Ai→Prop)→Prop) (fun _ env s _ _ K=>K .normal env s)
    (fun o os ih i env s pend past K=>Fz o.guard env (KD AP o.op env s (Yp AP m W pc o os i (fun env s pend past=>ih (i+1) env s pend past K) K env s pend past))
      (ih (i+1) (put o.dst .undef env) s pend past K)) ops
theorem AbZ (m:Nat) (W pc:List Nat) (o:AA) (os:List AA) (i:Nat) (env:Env) (s:Ai) (pend:List (BO×Env×AV)) (past:List Ai) (K:AL→Env→Ai→Prop):ZL AP m W pc (o::os) i env s pend past K=Fz o.guard env
 (KD AP o.op env s (Yp AP m W pc o os i (fun env s pend past=>ZL AP m W pc os (i+1) env s pend past K) K env s pend past))
 (ZL AP m W pc os (i+1) (put o.dst .undef env) s pend past K):=rfl
theorem I8 {m:Nat} {W pc:List Nat}:∀{os:List AA} {i:Nat} {env:Env} {s:Ai} {pend:List (BO×Env×AV)} {past:List Ai} {K:AL→Env→Ai→Prop},ZL AP m W pc os i env s pend past K→∃N x env' s',FX (run AP N) m W pc os i env s pend past=some (x,env',s')∧K x env' s'
 |[],i,env,s,pend,past,K,h=>⟨0,_,_,_,rfl,h⟩
 |o::os,i,env,s,pend,past,K,h=>by
  have I7:wanted o.guard env=some false→ZL AP m W pc os (i+1) (put o.dst .undef env) s pend past K→∃N x env' s',FX (run AP N) m W pc (o::os) i env s pend past=some (x,env',s')∧K x env' s':=by
   intro hw h
   obtain⟨N,x,env',s',h1,h2⟩:=I8 h
   exact⟨N,x,env',s',by simp only[FX,hw];exact h1,h2⟩
  have hdo:wanted o.guard env=some true→KD AP o.op env s (Yp AP m W pc o os i (fun env s pend past=>ZL AP m W pc os (i+1) env s pend past K) K env s pend past)→∃N x env' s',FX (run AP N) m W pc (o::os) i env s pend past=some (x,env',s')∧K x env' s':=by
   intro hw h
   obtain⟨N,out,s1,h1,h2⟩:=Ir h
   cases out with
   |Ef v=>
    simp only[Yp]at h2
    cases pc with
    |nil=>exact h2.elim
    |cons p E=>
     dsimp only at h2
     cases hc:(Nat.beq i p&&!(Dw i W||(flt o||Nat.blt i m)))with
     |false=>rw[hc]at h2;exact h2.elim
     |true=>
      rw[hc,cond_true]at h2
      obtain⟨⟨N1,h3⟩,h4⟩:=Il h2
      refine⟨max N N1,_,_,_,?_,h4⟩
      simp only[FX,hw,BM (BJ (AP:=AP) (Nat.le_max_left N N1)) h1,hc,EX (BJ (AP:=AP) (Nat.le_max_right N N1)) h3,Bool.and_self,if_true]
   |ok v=>
    simp only[Yp]at h2
    cases hm:Dw i W with
    |true=>
     rw[hm,cond_true]at h2
     cases hp:o.op.E5 with
     |false=>rw[hp]at h2;exact h2.elim
     |true=>
      rw[hp,cond_true]at h2
      obtain⟨⟨N1,h3⟩,h4⟩:=QE h2
      obtain⟨N2,x,env',s',h5,h6⟩:=I8 h4
      refine⟨max N (max N1 N2),x,env',s',?_,h6⟩
      simp only[FX,hw,BM (BJ (AP:=AP) (Nat.le_max_left N (max N1 N2))) h1,hm,hp,Jk (BJ (AP:=AP) (show N1≤max N (max N1 N2) by omega)) h3,Bool.and_self,if_true]
      exact Ec (BJ (show N2≤max N (max N1 N2) by omega)) h5
    |false=>
     rw[hm,cond_false]at h2
     cases hf:(flt o||Nat.blt i m)with
     |true=>
      rw[hf,cond_true]at h2
      obtain⟨N2,x,env',s',h5,h6⟩:=I8 h2
      refine⟨max N N2,x,env',s',?_,h6⟩
      simp only[FX,hw,BM (BJ (AP:=AP) (Nat.le_max_left N N2)) h1,hm,hf,if_true,Bool.false_eq_true,if_false]
      exact Ec (BJ (Nat.le_max_right N N2)) h5
     |false=>
      rw[hf,cond_false]at h2
      obtain⟨⟨N1,h3⟩,h4⟩:=QF h2
      obtain⟨N2,x,env',s',h5,h6⟩:=I8 h4
      refine⟨max N (max N1 N2),x,env',s',?_,h6⟩
      simp only[FX,hw,BM (BJ (AP:=AP) (Nat.le_max_left N (max N1 N2))) h1,hm,hf,Jl (BJ (AP:=AP) (show N1≤max N (max N1 N2) by omega)) h3,if_true,Bool.false_eq_true,if_false]
      exact Ec (BJ (show N2≤max N (max N1 N2) by omega)) h5
  rw[AbZ]at h
  unfold Fz at h
  split at h
  ·rename_i hg
   exact hdo (by rw[hg];rfl) h
  ·rename_i r b hg
   split at h
   ·rename_i b' hb
    cases hbb:(b'==b)
    ·rw[hbb]at h
     exact I7 (by rw[hg];simp only[wanted,hb,hbb]) h
    ·rw[hbb]at h
     exact hdo (by rw[hg];simp only[wanted,hb,hbb]) h
   ·rename_i hb
    exact I7 (by rw[hg];simp only[wanted,hb]) h
   ·cases h
def Aej (v:AV) (A B:Prop):Prop:=match v with
 | .bool c=>KL c A B
 |_=>False
def vC (AP:Nat→Option Ht) (c:AQ):Env→Ai→(AL→Env→Ai→Prop)→Prop:=
 AQ.rec (motive:=fun _=>Env→Ai→(AL→Env→Ai→Prop)→Prop)
    (fun env s Q=>Q .normal env s)
    (fun _ JQ ops live tr env s Q=>Ug JQ env s fun env s=>Yl AP ops env s (Aed live tr Q))
    (fun m un JQ ops live tr env s Q=>Ug JQ env s fun env s=>Aeg AP m un ops env s fun BA s1=>Ym m ops fun tl=>Yl AP tl BA s1 (Aed live tr Q))
    (fun m W pc JQ ops live tr env s Q=>Ug JQ env s fun env s=>ZL AP m W pc ops 0 env s [] [] (Aed live tr Q))
    (fun _ _ iha ihb env s Q=>iha env s (Amq (fun env s=>ihb env s Q) Q))
    (fun c _ _ iha ihb env s Q=>Aej (c.val env) (iha env s Q) (ihb env s Q))
    (fun id _ iha env s Q=>iha env s (Akd id Q))
    (fun live a _ env s Q=>KE live env fun env=>Run AP (.loop live a) env s Q)
    (fun id env s Q=>Q (.exit id) env s)
    (fun env s Q=>Q .ret env s) c
theorem Uh {env:Env} {t:Nat}:∀{ts:List Nat},t∈ts→(commit env ts).get t=env.get t
 |[],h=>by simp at h
 |t'::ts,h=>by
  simp only[commit,Env.get]
  cases hb:Nat.beq t' t
  ·have hne:t≠t':=fun e=>by subst e;simp at hb
   rw[cond_false]
   exact Uh ((List.mem_cons.1 h).resolve_left hne)
  ·rw[cond_true,Nat.eq_of_beq_eq_true hb]
theorem Pq {env env':Env}:∀{ts:List Nat},(∀ t∈ts,env.get t=env'.get t)→commit env ts=commit env' ts
 |[],_=>rfl
 |t::ts,h=>by simp only[commit];rw[h t (by simp),Pq fun t' h'=>h t' (by simp[h'])]
theorem Uy (env:Env) (ts:List Nat):commit (commit env ts) ts=commit env ts:=Pq fun _ h=>Uh h
theorem QG {live:List Nat} {a:AQ} {env:Env} {s:Ai} {Q:AL→Env→Ai→Prop} (h:Run AP (.loop live a) (commit env live) s Q):Run AP (.loop live a) env s Q:=by
 obtain⟨N,e,env',s',h1,h2⟩:=h
 refine⟨N,e,env',s',?_,h2⟩
 simp only[EO]at h1 ⊢
 cases N with
 |zero=>simp[iter]at h1
 |succ N=>
  simp only[iter,Uy]at h1 ⊢
  exact h1
theorem GY:∀{c:AQ} {env:Env} {s:Ai} {Q:AL→Env→Ai→Prop},vC AP c env s Q→Run AP c env s Q:=by
 intro c
 induction c with
 |skip=>intro env s Q h;exact⟨0,_,_,_,rfl,h⟩
 |exit id=>intro env s Q h;exact⟨0,_,_,_,rfl,h⟩
 |ret=>intro env s Q h;exact⟨0,_,_,_,rfl,h⟩
 |region hd JQ ops live tr=>
  intro env s Q h
  obtain⟨BA,s1,h1,h2⟩:=Ee h
  obtain⟨N,e,Dj,s2,h3,h4⟩:=Gs h2
  cases e with
  |normal=>exact⟨N,_,_,_,by simp only[EO,h1,h3],(N8 _ _ _).1 ((EM _ _ _).1 h4)⟩
  |exit id=>exact⟨N,_,_,_,by simp only[EO,h1,h3],h4⟩
  |ret=>exact⟨N,_,_,_,by simp only[EO,h1,h3],h4⟩
  |Ef v=>exact⟨N,_,_,_,by simp only[EO,h1,h3],h4⟩
 |mix m W pc JQ ops live tr=>
  intro env s Q h
  obtain⟨BA,s1,h1,h2⟩:=Ee h
  obtain⟨N,e,Dj,s2,h3,h4⟩:=I8 h2
  cases e with
  |normal=>exact⟨N,_,_,_,by simp only[EO,h1,h3],(N8 _ _ _).1 ((EM _ _ _).1 h4)⟩
  |exit id=>exact⟨N,_,_,_,by simp only[EO,h1,h3],h4⟩
  |ret=>exact⟨N,_,_,_,by simp only[EO,h1,h3],h4⟩
  |Ef v=>exact⟨N,_,_,_,by simp only[EO,h1,h3],h4⟩
 |par m un JQ ops live tr=>
  intro env s Q h
  obtain⟨BA,s1,h1,h2⟩:=Ee h
  obtain⟨N',Ake,s1',hh,h2⟩:=Yn h2
  rw[Vs]at h2
  obtain⟨N,e,Dj,s2,h3,h4⟩:=Gs h2
  have hh':LW (run AP (max N N')) m un ops BA s1=some (Ake,s1'):=by
   unfold LW at hh ⊢
   split at hh
   ·rename_i es hes
    rw[I5 (BJ (Nat.le_max_right N N')) hes]
    exact hh
   ·cases hh
  have h3':=EL (BJ (AP:=AP) (Nat.le_max_left N N')) h3
  cases e with
  |normal=>exact⟨max N N',_,_,_,by simp only[EO,h1,hh',h3'],(N8 _ _ _).1 ((EM _ _ _).1 h4)⟩
  |exit id=>exact⟨max N N',_,_,_,by simp only[EO,h1,hh',h3'],h4⟩
  |ret=>exact⟨max N N',_,_,_,by simp only[EO,h1,hh',h3'],h4⟩
  |Ef v=>exact⟨max N N',_,_,_,by simp only[EO,h1,hh',h3'],h4⟩
 |seq a b iha ihb=>
  intro env s Q h
  obtain⟨N,e,BA,s1,h1,h2⟩:=iha h
  cases e with
  |normal=>
   obtain⟨N',e',Dj,s2,h3,h4⟩:=ihb h2
   have h1':=Fj (BJ (AP:=AP) (Nat.le_max_left N N')) (Nat.le_max_left N N') h1
   have h3':=Fj (BJ (AP:=AP) (Nat.le_max_right N N')) (Nat.le_max_right N N') h3
   exact⟨max N N',e',Dj,s2,by simp only[EO,h1',h3'],h4⟩
  |exit id=>exact⟨N,_,_,_,by simp only[EO,h1],h2⟩
  |ret=>exact⟨N,_,_,_,by simp only[EO,h1],h2⟩
  |Ef v=>exact⟨N,_,_,_,by simp only[EO,h1],h2⟩
 |cond c a b iha ihb=>
  intro env s Q h
  change Aej (c.val env) (vC AP a env s Q) (vC AP b env s Q)at h
  unfold Aej at h
  split at h
  ·rename_i c' hc
   cases c'
   ·obtain⟨N,e,BA,s1,h1,h2⟩:=ihb h
    exact⟨N,e,BA,s1,by simp only[EO,hc,h1],h2⟩
   ·obtain⟨N,e,BA,s1,h1,h2⟩:=iha h
    exact⟨N,e,BA,s1,by simp only[EO,hc,h1],h2⟩
  ·cases h
 |block id a iha=>
  intro env s Q h
  obtain⟨N,e,BA,s1,h1,h2⟩:=iha h
  cases e with
  |normal=>exact⟨N,_,_,_,by simp only[EO,h1],h2⟩
  |exit j=>
   simp only[Akd]at h2
   cases hb:Nat.beq j id
   ·rw[hb]at h2
    have hne:j≠id:=fun e=>by subst e;simp at hb
    exact⟨N,_,_,_,by simp only[EO,h1,if_neg hne],h2⟩
   ·rw[hb]at h2
    exact⟨N,_,_,_,by simp only[EO,h1,if_pos (Nat.eq_of_beq_eq_true hb)],h2⟩
  |ret=>exact⟨N,_,_,_,by simp only[EO,h1],h2⟩
  |Ef v=>exact⟨N,_,_,_,by simp only[EO,h1],h2⟩
 |loop live a iha=>
  intro env s Q h
  exact QG ((EM _ _ _).1 h)
def Aek (AP:Nat→Option Ht) (live:List Nat) (a:AQ) (Q:AL→Env→Ai→Prop) (e:AL) (env:Env) (s:Ai):Prop:=match e with
 | .normal=>KE live env fun env=>Run AP (.loop live a) env s Q
 |e=>Q e env s
def AeI (fn:FK) (K:AB→Ai→Prop) (e:AL) (env:Env) (s:Ai):Prop:=match e with
 | .normal=>LX (Fb env s fn.results) fun vs=>K (.ok (DW vs)) s
 | .ret=>LX (Fb env s fn.results) fun vs=>K (.ok (DW vs)) s
 | .Ef v=>K (.Ef v) s
 | .exit _=>False
theorem RG {f:Nat} {fn:FK} {args:List AV} {s:Ai} {K:AB→Ai→Prop} (hf:AP f=some (.code fn)) (hl:args.length=fn.np) (h:Run AP fn.body (params args 0) s (AeI fn K)):D7 AP f args s K:=by
 obtain⟨N,e,env,s',h1,h2⟩:=h
 cases e with
 |normal=>
  obtain⟨vs,h3,h4⟩:=h2
  exact⟨N+1,_,_,by simp only[run,hf,if_pos hl,evF,h1,h3,Option.map_some],h4⟩
 |ret=>
  obtain⟨vs,h3,h4⟩:=h2
  exact⟨N+1,_,_,by simp only[run,hf,if_pos hl,evF,h1,h3,Option.map_some],h4⟩
 |Ef v=>exact⟨N+1,_,_,by simp only[run,hf,if_pos hl,evF,h1],h2⟩
 |exit id=>cases h2
end AI
end Go.Proofs.YtchcadfjbkkgmaaGreatDoor
namespace Go.Proofs.YtchcadfjbkkgmaaGreatDoor
namespace AI
open Go.RowKit
variable {AP:Nat→Option Ht}
def Akf (live:List Nat) (I:Env→Ai→Prop) (Q:AL→Env→Ai→Prop) (e:AL) (env:Env) (s:Ai):Prop:=match e with
 | .normal=>KE live env fun env=>I env s
 |e=>Q e env s
structure again (I:Nat→Env→Ai→Prop) (m:Nat) (env:Env) (s:Ai):Prop where
 mk::(h:∃m',m'<m∧I m' env s)
theorem Aj {live:List Nat} {a:AQ} {Q:AL→Env→Ai→Prop} (I:Nat→Env→Ai→Prop)
 (hI:∀m env s,I m env s→commit env live=env∧vC AP a env s (Akf live (again I m) Q)):
 ∀m env s,I m env s→Run AP (.loop live a) env s Q:=by
 intro m
 induction m using Nat.strongRecOn with
 |ind m ih=>
  intro env s h
  obtain⟨hc,h1⟩:=hI m env s h
  obtain⟨N,e,BA,s1,h2,h3⟩:=GY h1
  have hr:Run AP a env s (Aek AP live a Q):=by
   refine⟨N,e,BA,s1,h2,?_⟩
   cases e with
   |normal=>
    simp only[Akf,Aek,EM]at h3 ⊢
    obtain⟨m',hm,h4⟩:=h3
    exact ih m' hm _ _ h4
   |exit id=>exact h3
   |ret=>exact h3
   |Ef v=>exact h3
  obtain⟨N,e,BA,s1,h1,h2⟩:=hr
  cases e with
  |normal=>
   obtain⟨N',e',Dj,s2,h3,h4⟩:=QG ((EM _ _ _).1 h2)
   refine⟨max N N'+1,e',Dj,s2,?_,h4⟩
   have h1':=Fj (BJ (AP:=AP) (show N≤max N N'+1 by omega)) (show N≤max N N'+1 by omega) h1
   simp only[EO]at h3 ⊢
   rw[iter.eq_2]
   rw[hc,h1']
   exact Qa (fun env s r hr=>Fj (BJ (by omega)) (by omega) hr) (by omega) h3
  |exit id=>exact⟨N+1,_,_,_,by simp only[EO,iter.eq_2,hc,Fj (BJ (AP:=AP) (Nat.le_succ N)) (Nat.le_succ N) h1],h2⟩
  |ret=>exact⟨N+1,_,_,_,by simp only[EO,iter.eq_2,hc,Fj (BJ (AP:=AP) (Nat.le_succ N)) (Nat.le_succ N) h1],h2⟩
  |Ef v=>exact⟨N+1,_,_,_,by simp only[EO,iter.eq_2,hc,Fj (BJ (AP:=AP) (Nat.le_succ N)) (Nat.le_succ N) h1],h2⟩
structure Ah (AP:Nat→Option Ht) (f:Nat) (args:List AV) (R:AV→Prop):Prop where
 mk::(h:∃v,Pure AP f args v∧R v)
def Aih (R:AV→Prop) (out:AB) (s:Ai):Prop:=match out with
 | .ok r=>AaR s.σ EP r R
 | .Ef _=>False
theorem Ae {f:Nat} {fn:FK} {args:List AV} {R:AV→Prop} (hf:AP f=some (.code fn)) (hl:args.length=fn.np) (h:vC AP fn.body (params args 0) ⟨[],0⟩ (AeI fn (Aih R))):Ah AP f args R:=by
 obtain⟨N,out,s',h1,h2⟩:=RG hf hl (GY h)
 cases out with
 |ok r=>
  have h2:AaR s'.σ EP r R:=h2
  obtain⟨v,h3,h4⟩:=Yi h2
  exact⟨v,⟨N,by simp only[Cj,h1];exact h3⟩,h4⟩
 |Ef r=>cases h2
theorem Aa {f:Nat} {args:List AV} {R:AV→Prop} {K:AV→Prop} (h:Ah AP f args R) (h2:∀v,R v→K v):AaM AP f args K:=by
 obtain⟨v,h3,h4⟩:=h
 exact⟨v,h3,h2 v h4⟩
theorem CU {f:Nat} {args:List AV} {p:Prop} [Decidable p] {K:AV→Prop} (h:Ah AP f args (· =.bool (decide p))) (h1:p→K (.bool true)) (h2:¬p→K (.bool false)):AaM AP f args K:=by
 refine Aa h ?_
 rintro _ rfl
 by_cases hp:p
 ·rw[decide_eq_true hp];exact h1 hp
 ·rw[decide_eq_false hp];exact h2 hp
theorem D7.mono {f:Nat} {args:List AV} {s:Ai} {K K':AB→Ai→Prop} (h:D7 AP f args s K) (hk:∀out s,K out s→K' out s):D7 AP f args s K':=by
 obtain⟨N,out,s',h1,h2⟩:=h
 exact⟨N,out,s',h1,hk _ _ h2⟩
theorem BP {p:Prop} [Decidable p] (h:p):AV.bool true=AV.bool (decide p):=by rw[decide_eq_true h]
theorem Bf {p:Prop} [Decidable p] (h:¬p):AV.bool false=AV.bool (decide p):=by rw[decide_eq_false h]
theorem Ah.mono {f:Nat} {args:List AV} {R R':AV→Prop} (h:Ah AP f args R) (h2:∀v,R v→R' v):Ah AP f args R':=by
 obtain⟨v,h3,h4⟩:=h
 exact⟨v,h3,h2 v h4⟩
theorem PO {f:Nat} {fn:FK} {args:List AV} {s:Ai} {K:AB→Ai→Prop} (hf:AP f=some (.code fn)) (hl:args.length=fn.np) (h:vC AP fn.body (params args 0) s (AeI fn K)):D7 AP f args s K:=
 RG hf hl (GY h)
end AI
end Go.Proofs.YtchcadfjbkkgmaaGreatDoor
namespace Go.Proofs.YtchcadfjbkkgmaaGreatDoor
namespace AI
def ints (l:List Int):List AV:=l.map (.int .i64)
abbrev WV (nn:Bool) (l:List Int):AV:=.sl nn (ints l)
@[simp] theorem lI (l:List Int):(ints l).length=l.length:=by simp[ints]
theorem Ael {l:List Int} {i:Nat} {x:Int} (h:l[i]?=some x):nth (ints l) i=some (.int .i64 x):=by simp[ints,Ar,h]
theorem nI {l:List Int} {i:Nat} (h:i<l.length):nth (ints l) i=some (.int .i64 l[i]):=Ael (List.getElem?_eq_getElem h)
theorem wrap_i64 {z:Int} (h:-2^63≤z) (h2:z<2^63):IntKind.i64.wrap z=z:=by
 rw[IntKind.wrap_i64];omega
theorem nIN {l:List Int} {i:Nat} (h:i<l.length):nth (ints l) (Int.toNat (Nat.cast i))=some (.int .i64 l[i]):=nI h
theorem Xn {es:Nat} {x:AV} (h:x.cells.length=es):Bh es [x]:=by intro y hy;simp at hy;exact hy▸h
theorem Sl {b n:Nat} (h:n*b≤2 ^ 46):roomy b n:=Nat.le_trans h (by decide)
def iss (E:List (Bool×List Int)):List AV:=E.map fun p=>.sl p.1 (ints p.2)
@[simp] theorem lS (E:List (Bool×List Int)):(iss E).length=E.length:=by simp[iss]
theorem nS {E:List (Bool×List Int)} {i:Nat} (h:i<E.length):nth (iss E) i=some (.sl E[i].1 (ints E[i].2)):=by simp[iss,Ar,h]
theorem nSN {E:List (Bool×List Int)} {i:Nat} (h:i<E.length):nth (iss E) (Int.toNat (Nat.cast i))=some (.sl E[i].1 (ints E[i].2)):=nS h
theorem Dh {α:Type} {l:List α} {i:Nat} (h:¬(i:Int)<(l.length:Int)):l.take i=l:=List.take_of_length_le (by omega)
theorem BG {α:Type} {p:α→Prop} {l:List α} {i:Nat} (h:i<l.length) (h1:∀x∈l.take i,p x) (h2:p l[i]):∀x∈l.take (i+1),p x:=by
 intro x hx
 rw[List.take_succ_eq_append_getElem h,List.mem_append,List.mem_singleton]at hx
 rcases hx with hx|rfl
 ·exact h1 x hx
 ·exact h2
theorem tIN {l:List Int} {i:Nat} {x y:Int}:(ints l).set (Int.toNat (Nat.cast i)) (Bz (.int .i64 x) 0 (.int .i64 y))=ints (l.set i y):=by
 simp[ints,Bz,AV.cells,List.map_set]
theorem tI {l:List Int} {i:Nat} {x y:Int}:(ints l).set i (Bz (.int .i64 x) 0 (.int .i64 y))=ints (l.set i y):=tIN
theorem uI {l:List Int}:sub (ints l) 0 l.length=ints l:=by
 unfold sub;rw[List.drop_zero,List.take_of_length_le (by simp)]
theorem uS {l:List (Bool×List Int)}:sub (iss l) 0 l.length=iss l:=by
 unfold sub;rw[List.drop_zero,List.take_of_length_le (by simp)]
theorem uIS {l:List Int} {x:Int}:sub (ints (l++[x])) 0 (l.length+1)=ints (l++[x]):=by
 have:=uI (l:=l++[x]);rwa [List.length_append]at this
theorem uSS {l:List (Bool×List Int)} {x:Bool×List Int}:sub (iss (l++[x])) 0 (l.length+1)=iss (l++[x]):=by
 have:=uS (l:=l++[x]);rwa [List.length_append]at this
theorem rIN (n:Nat) (z:Int):List.replicate (Int.toNat (Nat.cast n)) (AV.int .i64 z)=ints (List.replicate n z):=by simp[ints]
theorem rI (n:Nat) (z:Int):List.replicate n (AV.int .i64 z)=ints (List.replicate n z):=by simp[ints]
theorem nY {l:List UInt8} {i:Nat} (h:i<l.length):nth l i=some l[i]:=by simp[Ar,h]
theorem nYN {l:List UInt8} {i:Nat} (h:i<l.length):nth l (Int.toNat (Nat.cast i))=some l[i]:=nY h
def bools (l:List Bool):List AV:=l.map .bool
@[simp] theorem lB (l:List Bool):(bools l).length=l.length:=by simp[bools]
theorem nB {l:List Bool} {i:Nat} (h:i<l.length):nth (bools l) i=some (.bool l[i]):=by simp[bools,Ar,h]
theorem nBN {l:List Bool} {i:Nat} (h:i<l.length):nth (bools l) (Int.toNat (Nat.cast i))=some (.bool l[i]):=nB h
theorem tBN {l:List Bool} {i:Nat} {x y:Bool}:(bools l).set (Int.toNat (Nat.cast i)) (Bz (.bool x) 0 (.bool y))=bools (l.set i y):=by
 simp[bools,Bz,AV.cells,List.map_set]
theorem tB {l:List Bool} {i:Nat} {x y:Bool}:(bools l).set i (Bz (.bool x) 0 (.bool y))=bools (l.set i y):=tBN
theorem uB {l:List Bool}:sub (bools l) 0 l.length=bools l:=by
 unfold sub;rw[List.drop_zero,List.take_of_length_le (by simp)]
theorem rBN (n:Nat) (z:Bool):List.replicate (Int.toNat (Nat.cast n)) (AV.bool z)=bools (List.replicate n z):=by simp[bools]
section
variable {α β:Type} [DecidableEq α] {fk:α→AV} {fv:β→AV} {t:Jb}
def H6 (fk:α→AV) (fv:β→AV) (M:List (α×β)):List (AV×AV):=M.map fun p=>(fk p.1,fv p.2)
def Dx:List (α×β)→α→Option β
 |[],_=>none
 |(k',v)::M,k=>if k=k' then some v else Dx M k
def EF:List (α×β)→α→β→List (α×β)
 |[],k,v=>[(k,v)]
 |(k',v')::M,k,v=>if k=k' then(k,v)::M else(k',v')::EF M k v
theorem JA (M:List (α×β)) (k k':α) (v:β):Dx (EF M k v) k'=if k'=k then some v else Dx M k':=by
 induction M with
 |nil=>simp[EF,Dx]
 |cons p M ih=>
  obtain⟨a,b⟩:=p
  simp only[EF]
  by_cases h:k=a
  ·subst h;simp only[if_pos,Dx];split<;>simp_all
  ·rw[if_neg h]
   simp only[Dx,ih]
   by_cases h1:k'=a
   ·subst h1;rw[if_pos rfl,if_neg (fun e=>h e.symm),if_pos rfl]
   ·rw[if_neg h1,if_neg h1]
theorem KF (hk:∀a b,Df t (fk a) (fk b)=some (decide (a=b))) (k:α):∀(M:List (α×β)) (i:Nat),
 (Dx M k=none∧findKey t (fk k) (H6 fk fv M) i=some none∧EF M k=fun v=>M++[(k,v)])∨
 ∃j v,Dx M k=some v∧findKey t (fk k) (H6 fk fv M) i=some (some (i+j,fv v))∧EF M k=fun v=>M.set j (k,v)
 |[],i=>.inl ⟨rfl,rfl,rfl⟩
 |(a,b)::M,i=>by
  by_cases h:k=a
  ·subst h
   refine .inr ⟨0,b,by simp[Dx],?_,by funext v;simp[EF]⟩
   simp only[H6,List.map_cons,findKey,hk,decide_true,Nat.add_zero]
  ·rcases KF hk k M (i+1)with⟨h1,h2,h3⟩|⟨j,v,h1,h2,h3⟩
   ·refine .inl ⟨by simp[Dx,h,h1],?_,by funext v;simp[EF,h,h3]⟩
    simp only[H6,List.map_cons,findKey,hk,decide_eq_false h]at h2 ⊢
    exact h2
   ·refine .inr ⟨j+1,v,by simp[Dx,h,h1],?_,by funext v;simp[EF,h,h3]⟩
    simp only[H6,List.map_cons,findKey,hk,decide_eq_false h]at h2 ⊢
    rw[h2];congr 3;omega
theorem IC (hk:∀a b,Df t (fk a) (fk b)=some (decide (a=b))) {M:List (α×β)} {k:α} {K:Option (Nat×AV)→Prop}
 (h1:Dx M k=none→K none) (h2:∀i v,Dx M k=some v→K (some (i,fv v))):MW t (fk k) (H6 fk fv M) K:=by
 rcases KF (fv:=fv) hk k M 0 with⟨g1,g2,_⟩|⟨j,v,g1,g2,_⟩
 ·exact⟨_,g2,h1 g1⟩
 ·exact⟨_,g2,h2 _ _ g1⟩
theorem NI (hk:∀a b,Df t (fk a) (fk b)=some (decide (a=b))) {M:List (α×β)} {k:α} {v:β} {K:List (AV×AV)→Prop}
 (h:K (H6 fk fv (EF M k v))):Xr t (fk k) (fv v) (H6 fk fv M) K:=by
 rcases KF (fv:=fv) hk k M 0 with⟨g1,g2,g3⟩|⟨j,w,g1,g2,g3⟩
 ·refine⟨_,g2,?_⟩
  rw[g3]at h
  simpa[Aea,H6]using h
 ·refine⟨_,g2,?_⟩
  rw[g3]at h
  simpa[Aea,H6,List.map_set]using h
end
theorem EG (a b:Int):Df .int (.int .i64 a) (.int .i64 b)=some (decide (a=b)):=by
 simp only[Df,if_true];rfl
abbrev Og (M:List (Int×Int)):List (AV×AV):=H6 (.int .i64) (.int .i64) M
theorem fkI {M:List (Int×Int)} {k:Int} {K:Option (Nat×AV)→Prop}
 (h1:Dx M k=none→K none) (h2:∀i v,Dx M k=some v→K (some (i,.int .i64 v))):MW .int (.int .i64 k) (Og M) K:=IC EG h1 h2
theorem msI {M:List (Int×Int)} {k v:Int} {K:List (AV×AV)→Prop} (h:K (Og (EF M k v))):Xr .int (.int .i64 k) (.int .i64 v) (Og M) K:=NI EG h
end AI
end Go.Proofs.YtchcadfjbkkgmaaGreatDoor
