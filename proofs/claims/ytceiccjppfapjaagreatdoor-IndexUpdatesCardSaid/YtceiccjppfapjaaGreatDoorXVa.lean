/- The evaluator, step by step on symbols: what must hold for it to end in 'Q'. The evaluator, step by step on symbols: operations. The evaluator, step by step on symbols: regions, code, loops, functions. Loops by an invariant; what a function answers, as a predicate. Lists of numbers as abstract values; small facts that the steps need. -/
import Derived.Test.YtceiccjppfapjaaGreatDoorXSe
set_option linter.unusedVariables false
set_option maxRecDepth 4000
namespace Go.Proofs.YtceiccjppfapjaaGreatDoor
namespace AI
open Go.RowKit
variable {AP:Nat→Option G9}
structure Run (AP:Nat→Option G9) (c:Bh) (env:Env) (s:Am) (Q:AU→Env→Am→Prop):Prop where
 mk::(h:∃N e env' s',E8 (run AP N) N c env s=some (e,env',s')∧Q e env' s')
def Op1 (AP:Nat→Option G9) (o:Ci) (env:Env) (s:Am) (K:AL→Am→Prop):Prop:=
 ∃N out s',Ai (run AP N) o env s=some (out,s')∧K out s'
def Ops (AP:Nat→Option G9) (os:List AQ) (env:Env) (s:Am) (Q:AU→Env→Am→Prop):Prop:=
 ∃N e env' s',Ej (run AP N) os env s=some (e,env',s')∧Q e env' s'
structure Pure (AP:Nat→Option G9) (f:Nat) (args:List AV) (v:AV):Prop where
 mk::(h:∃N,Dv (run AP N) f args=some v)
structure AA (AP:Nat→Option G9) (f:Nat) (args:List AV) (s:Am) (K:AL→Am→Prop):Prop where
 mk::(h:∃N out s',run AP N f args s=some (out,s')∧K out s')
theorem Bl {n n':Nat} (h:n≤n'):EF (run AP n) (run AP n'):=Qv h
theorem Run.mono {c:Bh} {env:Env} {s:Am} {Q Q':AU→Env→Am→Prop} (h:Run AP c env s Q) (hq:∀e env s,Q e env s→Q' e env s):Run AP c env s Q':=by
 obtain⟨N,e,env',s',h1,h2⟩:=h
 exact⟨N,e,env',s',h1,hq _ _ _ h2⟩
def AV.force {R:Sort _} (v:AV) (f:AV→R):R:=
 match v with
 | .bool b=>f (.bool b)
 | .int k n=>f (.int k n)
 | .str s=>f (.str s)
 | .sl nn xs=>f (.sl nn xs)
 | .zc=>f .zc
 | .own o g a b=>f (.own o g a b)
 | .agg cs=>f (.agg cs)
 | .BL cs=>f (.BL cs)
 | .ref o g i a=>f (.ref o g i a)
 | .CY cs=>f (.CY cs)
 | .fn g cs=>f (.fn g cs)
 | .map o g=>f (.map o g)
 | .fmap es=>f (.fmap es)
 | .iface t v=>f (.iface t v)
 | .IZ=>f .IZ
 | .Dj=>f .Dj
 | .FP=>f .FP
 | .GL=>f .GL
 | .undef=>f .undef
 | .junk=>f .junk
theorem force_eq {R:Sort _} (v:AV) (f:AV→R):v.force f=f v:=by cases v<;>rfl
def J3 (b:Bool) (t e:Prop):Prop:=match b with
 |true=>t
 |false=>e
theorem O5 {b:Bool} {t e:Prop} (h1:b=true→t) (h2:b=false→e):J3 b t e:=by
 cases b
 ·exact h2 rfl
 ·exact h1 rfl
structure LQ (p t e:Prop):Prop where
 mk::(yes:p→t) (no:¬p→e)
structure need (p t:Prop):Prop where
 mk::(l:p) (r:t)
theorem BO {p t:Prop} (h1:p) (h2:t):need p t:=⟨h1,h2⟩
structure Ig (k:IntKind) (z:Int) (K:AV→Prop):Prop where
 mk::(h:∃y,k.wrap z=y∧K (.int k y))
theorem CQ {k:IntKind} {z y:Int} {K:AV→Prop} (h:k.wrap z=y) (h2:K (.int k y)):Ig k z K:=⟨y,h,h2⟩
structure Ce {α:Type} (xs:List α) (i:Nat) (K:α→Prop):Prop where
 mk::(h:∃x,nth xs i=some x∧K x)
theorem Ap {α:Type} {xs:List α} {i:Nat} {K:α→Prop} {x:α} (h:nth xs i=some x) (h2:K x):Ce xs i K:=⟨x,h,h2⟩
structure J5 {α:Type} (o:Option α) (K:α→Prop):Prop where
 mk::(h:∃x,o=some x∧K x)
theorem Ah {α:Type} {o:Option α} {K:α→Prop} {x:α} (h:o=some x) (h2:K x):J5 o K:=⟨x,h,h2⟩
structure Yy (AP:Nat→Option G9) (f:Nat) (args:List AV) (K:AV→Prop):Prop where
 mk::(h:∃v,Pure AP f args v∧K v)
def settle (v:AV) (K:AV→Prop):Prop:=match v with
 | .bool b=>J3 b (K (.bool true)) (K (.bool false))
 |v=>v.force K
theorem Qw (v:AV) (K:AV→Prop):settle v K↔K v:=by
 cases v<;>first|exact Iff.rfl|skip
 rename_i b
 cases b<;>exact Iff.rfl
def Qx {α:Type}:List α→Nat→α→(List α→Prop)→Prop
 |[],_,_,K=>K []
 |_::xs,0,y,K=>K (y::xs)
 |x::xs,n+1,y,K=>Qx xs n y fun ys=>K (x::ys)
theorem Fp {α:Type}:∀(l:List α) (n:Nat) (y:α) (K:List α→Prop),Qx l n y K↔K (l.set n y)
 |[],_,_,_=>Iff.rfl
 |_::_,0,_,_=>Iff.rfl
 |x::xs,n+1,y,K=>Fp xs n y fun ys=>K (x::ys)
def Yz {α:Type}:List α→α→(List α→Prop)→Prop
 |[],y,K=>K [y]
 |x::xs,y,K=>Yz xs y fun ys=>K (x::ys)
theorem OB {α:Type}:∀(l:List α) (y:α) (K:List α→Prop),Yz l y K↔K (l++[y])
 |[],_,_=>Iff.rfl
 |x::xs,y,K=>OB xs y fun ys=>K (x::ys)
def Uj (s:Am) (mk:Nat→Nat→AV) (ob:Nat→Obj) (K:AL→Am→Prop):Prop:=
 Yz s.σ (ob s.ctr) fun σ=>K (.ok (mk s.σ.length s.ctr)) ⟨σ,s.ctr+1⟩
structure eqK {α:Type} (a:α) (K:α→Prop):Prop where
 mk::(h:∃b,a=b∧K b)
theorem BK {α:Type} {a b:α} {K:α→Prop} (h1:a=b) (h:K b):eqK a K:=⟨_,h1,h⟩
def YA (op:BinOp) (k:IntKind) (a b:Int) (K:AV→Prop):Prop:=
 match op with
 | .add=>Ig k (a+b) K
 | .sub=>Ig k (a-b) K
 | .mul=>Ig k (a*b) K
 | .quo=>need (b≠0) (Ig k (a.tdiv b) K)
 | .rem=>need (b≠0) (K (.int k (a.tmod b)))
 | .eql=>LQ (a=b) (K (.bool true)) (K (.bool false))
 | .neq=>LQ (a=b) (K (.bool false)) (K (.bool true))
 | .lss=>LQ (a<b) (K (.bool true)) (K (.bool false))
 | .leq=>LQ (a≤b) (K (.bool true)) (K (.bool false))
 | .gtr=>LQ (b<a) (K (.bool true)) (K (.bool false))
 | .geq=>LQ (b≤a) (K (.bool true)) (K (.bool false))
 | .and=>eqK (k.wrap (BitVec.ofInt k.bits a &&& BitVec.ofInt k.bits b).toNat) fun z=>K (.int k z)
 | .or=>eqK (k.wrap (BitVec.ofInt k.bits a ||| BitVec.ofInt k.bits b).toNat) fun z=>K (.int k z)
 | .xor=>eqK (k.wrap (BitVec.ofInt k.bits a ^^^ BitVec.ofInt k.bits b).toNat) fun z=>K (.int k z)
 | .shl=>need (0≤b) (Ig k (a*2 ^ (min b.toNat k.bits)) K)
 | .shr=>need (0≤b) (eqK (a.fdiv (2 ^ (min b.toNat k.bits))) fun z=>K (.int k z))
 |_=>False
def YB (op:BinOp) (a b:List UInt8) (K:AV→Prop):Prop:=
 match op with
 | .eql=>LQ (a=b) (K (.bool true)) (K (.bool false))
 | .neq=>LQ (a=b) (K (.bool false)) (K (.bool true))
 | .lss=>J3 (Op.bytesLess a b) (K (.bool true)) (K (.bool false))
 | .leq=>J3 (Op.bytesLess a b||a==b) (K (.bool true)) (K (.bool false))
 | .gtr=>J3 (Op.bytesLess a b||a==b) (K (.bool false)) (K (.bool true))
 | .geq=>J3 (Op.bytesLess a b) (K (.bool false)) (K (.bool true))
 | .add=>need (a.length+b.length<2 ^ 63) (K (.str (a++b)))
 |_=>False
def AaX (op:BinOp) (k k':IntKind) (t:Prop):Prop:=match op with
 | .shl=>t
 | .shr=>t
 |_=>need (k=k') t
theorem ZJ {op:BinOp} {k k':IntKind} {t:Prop} (h:AaX op k k' t):(k=k'∨op=.shl∨op=.shr)∧t:=by
 unfold AaX at h
 split at h
 ·exact⟨.inr (.inl rfl),h⟩
 ·exact⟨.inr (.inr rfl),h⟩
 ·exact⟨.inl h.1,h.2⟩
theorem AdI {op:BinOp} {k k':IntKind} {t:Lh} {a b:Int} (h:k=k'∨op=.shl∨op=.shr):bin op t (.int k a) (.int k' b)=I4 op k a b:=by
 simp only[bin]
 split
 ·rfl
 ·rename_i hk
  rcases h with h|rfl|rfl
  ·exact absurd h hk
  ·rfl
  ·rfl
def AfS (op:BinOp) (t:Lh) (x y:AV) (K:AV→Prop):Prop:=
 match x,y with
 | .int k a,.int k' b=>AaX op k k' (YA op k a b K)
 | .str a,.str b=>YB op a b K
 |x,y=>J5 (bin op t x y) fun v=>settle v K
theorem Xk {op:BinOp} {t:Lh} {x y:AV} {K:AV→Prop} (h:AfS op t x y K):∃v,bin op t x y=some v∧K v:=by
 unfold AfS at h
 split at h
 ·rename_i k a k' b
  obtain⟨hk,h⟩:=ZJ h
  rw[AdI hk]
  unfold YA at h
  cases op<;>simp only at h
  case add=>obtain⟨y,h1,h2⟩:=h;exact⟨_,rfl,by rw[h1];exact h2⟩
  case sub=>obtain⟨y,h1,h2⟩:=h;exact⟨_,rfl,by rw[h1];exact h2⟩
  case mul=>obtain⟨y,h1,h2⟩:=h;exact⟨_,rfl,by rw[h1];exact h2⟩
  case quo=>obtain⟨h0,y,h1,h2⟩:=h;exact⟨_,by simp only[I4,if_neg h0];rfl,by rw[h1];exact h2⟩
  case rem=>obtain⟨h0,h2⟩:=h;exact⟨_,by simp only[I4,if_neg h0],h2⟩
  case and=>obtain⟨z,rfl,h2⟩:=h;exact⟨_,rfl,h2⟩
  case or=>obtain⟨z,rfl,h2⟩:=h;exact⟨_,rfl,h2⟩
  case xor=>obtain⟨z,rfl,h2⟩:=h;exact⟨_,rfl,h2⟩
  case shl=>obtain⟨h0,y,h1,h2⟩:=h;exact⟨_,by simp only[I4,if_neg (Int.not_lt.2 h0)];rfl,by rw[h1];exact h2⟩
  case shr=>obtain⟨h0,z,rfl,h2⟩:=h;exact⟨_,by simp only[I4,if_neg (Int.not_lt.2 h0)],h2⟩
  case eql=>
   by_cases c:a=b
   ·exact⟨_,rfl,by have:=h.1 c;simpa only[c,beq_self_eq_true,bne_self_eq_false,Bool.not_true]using this⟩
   ·exact⟨_,rfl,by have:=h.2 c;simpa only[bne,beq_false_of_ne c,Bool.not_false]using this⟩
  case neq=>
   by_cases c:a=b
   ·exact⟨_,rfl,by have:=h.1 c;simpa only[c,beq_self_eq_true,bne_self_eq_false,Bool.not_true]using this⟩
   ·exact⟨_,rfl,by have:=h.2 c;simpa only[bne,beq_false_of_ne c,Bool.not_false]using this⟩
  case lss=>
   by_cases c:a<b
   ·exact⟨_,rfl,by simpa[c]using h.1 c⟩
   ·exact⟨_,rfl,by simpa[c]using h.2 c⟩
  case leq=>
   by_cases c:a≤b
   ·exact⟨_,rfl,by simpa[c]using h.1 c⟩
   ·exact⟨_,rfl,by simpa[c]using h.2 c⟩
  case gtr=>
   by_cases c:b<a
   ·exact⟨_,rfl,by simpa[c]using h.1 c⟩
   ·exact⟨_,rfl,by simpa[c]using h.2 c⟩
  case geq=>
   by_cases c:b≤a
   ·exact⟨_,rfl,by simpa[c]using h.1 c⟩
   ·exact⟨_,rfl,by simpa[c]using h.2 c⟩
 ·rename_i a b
  simp only[bin]
  unfold YB at h
  cases op<;>simp only at h
  case add=>obtain⟨h0,h2⟩:=h;exact⟨_,by simp only[Xl,if_pos h0],h2⟩
  case eql=>
   by_cases c:a=b
   ·exact⟨_,rfl,by have:=h.1 c;simpa only[c,beq_self_eq_true,bne_self_eq_false,Bool.not_true]using this⟩
   ·exact⟨_,rfl,by have:=h.2 c;simpa only[bne,beq_false_of_ne c,Bool.not_false]using this⟩
  case neq=>
   by_cases c:a=b
   ·exact⟨_,rfl,by have:=h.1 c;simpa only[c,beq_self_eq_true,bne_self_eq_false,Bool.not_true]using this⟩
   ·exact⟨_,rfl,by have:=h.2 c;simpa only[bne,beq_false_of_ne c,Bool.not_false]using this⟩
  case lss=>cases c:Op.bytesLess a b<;>rw[c]at h<;>exact⟨_,rfl,by rw[c];exact h⟩
  case leq=>cases c:(Op.bytesLess a b||a==b)<;>rw[c]at h<;>exact⟨_,rfl,by rw[c];exact h⟩
  case gtr=>cases c:(Op.bytesLess a b||a==b)<;>rw[c]at h<;>exact⟨_,rfl,by rw[c];exact h⟩
  case geq=>cases c:Op.bytesLess a b<;>rw[c]at h<;>exact⟨_,rfl,by rw[c];exact h⟩
 ·obtain⟨v,h1,h2⟩:=h
  exact⟨v,h1,(Qw v K).1 h2⟩
end AI
end Go.Proofs.YtceiccjppfapjaaGreatDoor
namespace Go.Proofs.YtceiccjppfapjaaGreatDoor
namespace AI
open Go.RowKit
variable {AP:Nat→Option G9}
def done (v:AV) (s:Am) (K:AL→Am→Prop):Prop:=settle v fun v=>K (.ok v) s
def AaY:AB:=fun _ _ _=>none
def Vo (o:Ci) (env:Env) (s:Am) (K:AL→Am→Prop):Prop:=
 J5 (Ai AaY o env s) fun r=>match r with
    |(.ok v,s')=>done v s' K
    |(.Di v,s')=>K (.Di v) s'
def YC (σ:List Obj) (n:Nat) (r:AV) (R:AV→Prop):Prop:=match r with
 | .own o g off len=>match n with
   |0=>False
   |n+1=>match nth σ o with
    |some (.arr g' _ nn cl elems)=>match cl with
     |true=>need (g=g'∧off+len≤elems.length) (eqK (sub elems off len) fun xs=>R (.sl nn xs))
     |false=>J5 (snap σ (n+1) (.own o g off len)) R
    |_=>False
 |r=>J5 (snap σ n r) R
theorem O6 {σ:List Obj} {n:Nat} {r:AV} {R:AV→Prop} (h:YC σ n r R):∃v,snap σ n r=some v∧R v:=by
 unfold YC at h
 split at h
 ·rename_i o g off len
  split at h
  ·cases h
  ·split at h
   ·rename_i g' es nn cl elems ho
    split at h
    ·obtain⟨h1,xs,rfl,h2⟩:=h
     refine⟨_,?_,h2⟩
     simp only[snap,ho,if_pos h1,if_true]
    ·obtain⟨v,h1,h2⟩:=h;exact⟨v,h1,h2⟩
   ·cases h
 ·obtain⟨v,h1,h2⟩:=h;exact⟨v,h1,h2⟩
def Qy (σ:List Obj):Nat→List AV→(List AV→Prop)→Prop
 |_,[],K=>K []
 |0,_::_,_=>False
 |n+1,v::vs,K=>YC σ n v fun a=>Qy σ n vs fun r=>K (a::r)
theorem Hz {σ:List Obj}:∀{n:Nat} {vs:List AV} {K:List AV→Prop},Qy σ n vs K→∃r,Fh σ n vs=some r∧K r
 |n,[],K,h=>⟨[],by cases n<;>rfl,by cases n<;>exact h⟩
 |0,_::_,_,h=>by cases h
 |n+1,v::vs,K,h=>by
  obtain⟨a,h1,h2⟩:=O6 h
  obtain⟨r,h3,h4⟩:=Hz h2
  exact⟨_,by simp only[Fh,h1,h3],h4⟩
def YD (σ:List Obj) (n:Nat) (r:AV) (R:AV→Prop):Prop:=match r with
 | .BL cs=>match n with
   |0=>False
   |n+1=>Qy σ n cs fun vs=>R (.BL vs)
 | .agg cs=>match n with
   |0=>False
   |n+1=>Qy σ n cs fun vs=>R (.agg vs)
 |r=>YC σ n r R
theorem Vp {σ:List Obj} {n:Nat} {r:AV} {R:AV→Prop} (h:YD σ n r R):∃v,snap σ n r=some v∧R v:=by
 unfold YD at h
 split at h
 ·split at h
  ·cases h
  ·obtain⟨vs,h1,h2⟩:=Hz h
   exact⟨_,by simp only[snap,h1,Option.map_some],h2⟩
 ·split at h
  ·cases h
  ·obtain⟨vs,h1,h2⟩:=Hz h
   exact⟨_,by simp only[snap,h1,Option.map_some],h2⟩
 ·exact O6 h
def AaZ (AP:Nat→Option G9) (m:Mode) (f:Nat) (args:List AV) (s:Am) (K:AL→Am→Prop):Prop:=
 match m with
 | .pure=>need (Dz args=true) (Yy AP f args fun v=>done v s K)
 | .borrow=>Qy s.σ Eo args fun args'=>Yy AP f args' fun v=>need (v.scalar=true) (done v s K)
 | .share=>AA AP f args s fun out s'=>match out with
   | .ok r=>J5 (compact s.σ.length r s') fun r=>done r.1 r.2 K
   | .Di v=>need (v.closed=true) (K (.Di v) ⟨s'.σ.take s.σ.length,s'.ctr⟩)
 | .own=>∃N r s',A8 (run AP N) .own f args s=some (.ok r,s')∧done r s' K
 | .keep=>AA AP f args s fun out s'=>match out with
   | .ok r=>done r s' K
   | .Di v=>K (.Di v) s'
structure Lj (g g' es es' len:Nat) (nn cl c:Bool) (elems ys:List AV) (bytes:Nat) (K:Nat→Bool→Bool→List AV→Prop):Prop where
 mk::(h:(g=g'∧es=es'∧len≤elems.length∧Bg es ys∧roomy bytes (len+ys.length))∧K (len+ys.length) (nn||!ys.isEmpty) (cl&&c) (elems.take len++ys))
def AfT (a b:Bool) (K:Bool→Prop):Prop:=match b with
 |true=>K a
 |false=>K false
theorem Vq (a b:Bool) (K:Bool→Prop):AfT a b K↔K (a&&b):=by cases a<;>cases b<;>exact Iff.rfl
def Aa0 (b:Bool) (K:Bool→Prop):Prop:=match b with
 |true=>K true
 |false=>K false
theorem Dh (b:Bool) (K:Bool→Prop):Aa0 b K↔K b:=by cases b<;>exact Iff.rfl
def YE (env:Env):List (Nat×AO)→(List (Nat×AV)→Prop)→Prop
 |[],K=>K []
 |(j,x)::ps,K=>(x.val env).force fun v=>YE env ps fun r=>K ((j,v)::r)
theorem SG (env:Env):∀(ps:List (Nat×AO)) (K:List (Nat×AV)→Prop),YE env ps K↔K (OC env ps)
 |[],_=>Iff.rfl
 |(j,x)::ps,K=>by simp only[YE,force_eq,OC];exact SG env ps _
def FQ (z:AV):Nat→List (Nat×AV)→Nat→(List AV→Prop)→Prop
 |0,_,_,K=>K []
 |n+1,[],i,K=>FQ z n [] (i+1) fun r=>K (z::r)
 |n+1,(j,v)::ps,i,K=>bif Nat.beq i j then FQ z n ps (i+1) fun r=>K (v::r)else FQ z n ((j,v)::ps) (i+1) fun r=>K (z::r)
theorem Gz (z:AV):∀(n:Nat) (ps:List (Nat×AV)) (i:Nat) (K:List AV→Prop),FQ z n ps i K↔K (BJ z n ps i)
 |0,_,_,_=>by simp only[FQ,BJ]
 |n+1,[],i,K=>by simp only[FQ,BJ];exact Gz z n [] (i+1) _
 |n+1,(j,v)::ps,i,K=>by
  simp only[FQ,BJ]
  cases Nat.beq i j
  ·exact Gz z n _ (i+1) _
  ·exact Gz z n _ (i+1) _
def Xm (es:Nat) (v:AV) (s:Am) (K:List AV→Bool→Prop):Prop:=match v with
 | .sl _ xs=>K xs true
 | .zc=>K [] true
 |v=>J5 (elemsOf s es v) fun r=>K r.1 r.2
theorem Uk {es:Nat} {v:AV} {s:Am} {K:List AV→Bool→Prop} (h:Xm es v s K):∃ys c,elemsOf s es v=some (ys,c)∧K ys c:=by
 unfold Xm at h
 split at h
 ·exact⟨_,_,rfl,h⟩
 ·exact⟨_,_,rfl,h⟩
 ·obtain⟨⟨ys,c⟩,h1,h2⟩:=h
  exact⟨ys,c,h1,h2⟩
def AdJ (off j:Nat) (K:Nat→Prop):Prop:=match off with
 |0=>K j
 |n+1=>K (n+1+j)
theorem Vr (off j:Nat) (K:Nat→Prop):AdJ off j K↔K (off+j):=by
 cases off with
 |zero=>simp[AdJ]
 |succ n=>exact Iff.rfl
structure Aa1 (t:Lh) (k:AV) (ents:List (AV×AV)) (K:Option (Nat×AV)→Prop):Prop where
 mk::(h:∃r,findKey t k ents 0=some r∧K r)
def AhR (k v:AV) (ents:List (AV×AV)) (r:Option (Nat×AV)):List (AV×AV):=match r with
 |some (i,_)=>ents.set i (k,v)
 |none=>ents++[(k,v)]
structure AhS (t:Lh) (k v:AV) (ents:List (AV×AV)) (K:List (AV×AV)→Prop):Prop where
 mk::(h:∃r,findKey t k ents 0=some r∧K (AhR k v ents r))
def Ul (env:Env) (d:Nat) (x:Option AO) (K:Nat→Prop):Prop:=match x with
 |none=>K d
 |some x=>match x.val env with
  | .int _ n=>need (0≤n) (K n.toNat)
  |_=>False
def P7 (env:Env) (len:Nat) (lo hi:Option AO) (K:Nat→Nat→Prop):Prop:=
 Ul env len hi fun h=>Ul env 0 lo fun l=>need (l≤h∧h≤len) (K l h)
theorem NC {env:Env} {d:Nat} {x:Option AO} {K:Nat→Prop} (h:Ul env d x K):∃n,(match x with|none=>some d|some x=>bound (x.val env))=some n∧K n:=by
 unfold Ul at h
 split at h
 ·exact⟨d,rfl,h⟩
 ·rename_i x
  split at h
  ·rename_i k n hv
   exact⟨n.toNat,by simp only[hv,bound,if_pos h.1],h.2⟩
  ·cases h
theorem I5 {env:Env} {len:Nat} {lo hi:Option AO} {K:Nat→Nat→Prop} (h:P7 env len lo hi K):∃l u,bounds env len lo hi=some (l,u)∧K l u:=by
 obtain⟨u,h1,h2⟩:=NC h
 obtain⟨l,h3,h4,h5⟩:=NC h2
 refine⟨l,u,?_,h5⟩
 unfold bounds
 cases hi<;>cases lo<;>simp_all
def Js (AP:Nat→Option G9) (o:Ci) (env:Env) (s:Am) (K:AL→Am→Prop):Prop:=
 match o with
 | .mov x=>done (x.val env) s K
 | .I7 es=>Uj s (fun o g=>.own o g 0 0) (fun g=>.arr g es false true []) K
 | .Jy off e2 es cs=>match nth cs off with
   |some (.sl false [])=>need (0<e2) (Uj s (fun o g=>.own o g 0 0) (fun g=>.arr g e2 false true []) fun out s1=>match out with
        | .ok v=>Uj s1 (fun o g=>.ref o g 0 0) (fun g=>.arr g es true (AV.agg (cs.set off v)).closed [.agg (cs.set off v)]) K
        | .Di _=>False)
   |_=>False
 | .pick c a b=>match c.val env with
   | .bool c=>J3 c (done (a.val env) s K) (done (b.val env) s K)
   |_=>False
 | .alloc es z=>Uj s (fun o g=>.ref o g 0 0) (fun g=>.arr g es true z.closed [z]) K
 | .box es x=>(x.val env).force fun v=>need ((v.storable&&v.cells.length==es)=true) (Uj s (fun o g=>.ref o g 0 0) (fun g=>.arr g es true v.closed [v]) K)
 | .build z parts=>J5 (Ec z (Jz env parts)) fun cs=>K (.ok (.agg cs)) s
 | .load sz a=>match a.val env with
   | .CY cs=>J5 (loadCells cs sz) fun v=>done v s K
   | .ref o g i off=>match nth s.σ o with
     |some (.arr g' _ _ _ elems)=>need (g=g') (Ce elems i fun x=>J5 (loadCells (x.cells.drop off) sz) fun v=>done v s K)
     |_=>False
   |_=>False
 | .store sz a x=>match a.val env with
   | .ref o g i off=>match nth s.σ o with
     |some (.arr g' es nn cl elems)=>need (g=g') (Ce elems i fun y=>(x.val env).force fun v=>need ((v.storable&&v.cells.length==sz&&off+sz≤es)=true)
       (AfT cl v.closed fun cl'=>eqK (elems.set i (Bo y off v)) fun es'=>Qx s.σ o (.arr g' es nn cl' es') fun σ=>K (.ok .undef) ⟨σ,s.ctr⟩))
     |_=>False
   |_=>False
 | .OD x=>match x.val env with
   | .ref o g i off=>K (.ok (.ref o g i off)) s
   | .CY cs=>K (.ok (.CY cs)) s
   | .fn f cs=>K (.ok (.fn f cs)) s
   |_=>False
 | .bin op t x y=>AfS op t (x.val env) (y.val env) fun v=>K (.ok v) s
 | .un op x=>match op,x.val env with
   | .not,.bool b=>J3 b (K (.ok (.bool false)) s) (K (.ok (.bool true)) s)
   | .neg,.int k n=>Ig k (0-n) fun v=>K (.ok v) s
   |_,_=>False
 | .conv k x=>match x.val env with
   | .int _ n=>Ig k n fun v=>K (.ok v) s
   |_=>False
 | .field off sz x=>match x.val env with
   | .agg cs=>J5 (loadCells (cs.drop off) sz) fun v=>done v s K
   |_=>False
 | .Qz off x=>match x.val env with
   | .CY cs=>K (.ok (.CY (cs.drop off))) s
   | .ref o g i off'=>K (.ok (.ref o g i (off'+off))) s
   |_=>False
 | .QA es x i=>match x.val env,i.val env with
   | .sl _ xs,.int _ i=>need (0≤i) (Ce xs i.toNat fun v=>need (v.cells.length=es) (K (.ok (.CY v.cells)) s))
   | .own o g off len,.int _ i=>match nth s.σ o with
     |some (.arr g' es' _ _ _)=>need (g=g'∧es=es'∧0≤i∧i<len) (AdJ off i.toNat fun j=>K (.ok (.ref o g j 0)) s)
     |_=>False
   |_,_=>False
 | .len k x=>match k,x.val env with
   | .slice,.sl _ xs=>eqK xs.length fun n=>K (.ok (.int .i64 n)) s
   | .slice,.own _ _ _ n=>K (.ok (.int .i64 n)) s
   | .str,.str bs=>K (.ok (.int .i64 bs.length)) s
   | .map,.map o g=>match nth s.σ o with
     |some (.mp g' _ ents)=>need (g=g') (K (.ok (.int .i64 ents.length)) s)
     |_=>False
   | .map,.fmap ents=>K (.ok (.int .i64 ents.length)) s
   |_,_=>Vo (.len k x) env s K
 | .ND=>Uj s (fun o g=>.map o g) (fun g=>.mp g true []) K
 | .lookup t z P8 m k=>match m.val env with
   | .map o g=>match nth s.σ o with
     |some (.mp g' _ ents)=>need (g=g'∧IJ t (k.val env)=true) (Aa1 t (k.val env) ents fun r=>match r with
      |some (_,v)=>bif P8 then K (.ok (.BL [v,.bool true])) s else done v s K
      |none=>bif P8 then K (.ok (.BL [z,.bool false])) s else done z s K)
     |_=>False
   | .fmap ents=>need (IJ t (k.val env)=true) (Aa1 t (k.val env) ents fun r=>match r with
        |some (_,v)=>bif P8 then K (.ok (.BL [v,.bool true])) s else done v s K
        |none=>bif P8 then K (.ok (.BL [z,.bool false])) s else done z s K)
   |_=>Vo (.lookup t z P8 m k) env s K
 | .mapset t m k v=>match m.val env with
   | .map o g=>match nth s.σ o with
     |some (.mp g' cl ents)=>(v.val env).force fun vv=>need (g=g'∧IJ t (k.val env)=true∧vv.storable=true)
       (AfT cl vv.closed fun cl'=>AhS t (k.val env) vv ents fun YF=>Qx s.σ o (.mp g' cl' YF) fun σ=>K (.ok .undef) ⟨σ,s.ctr⟩)
     |_=>False
   |_=>False
 | .delete t m k=>match m.val env with
   | .map o g=>match nth s.σ o with
     |some (.mp g' cl ents)=>need (g=g'∧IJ t (k.val env)=true) (Aa1 t (k.val env) ents fun r=>match r with
      |some (i,_)=>Qx s.σ o (.mp g' cl (ents.eraseIdx i)) fun σ=>K (.ok .undef) ⟨σ,s.ctr⟩
      |none=>K (.ok .undef) s)
     |_=>False
   |_=>False
 | .lit own es z len parts=>YE env parts fun ps=>need (QB es len ps 0=true) (FQ z len ps 0 fun xs=>
    bif own then Aa0 (HY ps) fun c=>Uj s (fun o g=>.own o g 0 len) (fun g=>.arr g es true c xs) K
    else bif Nat.beq len 0 then K (.ok .zc) s else need (HY ps=true) (K (.ok (.sl true xs)) s))
 | .Xn x i=>match x.val env,i.val env with
   | .str bs,.int _ i=>need (0≤i) (Ce bs i.toNat fun b=>K (.ok (.int .u8 b.toNat)) s)
   |_,_=>False
 | .slice es x lo hi=>match x.val env with
   | .sl nn xs=>P7 env xs.length lo hi fun l h=>need (Bg es xs) (eqK (sub xs l (h-l)) fun ys=>K (.ok (.sl nn ys)) s)
   | .own o g off len=>match nth s.σ o with
     |some (.arr g' es' _ _ _)=>need (g=g'∧es=es') (P7 env len lo hi fun l h=>AdJ off l fun j=>K (.ok (.own o g j (h-l))) s)
     |_=>False
   |_=>Vo (.slice es x lo hi) env s K
 | .Kv x lo hi=>match x.val env with
   | .str bs=>P7 env bs.length lo hi fun l h=>eqK ((bs.drop l).take (h-l)) fun r=>K (.ok (.str r)) s
   |_=>False
 | .append es bytes a x=>Xm es (x.val env) s fun ys c=>match a.val env with
   | .own o g 0 len=>match nth s.σ o with
     |some (.arr g' es' nn cl' elems)=>Lj g g' es es' len nn cl' c elems ys bytes fun n nn cl es'=>Qx s.σ o (.arr s.ctr es nn cl es') fun σ=>K (.ok (.own o s.ctr 0 n)) ⟨σ,s.ctr+1⟩
     |_=>False
   |v=>J5 (DV es bytes s v ys c) fun r=>done r.1 r.2 K
 | .H6 es bytes z len cap=>match len.val env,cap.val env with
   | .int _ l,.int _ c=>need (0≤l∧l≤c∧roomy bytes c.toNat) (eqK (List.replicate l.toNat z) fun xs=>Uj s (fun o g=>.own o g 0 l.toNat) (fun g=>.arr g es true z.closed xs) K)
   |_,_=>False
 | .ext x i=>match x.val env with
   | .BL cs=>J5 (nth cs i) fun v=>done v s K
   |_=>False
 | .call m f args=>AaZ AP m f (vals env args) s K
 | .GU m x args=>match x.val env with
   | .fn f caps=>AaZ AP m f (vals env args++caps) s K
   |_=>False
 |o=>Vo o env s K
theorem ZK (C:AB):EF AaY C:=fun _ _ _ _ h=>by cases h
theorem CU (v:AV) (s:Am) (K:AL→Am→Prop):done v s K↔K (.ok v) s:=Qw v _
theorem IK {o:Ci} {env:Env} {s:Am} {K:AL→Am→Prop} (h:Vo o env s K):Op1 AP o env s K:=by
 obtain⟨⟨out,s'⟩,h1,h2⟩:=h
 refine⟨0,out,s',Cb (ZK _) h1,?_⟩
 cases out with
 |ok v=>exact(CU v s' K).1 h2
 |Di v=>exact h2
theorem O7 {m:Mode} {f:Nat} {args:List AV} {s:Am} {K:AL→Am→Prop} (h:AaZ AP m f args s K):∃N out s',A8 (run AP N) m f args s=some (out,s')∧K out s':=by
 cases m with
 |pure=>
  obtain⟨hc,v,⟨N,hp⟩,hk⟩:=h
  exact⟨N,.ok v,s,by simp only[A8,if_pos hc,hp,Option.map_some],(CU v s K).1 hk⟩
 |borrow=>
  obtain⟨args',ha,v,⟨N,hp⟩,hs,hk⟩:=Hz h
  exact⟨N,.ok v,s,by simp only[A8,ha,hp,if_pos hs],(CU v s K).1 hk⟩
 |share=>
  obtain⟨N,out,s',hr,hk⟩:=h
  cases out with
  |ok r=>
   obtain⟨⟨r',s''⟩,h1,h2⟩:=hk
   exact⟨N,.ok r',s'',by simp only[A8,hr,h1,Option.map_some],(CU r' s'' K).1 h2⟩
  |Di v=>
   obtain⟨h1,h2⟩:=hk
   exact⟨N,.Di v,_,by simp only[A8,hr,if_pos h1],h2⟩
 |own=>
  obtain⟨N,r,s',h1,h2⟩:=h
  exact⟨N,.ok r,s',h1,(CU r s' K).1 h2⟩
 |keep=>
  obtain⟨N,out,s',hr,hk⟩:=h
  cases out with
  |ok r=>exact⟨N,.ok r,s',hr,(CU r s' K).1 hk⟩
  |Di v=>exact⟨N,.Di v,s',hr,hk⟩
theorem GY {s:Am} {mk:Nat→Nat→AV} {ob:Nat→Obj} {K:AL→Am→Prop}:Uj s mk ob K↔K (.ok (mk s.σ.length s.ctr)) (push s (ob s.ctr)):=OB _ _ _
theorem Gm {o:Ci} {env:Env} {s:Am} {K:AL→Am→Prop} (h:Js AP o env s K):Op1 AP o env s K:=by
 cases o
 case mov x=>exact⟨0,_,_,rfl,(CU _ _ _).1 h⟩
 case I7 es=>simp only[Js]at h;exact⟨0,_,_,rfl,GY.1 h⟩
 case Jy off e2 es cs=>
  simp only[Js]at h
  split at h
  case h_2=>cases h
  rename_i hoff
  obtain⟨he,h⟩:=h
  have h:=GY.1 h
  have h:=GY.1 h
  refine⟨0,_,_,?_,h⟩
  simp only[Ai,hoff,if_pos he]
  simp[push]
 case pick c a b=>
  simp only[Js]at h
  split at h
  ·rename_i c' hc
   cases c'
   ·exact⟨0,_,_,by simp only[Ai,hc],(CU _ _ _).1 h⟩
   ·exact⟨0,_,_,by simp only[Ai,hc],(CU _ _ _).1 h⟩
  ·cases h
 case alloc es z=>simp only[Js]at h;exact⟨0,_,_,rfl,GY.1 h⟩
 case box es x=>
  simp only[Js,force_eq]at h
  obtain⟨h1,h2⟩:=h
  exact⟨0,_,_,by simp only[Ai,if_pos h1],GY.1 h2⟩
 case build z ps=>
  obtain⟨cs,h1,h2⟩:=h
  exact⟨0,_,_,by simp only[Ai,h1,Option.map_some],h2⟩
 case load sz a=>
  simp only[Js]at h
  split at h
  ·rename_i cs hv
   obtain⟨v,h1,h2⟩:=h
   exact⟨0,_,_,by simp only[Ai,hv,ok,h1,Option.map_some],(CU _ _ _).1 h2⟩
  ·rename_i o g i off hv
   split at h
   ·rename_i g' es nn cl elems ho
    obtain⟨hg,x,hx,v,h1,h2⟩:=h
    exact⟨0,_,_,by simp only[Ai,hv,ho,if_pos hg,hx,ok,h1,Option.map_some],(CU _ _ _).1 h2⟩
   ·cases h
  ·cases h
 case store sz a x=>
  simp only[Js]at h
  split at h
  ·rename_i o g i off hv
   split at h
   ·rename_i g' es nn cl elems ho
    obtain⟨hg,y,hy,h⟩:=h
    rw[force_eq]at h
    obtain⟨h1,h2⟩:=h
    rw[Vq]at h2
    obtain⟨es',rfl,h2⟩:=h2
    rw[Fp]at h2
    exact⟨0,_,_,by simp only[Ai,hv,ho,if_pos hg,hy,h1,if_true],h2⟩
   ·cases h
  ·cases h
 case OD x=>
  simp only[Js]at h
  split at h
  ·rename_i hv;exact⟨0,_,_,by simp only[Ai,hv],h⟩
  ·rename_i hv;exact⟨0,_,_,by simp only[Ai,hv],h⟩
  ·rename_i hv;exact⟨0,_,_,by simp only[Ai,hv],h⟩
  ·cases h
 case bin op t x y=>
  obtain⟨v,h1,h2⟩:=Xk h
  exact⟨0,_,_,by simp only[Ai,ok,h1,Option.map_some],h2⟩
 case un op x=>
  simp only[Js]at h
  split at h
  ·rename_i b hv
   cases b
   ·exact⟨0,_,_,by simp only[Ai,hv,Bool.not_false],h⟩
   ·exact⟨0,_,_,by simp only[Ai,hv,Bool.not_true],h⟩
  ·rename_i k n hv
   obtain⟨y,h1,h2⟩:=h
   exact⟨0,_,_,by simp only[Ai,hv,h1],h2⟩
  ·cases h
 case conv k x=>
  simp only[Js]at h
  split at h
  ·rename_i k' n hv
   obtain⟨y,h1,h2⟩:=h
   exact⟨0,_,_,by simp only[Ai,hv,h1],h2⟩
  ·cases h
 case field off sz x=>
  simp only[Js]at h
  split at h
  ·rename_i cs hv
   obtain⟨v,h1,h2⟩:=h
   exact⟨0,_,_,by simp only[Ai,hv,ok,h1,Option.map_some],(CU _ _ _).1 h2⟩
  ·cases h
 case Qz off x=>
  simp only[Js]at h
  split at h
  ·rename_i hv;exact⟨0,_,_,by simp only[Ai,hv],h⟩
  ·rename_i hv;exact⟨0,_,_,by simp only[Ai,hv],h⟩
  ·cases h
 case QA es x i=>
  simp only[Js]at h
  split at h
  ·rename_i nn xs k n hx hi
   obtain⟨h0,v,h1,h2,h3⟩:=h
   exact⟨0,_,_,by simp only[Ai,hx,hi,if_pos h0,h1,if_pos h2],h3⟩
  ·rename_i o g off len k n hx hi
   split at h
   ·rename_i g' es' nn cl elems ho
    obtain⟨h1,h2⟩:=h
    rw[Vr]at h2
    exact⟨0,_,_,by simp only[Ai,hx,hi,ho,if_pos h1],h2⟩
   ·cases h
  ·cases h
 case len k x=>
  simp only[Js]at h
  split at h
  ·rename_i hv
   obtain⟨n,rfl,h⟩:=h
   exact⟨0,_,_,by simp only[Ai,hv],h⟩
  ·rename_i hv;exact⟨0,_,_,by simp only[Ai,hv],h⟩
  ·rename_i hv;exact⟨0,_,_,by simp only[Ai,hv],h⟩
  ·rename_i o g hv
   split at h
   ·rename_i g' cl ents ho
    obtain⟨h1,h2⟩:=h
    exact⟨0,_,_,by simp only[Ai,hv,ho,if_pos h1],h2⟩
   ·cases h
  ·rename_i hv;exact⟨0,_,_,by simp only[Ai,hv],h⟩
  ·exact IK h
 case Xn x i=>
  simp only[Js]at h
  split at h
  ·rename_i bs k n hx hi
   obtain⟨h1,b,h2,h3⟩:=h
   exact⟨0,_,_,by simp only[Ai,hx,hi,if_pos h1,h2],h3⟩
  ·cases h
 case slice es x lo hi=>
  simp only[Js]at h
  split at h
  ·rename_i nn xs hx
   obtain⟨l,u,h1,h2,ys,rfl,h3⟩:=I5 h
   exact⟨0,_,_,by simp only[Ai,hx,h1,if_pos h2],h3⟩
  ·rename_i o g off len hx
   split at h
   ·rename_i g' es' nn cl elems ho
    obtain⟨hg,h⟩:=h
    obtain⟨l,u,h1,h2⟩:=I5 h
    rw[Vr]at h2
    exact⟨0,_,_,by simp only[Ai,hx,ho,if_pos hg,h1],h2⟩
   ·cases h
  ·exact IK h
 case Kv x lo hi=>
  simp only[Js]at h
  split at h
  ·rename_i bs hx
   obtain⟨l,u,h1,r,rfl,h2⟩:=I5 h
   exact⟨0,_,_,by simp only[Ai,hx,h1],h2⟩
  ·cases h
 case ND=>simp only[Js]at h;exact⟨0,_,_,rfl,GY.1 h⟩
 case lookup t z P8 m k=>
  simp only[Js]at h
  split at h
  ·rename_i o g hv
   split at h
   ·rename_i g' cl ents ho
    obtain⟨h1,r,h2,h3⟩:=h
    cases r with
    |none=>
     cases P8
     ·exact⟨0,_,_,by simp only[Ai,hv,ho,if_pos h1,h2];rfl,(CU _ _ _).1 h3⟩
     ·exact⟨0,_,_,by simp only[Ai,hv,ho,if_pos h1,h2];rfl,h3⟩
    |some p=>
     cases P8
     ·exact⟨0,_,_,by simp only[Ai,hv,ho,if_pos h1,h2];rfl,(CU _ _ _).1 h3⟩
     ·exact⟨0,_,_,by simp only[Ai,hv,ho,if_pos h1,h2];rfl,h3⟩
   ·cases h
  ·rename_i ents hv
   obtain⟨h1,r,h2,h3⟩:=h
   cases r with
   |none=>
    cases P8
    ·exact⟨0,_,_,by simp only[Ai,hv,if_pos h1,h2];rfl,(CU _ _ _).1 h3⟩
    ·exact⟨0,_,_,by simp only[Ai,hv,if_pos h1,h2];rfl,h3⟩
   |some p=>
    cases P8
    ·exact⟨0,_,_,by simp only[Ai,hv,if_pos h1,h2];rfl,(CU _ _ _).1 h3⟩
    ·exact⟨0,_,_,by simp only[Ai,hv,if_pos h1,h2];rfl,h3⟩
  ·exact IK h
 case mapset t m k v=>
  simp only[Js]at h
  split at h
  ·rename_i o g hv
   split at h
   ·rename_i g' cl ents ho
    rw[force_eq]at h
    obtain⟨h1,h2⟩:=h
    rw[Vq]at h2
    obtain⟨r,h2,h3⟩:=h2
    rw[Fp]at h3
    cases r with
    |none=>exact⟨0,_,_,by simp only[Ai,hv,ho,if_pos h1,h2];rfl,h3⟩
    |some p=>exact⟨0,_,_,by simp only[Ai,hv,ho,if_pos h1,h2];rfl,h3⟩
   ·cases h
  ·cases h
 case delete t m k=>
  simp only[Js]at h
  split at h
  ·rename_i o g hv
   split at h
   ·rename_i g' cl ents ho
    obtain⟨h1,r,h2,h3⟩:=h
    cases r with
    |none=>exact⟨0,_,_,by simp only[Ai,hv,ho,if_pos h1,h2],h3⟩
    |some p=>
     simp only at h3
     rw[Fp]at h3
     exact⟨0,_,_,by simp only[Ai,hv,ho,if_pos h1,h2],h3⟩
   ·cases h
  ·cases h
 case lit own es z len parts=>
  simp only[Js,SG]at h
  obtain⟨h1,h2⟩:=h
  rw[Gz]at h2
  cases own
  ·rw[cond_false]at h2
   cases hb:Nat.beq len 0
   ·rw[hb,cond_false]at h2
    have hne:len≠0:=fun e=>by subst e;simp at hb
    exact⟨0,_,_,by simp only[Ai,if_pos h1,if_neg hne,if_pos h2.1];rfl,h2.2⟩
   ·rw[hb,cond_true]at h2
    have he:len=0:=Nat.eq_of_beq_eq_true hb
    exact⟨0,_,_,by simp only[Ai,if_pos h1,if_pos he];rfl,h2⟩
  ·rw[cond_true,Dh]at h2
   exact⟨0,_,_,by simp only[Ai,if_pos h1,if_true],GY.1 h2⟩
 case append es bytes a x=>
  simp only[Js]at h
  obtain⟨ys,cl,h1,h⟩:=Uk h
  split at h
  ·rename_i o g len hv
   split at h
   ·rename_i g' es' nn cl' elems ho
    obtain⟨h2,h3⟩:=h
    rw[Fp]at h3
    exact⟨0,_,_,by simp only[Ai,h1,hv,DV,ho,if_pos h2,Option.map_some],h3⟩
   ·cases h
  ·obtain⟨⟨v,s'⟩,h2,h3⟩:=h
   exact⟨0,_,_,by simp only[Ai,h1,h2,Option.map_some],(CU _ _ _).1 h3⟩
 case H6 es bytes z len cap=>
  simp only[Js]at h
  split at h
  ·rename_i k l k' c hl hc
   obtain⟨h1,xs,rfl,h2⟩:=h
   exact⟨0,_,_,by simp only[Ai,hl,hc,if_pos h1],GY.1 h2⟩
  ·cases h
 case ext x i=>
  simp only[Js]at h
  split at h
  ·rename_i cs hv
   obtain⟨v,h1,h2⟩:=h
   exact⟨0,_,_,by simp only[Ai,hv,ok,h1,Option.map_some],(CU _ _ _).1 h2⟩
  ·cases h
 case call m f args=>exact O7 h
 case GU m x args=>
  simp only[Js]at h
  split at h
  ·rename_i f caps hv
   obtain⟨N,out,s',h1,h2⟩:=O7 h
   exact⟨N,out,s',by simp only[Ai,hv];exact h1,h2⟩
  ·cases h
 all_goals exact IK h
end AI
end Go.Proofs.YtceiccjppfapjaaGreatDoor
namespace Go.Proofs.YtceiccjppfapjaaGreatDoor
namespace AI
open Go.RowKit
variable {AP:Nat→Option G9}
def FC (g:Option (Nat×Bool)) (env:Env) (t e:Prop):Prop:=match g with
 |none=>t
 |some (r,b)=>match env.get r with
  | .bool b'=>J3 (b'==b) t e
  | .undef=>e
  |_=>False
def Aa2 (k:Env→Am→Prop) (d:Option Nat) (env:Env) (Q:AU→Env→Am→Prop) (out:AL) (s:Am):Prop:=match out with
 | .ok v=>k (put d v env) s
 | .Di v=>Q (.Di v) env s
def Vs (AP:Nat→Option G9) (ops:List AQ):Env→Am→(AU→Env→Am→Prop)→Prop:=
 List.rec (motive:=fun _=>Env→Am→(AU→Env→Am→Prop)→Prop) (fun env s Q=>Q .normal env s)
    (fun o _ ih env s Q=>FC o.guard env (Js AP o.op env s (Aa2 (fun env s=>ih env s Q) o.dst env Q)) (ih (put o.dst .undef env) s Q)) ops
theorem ZL (o:AQ) (os:List AQ) (env:Env) (s:Am) (Q:AU→Env→Am→Prop):Vs AP (o::os) env s Q=FC o.guard env
 (Js AP o.op env s (Aa2 (fun env s=>Vs AP os env s Q) o.dst env Q))
 (Vs AP os (put o.dst .undef env) s Q):=rfl
theorem JA:∀{os:List AQ} {env:Env} {s:Am} {Q:AU→Env→Am→Prop},Vs AP os env s Q→Ops AP os env s Q
 |[],env,s,Q,h=>⟨0,_,_,_,rfl,h⟩
 |o::os,env,s,Q,h=>by
  have Kw:wanted o.guard env=some false→Vs AP os (put o.dst .undef env) s Q→Ops AP (o::os) env s Q:=by
   intro hw h
   obtain⟨N,e,env',s',h1,h2⟩:=JA h
   exact⟨N,e,env',s',by simp only[Ej,hw];exact h1,h2⟩
  have hdo:wanted o.guard env=some true→Js AP o.op env s (Aa2 (fun env s=>Vs AP os env s Q) o.dst env Q)→Ops AP (o::os) env s Q:=by
   intro hw h
   obtain⟨N,out,s1,h1,h2⟩:=Gm h
   cases out with
   |ok v=>
    obtain⟨N',e,env',s',h3,h4⟩:=JA h2
    refine⟨max N N',e,env',s',?_,h4⟩
    simp only[Ej,hw,Cb (Bl (Nat.le_max_left N N')) h1]
    exact EG (Bl (Nat.le_max_right N N')) h3
   |Di v=>exact⟨N,_,_,_,by simp only[Ej,hw,h1],h2⟩
  rw[ZL]at h
  unfold FC at h
  split at h
  ·rename_i hg
   exact hdo (by rw[hg];rfl) h
  ·rename_i r b hg
   split at h
   ·rename_i b' hb
    cases hbb:(b'==b)
    ·rw[hbb]at h
     exact Kw (by rw[hg];simp only[wanted,hb,hbb]) h
    ·rw[hbb]at h
     exact hdo (by rw[hg];simp only[wanted,hb,hbb]) h
   ·rename_i hb
    exact Kw (by rw[hg];simp only[wanted,hb]) h
   ·cases h
def JB:List Nat→Env→(Env→Prop)→Prop
 |[],_,K=>K []
 |t::ts,env,K=>(env.get t).force fun v=>JB ts env fun e=>K ((t,v)::e)
theorem EH:∀(ts:List Nat) (env:Env) (K:Env→Prop),JB ts env K↔K (commit env ts)
 |[],_,_=>Iff.rfl
 |t::ts,env,K=>by
  simp only[JB,force_eq,commit]
  exact EH ts env _
def RZ:List Nat→Env→Am→(Env→Am→Prop)→Prop
 |[],env,s,K=>K env s
 |t::ts,env,s,K=>match env.get t with
  | .own o g off len=>match nth s.σ o with
    |some (.arr g' _ nn cl elems)=>need (g=g'∧cl=true∧off+len≤elems.length) (eqK (sub elems off len) fun xs=>Qx s.σ o .dead fun σ=>RZ ts ((t,.sl nn xs)::env) ⟨σ,s.ctr⟩ K)
    |_=>False
  | .ref o g i off=>match nth s.σ o with
    |some (.arr g' _ nn cl elems)=>need (g=g'∧cl=true) (Ce elems i fun x=>Qx s.σ o .dead fun σ=>RZ ts ((t,.CY (x.cells.drop off))::env) ⟨σ,s.ctr⟩ K)
    |_=>False
  | .map o g=>match nth s.σ o with
    |some (.mp g' cl ents)=>need (g=g'∧cl=true∧Vt ents=true) (Qx s.σ o .dead fun σ=>RZ ts ((t,.fmap ents)::env) ⟨σ,s.ctr⟩ K)
    |_=>False
  | .sl nn xs=>RZ ts ((t,.sl nn xs)::env) s K
  | .zc=>RZ ts ((t,.zc)::env) s K
  |_=>False
theorem EI:∀{ts:List Nat} {env:Env} {s:Am} {K:Env→Am→Prop},RZ ts env s K→∃env' s',GZ ts env s=some (env',s')∧K env' s'
 |[],env,s,K,h=>⟨env,s,rfl,h⟩
 |t::ts,env,s,K,h=>by
  simp only[RZ]at h
  split at h
  ·rename_i o g off len hv
   split at h
   ·rename_i g' es nn cl elems ho
    obtain⟨⟨rfl,rfl,hf⟩,xs,rfl,h⟩:=h
    rw[Fp]at h
    obtain⟨env',s',h1,h2⟩:=EI h
    exact⟨env',s',by simp only[GZ,hv,ho,true_and,if_pos hf];exact h1,h2⟩
   ·cases h
  ·rename_i o g i off hv
   split at h
   ·rename_i g' es nn cl elems ho
    obtain⟨⟨rfl,rfl⟩,⟨x,hx,h⟩⟩:=h
    rw[Fp]at h
    obtain⟨env',s',h1,h2⟩:=EI h
    exact⟨env',s',by simp only[GZ,hv,ho,if_pos,hx];exact h1,h2⟩
   ·cases h
  ·rename_i o g hv
   split at h
   ·rename_i g' cl ents ho
    obtain⟨⟨rfl,rfl,hk⟩,h⟩:=h
    rw[Fp]at h
    obtain⟨env',s',h1,h2⟩:=EI h
    exact⟨env',s',by simp only[GZ,hv,ho,true_and,if_pos hk];exact h1,h2⟩
   ·cases h
  ·rename_i nn xs hv
   obtain⟨env',s',h1,h2⟩:=EI h
   exact⟨env',s',by simp only[GZ,hv];exact h1,h2⟩
  ·rename_i hv
   obtain⟨env',s',h1,h2⟩:=EI h
   exact⟨env',s',by simp only[GZ,hv];exact h1,h2⟩
  ·cases h
def SH {α:Type}:Nat→List α→(List α→Prop)→Prop
 |0,_,K=>K []
 |_+1,[],K=>K []
 |n+1,x::xs,K=>SH n xs fun ys=>K (x::ys)
theorem OE {α:Type}:∀(n:Nat) (l:List α) (K:List α→Prop),SH n l K↔K (l.take n)
 |0,_,_=>by simp[SH]
 |_+1,[],_=>by simp[SH]
 |n+1,x::xs,K=>OE n xs fun ys=>K (x::ys)
def Aa3 (tr:Option Nat) (s:Am) (K:Am→Prop):Prop:=match tr with
 |none=>K s
 |some k=>SH (kept k s.σ.length) s.σ fun σ=>K ⟨σ,s.ctr⟩
theorem MF (tr:Option Nat) (s:Am) (K:Am→Prop):Aa3 tr s K↔K (truncate tr s):=by
 cases tr with
 |none=>exact Iff.rfl
 |some k=>exact OE _ s.σ _
def Aa4 (live:List Nat) (tr:Option Nat) (Q:AU→Env→Am→Prop) (e:AU) (env:Env) (s:Am):Prop:=match e with
 | .normal=>JB live env fun env=>Aa3 tr s fun s=>Q .normal env s
 |e=>Q e env s
def Si (k:Env→Am→Prop) (Q:AU→Env→Am→Prop) (e:AU) (env:Env) (s:Am):Prop:=match e with
 | .normal=>k env s
 |e=>Q e env s
def AdK (id:Nat) (Q:AU→Env→Am→Prop) (e:AU) (env:Env) (s:Am):Prop:=match e with
 | .exit j=>J3 (Nat.beq j id) (Q .normal env s) (Q (.exit j) env s)
 |e=>Q e env s
def Um (AP:Nat→Option G9) (o:Ci) (r g:Nat) (env:Env) (s:Am) (K:AV→Option (Nat×Obj)→Nat→Prop):Prop:=
 Js AP o env s fun out s'=>match out with
    | .Di _=>False
    | .ok v=>match o.cls with
      |some .e=>K v none 0
      |some .r=>K v none 0
      |some .w=>match o.writes r env with
       |[t]=>match nth s'.σ t with
        |some ob=>K v (some (t,ob)) 0
        |none=>False
       |_=>False
      |some .a=>match nth s'.σ v.idx with
       |some ob=>bif Nat.blt v.idx s.σ.length then K (v.moved v.idx g) (some (v.idx,ob.O8 g)) 1
        else match nth s.σ r with
           |some .dead=>K (v.moved r g) (some (r,ob.O8 g)) 1
           |_=>False
       |none=>False
      |none=>False
theorem Un {o:Ci} {r g:Nat} {env:Env} {s:Am} {K:AV→Option (Nat×Obj)→Nat→Prop} (h:Um AP o r g env s K):∃N v u b,Ij (run AP N) o r g env s=some (v,u,b)∧K v u b:=by
 obtain⟨N,out,s',h1,h2⟩:=Gm h
 cases out with
 |Di v=>cases h2
 |ok v=>
  simp only at h2
  split at h2
  ·rename_i hc;exact⟨N,_,_,_,by simp only[Ij,hc,h1],h2⟩
  ·rename_i hc;exact⟨N,_,_,_,by simp only[Ij,hc,h1],h2⟩
  ·rename_i hc
   split at h2
   ·rename_i t ht
    split at h2
    ·rename_i ob hob;exact⟨N,_,_,_,by simp only[Ij,hc,h1,ht,hob],h2⟩
    ·cases h2
   ·cases h2
  ·rename_i hc
   split at h2
   ·rename_i ob hob
    cases hb:Nat.blt v.idx s.σ.length
    ·rw[hb,cond_false]at h2
     have hlt:¬v.idx<s.σ.length:=fun hlt=>by
      have:=(show (Nat.blt v.idx s.σ.length=true) from Nat.blt_eq▸hlt)
      rw[hb]at this;cases this
     split at h2
     ·rename_i hd
      exact⟨N,_,_,_,by simp only[Ij,hc,h1,hob,if_neg hlt,hd],h2⟩
     ·cases h2
    ·rw[hb,cond_true]at h2
     exact⟨N,_,_,_,by simp only[Ij,hc,h1,hob,if_pos (show v.idx<s.σ.length from Nat.blt_eq▸hb)],h2⟩
   ·cases h2
  ·cases h2
def Ll (u:Option (Nat×Obj)) (b:Nat) (s:Am) (K:Am→Prop):Prop:=match u with
 |some (t,ob)=>Qx s.σ t ob fun σ=>K ⟨σ,s.ctr+b⟩
 |none=>K ⟨s.σ,s.ctr+b⟩
theorem O9 (u:Option (Nat×Obj)) (b:Nat) (s:Am) (K:Am→Prop):Ll u b s K↔K (EJ u b s):=by
 unfold Ll EJ
 split
 ·exact Fp _ _ _ _
 ·exact Iff.rfl
def Xo (AP:Nat→Option G9) (ops:List AQ):Nat→Nat→Env→Am→(List Eff→Prop)→Prop:=
 List.rec (motive:=fun _=>Nat→Nat→Env→Am→(List Eff→Prop)→Prop) (fun _ _ _ _ K=>K [])
    (fun o _ ih r g env s K=>FC o.guard env
      (Um AP o.op r g env s fun v u b=>Ll u b s fun s'=>ih (r+rank o.op) (g+1) (put o.dst v env) s' fun es=>K (⟨o.dst,v,o.op.reads r env,o.op.writes r env,u,b⟩::es))
      (ih (r+rank o.op) (g+1) (put o.dst .undef env) s fun es=>K (⟨o.dst,.undef,[],[],none,0⟩::es))) ops
theorem ZM (o:AQ) (os:List AQ) (r g:Nat) (env:Env) (s:Am) (K:List Eff→Prop):Xo AP (o::os) r g env s K=FC o.guard env
 (Um AP o.op r g env s fun v u b=>Ll u b s fun s'=>Xo AP os (r+rank o.op) (g+1) (put o.dst v env) s' fun es=>K (⟨o.dst,v,o.op.reads r env,o.op.writes r env,u,b⟩::es))
 (Xo AP os (r+rank o.op) (g+1) (put o.dst .undef env) s fun es=>K (⟨o.dst,.undef,[],[],none,0⟩::es)):=rfl
theorem MG:∀{os:List AQ} {r g:Nat} {env:Env} {s:Am} {K:List Eff→Prop},Xo AP os r g env s K→∃N es,Hq (run AP N) os r g env s=some es∧K es
 |[],r,g,env,s,K,h=>⟨0,_,rfl,h⟩
 |o::os,r,g,env,s,K,h=>by
  have Kw:wanted o.guard env=some false→(Xo AP os (r+rank o.op) (g+1) (put o.dst .undef env) s fun es=>K (⟨o.dst,.undef,[],[],none,0⟩::es))→∃N es,Hq (run AP N) (o::os) r g env s=some es∧K es:=by
   intro hw h
   obtain⟨N,es,h1,h2⟩:=MG h
   exact⟨N,_,by simp only[Hq,hw,h1],h2⟩
  have hdo:wanted o.guard env=some true→(Um AP o.op r g env s fun v u b=>Ll u b s fun s'=>Xo AP os (r+rank o.op) (g+1) (put o.dst v env) s' fun es=>K (⟨o.dst,v,o.op.reads r env,o.op.writes r env,u,b⟩::es))→∃N es,Hq (run AP N) (o::os) r g env s=some es∧K es:=by
   intro hw h
   obtain⟨N,v,u,b,h1,h2⟩:=Un h
   rw[O9]at h2
   obtain⟨N',es,h3,h4⟩:=MG h2
   refine⟨max N N',_,?_,h4⟩
   simp only[Hq,hw,QC (Bl (Nat.le_max_left N N')) h1,Ik (Bl (AP:=AP) (Nat.le_max_right N N')) h3]
  rw[ZM]at h
  unfold FC at h
  split at h
  ·rename_i hg
   exact hdo (by rw[hg];rfl) h
  ·rename_i r' b hg
   split at h
   ·rename_i b' hb
    cases hbb:(b'==b)
    ·rw[hbb]at h
     exact Kw (by rw[hg];simp only[wanted,hb,hbb]) h
    ·rw[hbb]at h
     exact hdo (by rw[hg];simp only[wanted,hb,hbb]) h
   ·rename_i hb
    exact Kw (by rw[hg];simp only[wanted,hb]) h
   ·cases h
def Aa5 {α:Type}:List α→List α→(List α→Prop)→Prop
 |[],ys,K=>K ys
 |x::xs,ys,K=>Aa5 xs ys fun r=>K (x::r)
theorem SI {α:Type}:∀(xs ys:List α) (K:List α→Prop),Aa5 xs ys K↔K (xs++ys)
 |[],_,_=>Iff.rfl
 |x::xs,ys,K=>SI xs ys _
def P9:List Eff→Am→(Am→Prop)→Prop
 |[],s,K=>K s
 |e::es,s,K=>Ll e.upd e.bump s fun s=>P9 es s K
theorem Pg:∀(es:List Eff) (s:Am) (K:Am→Prop),P9 es s K↔K (Ky es s)
 |[],_,_=>Iff.rfl
 |e::es,s,K=>by rw[P9,O9,Ky];exact Pg es _ K
def AfV (n:Nat) (σ:List Obj) (K:List Obj→Prop):Prop:=match n with
 |0=>K σ
 |n+1=>Aa5 σ (List.replicate (n+1) .dead) K
theorem Aa6 (n:Nat) (σ:List Obj) (K:List Obj→Prop):AfV n σ K↔K (σ++List.replicate n .dead):=by
 cases n with
 |zero=>simp[AfV]
 |succ n=>exact SI _ _ _
def Vu {α:Type}:Nat→List α→(List α→Prop)→Prop
 |0,xs,K=>K xs
 |_+1,[],K=>K []
 |n+1,_::xs,K=>Vu n xs K
theorem SL {α:Type}:∀(n:Nat) (l:List α) (K:List α→Prop),Vu n l K↔K (l.drop n)
 |0,_,_=>by simp[Vu]
 |_+1,[],_=>by simp[Vu]
 |n+1,_::xs,K=>SL n xs K
def Aa7 (AP:Nat→Option G9) (m:Nat) (un:List (Nat×Nat)) (ops:List AQ) (env:Env) (s:Am) (K:Env→Am→Prop):Prop:=
 SH m ops fun hd=>AfV (ranks hd) s.σ fun σ=>Xo AP hd s.σ.length s.ctr env ⟨σ,s.ctr+m⟩ fun es=>
    need (Jc es un=true) (P9 es ⟨σ,s.ctr+m⟩ fun s1=>K (MH es env) s1)
theorem Vw {m:Nat} {un:List (Nat×Nat)} {ops:List AQ} {env:Env} {s:Am} {K:Env→Am→Prop} (h:Aa7 AP m un ops env s K):∃N CW s1,Kz (run AP N) m un ops env s=some (CW,s1)∧K CW s1:=by
 unfold Aa7 at h
 rw[OE,Aa6]at h
 obtain⟨N,es,h1,h2,h3⟩:=MG h
 rw[Pg]at h3
 exact⟨N,_,_,by simp only[Kz,h1,if_pos h2],h3⟩
def Aa8 (AP:Nat→Option G9) (op:Ci) (env:Env) (v:AV):List Am→Prop→Prop
 |[],T=>T
 |S::r,T=>Js AP op env S fun out _=>match out with
  | .ok u=>need (GH u v=true) (Aa8 AP op env v r T)
  | .Di _=>False
def Aa9 (AP:Nat→Option G9) (S:Am):List (Ci×Env×AV)→Prop→Prop
 |[],T=>T
 |(op,env,v)::r,T=>Js AP op env S fun out _=>match out with
  | .ok u=>need (GH u v=true) (Aa9 AP S r T)
  | .Di _=>False
theorem Ph {op:Ci} {env:Env} {v:AV}:∀{past:List Am} {T:Prop},Aa8 AP op env v past T→(∃ N,JC (run AP N) op env v past=true)∧T
 |[],T,h=>⟨⟨0,rfl⟩,h⟩
 |S::r,T,h=>by
  obtain⟨N,out,s',h1,h2⟩:=Gm h
  cases out with
  |Di u=>exact h2.elim
  |ok u=>
   obtain⟨h3,h4⟩:=h2
   obtain⟨⟨N',h5⟩,h6⟩:=Ph h4
   refine⟨⟨max N N',?_⟩,h6⟩
   simp only[JC,Cb (Bl (Nat.le_max_left N N')) h1,h3,IL (Bl (Nat.le_max_right N N')) h5,Bool.and_self]
theorem Pj {S:Am}:∀{pend:List (Ci×Env×AV)} {T:Prop},Aa9 AP S pend T→(∃ N,JD (run AP N) S pend=true)∧T
 |[],T,h=>⟨⟨0,rfl⟩,h⟩
 |(op,env,v)::r,T,h=>by
  obtain⟨N,out,s',h1,h2⟩:=Gm h
  cases out with
  |Di u=>exact h2.elim
  |ok u=>
   obtain⟨h3,h4⟩:=h2
   obtain⟨⟨N',h5⟩,h6⟩:=Pj h4
   refine⟨⟨max N N',?_⟩,h6⟩
   simp only[JD,Cb (Bl (Nat.le_max_left N N')) h1,h3,IQ (Bl (Nat.le_max_right N N')) h5,Bool.and_self]
def KA (AP:Nat→Option G9) (E:List Nat) (ops:List AQ):Nat→Env→Am→Prop→Prop:=
 List.rec (motive:=fun _=>Nat→Env→Am→Prop→Prop) (fun _ _ _ T=>T)
    (fun o _ ih i env s T=>bif DC i E then FC o.guard env
      (Js AP o.op env s fun out _=>match out with
        | .ok v=>bif flt o then ih (i+1) (put o.dst v env) s T else False
        | .Di _=>False)
      (ih (i+1) (put o.dst .undef env) s T)
      else ih (i+1) env s T) ops
theorem Vx (E:List Nat) (o:AQ) (os:List AQ) (i:Nat) (env:Env) (s:Am) (T:Prop):KA AP E (o::os) i env s T=bif DC i E then FC o.guard env
        (Js AP o.op env s fun out _=>match out with
          | .ok v=>bif flt o then KA AP E os (i+1) (put o.dst v env) s T else False
          | .Di _=>False)
        (KA AP E os (i+1) (put o.dst .undef env) s T)
 else KA AP E os (i+1) env s T:=rfl
theorem H7 {E:List Nat}:∀{os:List AQ} {i:Nat} {env:Env} {s:Am} {T:Prop},KA AP E os i env s T→(∃ N,Ee (run AP N) E os i env s=true)∧T
 |[],i,env,s,T,h=>⟨⟨0,rfl⟩,h⟩
 |o::os,i,env,s,T,h=>by
  rw[Vx]at h
  cases hm:DC i E with
  |false=>
   rw[hm,cond_false]at h
   obtain⟨⟨N,h1⟩,h2⟩:=H7 h
   exact⟨⟨N,by simp only[Ee,hm,Bool.false_eq_true,if_false];exact h1⟩,h2⟩
  |true=>
   rw[hm,cond_true]at h
   have Kw:wanted o.guard env=some false→KA AP E os (i+1) (put o.dst .undef env) s T→(∃ N,Ee (run AP N) E (o::os) i env s=true)∧T:=by
        intro hw h
        obtain⟨⟨N,h1⟩,h2⟩:=H7 h
        exact⟨⟨N,by simp only[Ee,hm,if_true,hw];exact h1⟩,h2⟩
   have hdo:wanted o.guard env=some true→(Js AP o.op env s fun out _=>match out with
    | .ok v=>bif flt o then KA AP E os (i+1) (put o.dst v env) s T else False
    | .Di _=>False)→(∃ N,Ee (run AP N) E (o::os) i env s=true)∧T:=by
        intro hw h
        obtain⟨N,out,s1,h1,h2⟩:=Gm h
        cases out with
        |Di v=>exact h2.elim
        |ok v=>
         dsimp only at h2
         cases hf:flt o with
         |false=>rw[hf]at h2;exact h2.elim
         |true=>
          rw[hf,cond_true]at h2
          obtain⟨⟨N',h3⟩,h4⟩:=H7 h2
          refine⟨⟨max N N',?_⟩,h4⟩
          simp only[Ee,hm,if_true,hw,Cb (Bl (AP:=AP) (Nat.le_max_left N N')) h1,hf,Fa (Bl (AP:=AP) (Nat.le_max_right N N')) h3,Bool.and_self]
   unfold FC at h
   split at h
   ·rename_i hg
    exact hdo (by rw[hg];rfl) h
   ·rename_i r b hg
    split at h
    ·rename_i b' hb
     cases hbb:(b'==b)
     ·rw[hbb]at h
      exact Kw (by rw[hg];simp only[wanted,hb,hbb]) h
     ·rw[hbb]at h
      exact hdo (by rw[hg];simp only[wanted,hb,hbb]) h
    ·rename_i hb
     exact Kw (by rw[hg];simp only[wanted,hb]) h
    ·cases h
def Vy (AP:Nat→Option G9) (m:Nat) (W pc:List Nat) (o:AQ) (os:List AQ) (i:Nat) (k:Env→Am→List (Ci×Env×AV)→List Am→Prop) (Q:AU→Env→Am→Prop) (env:Env) (s:Am) (pend:List (Ci×Env×AV)) (past:List Am) (out:AL) (s1:Am):Prop:=match out with
 | .Di v=>match pc with
   |p::E=>bif Nat.beq i p&&!(DC i W||(flt o||Nat.blt i m))then KA AP E os (i+1) env s (Q (.Di v) [] s1)else False
   |[]=>False
 | .ok v=>bif DC i W then bif o.op.Fj then Aa8 AP o.op env v past (k (put o.dst v env) s ((o.op,env,v)::pend) past)else False
   else bif flt o||Nat.blt i m then k (put o.dst v env) s pend past
   else Aa9 AP s1 pend (k (put o.dst v env) s1 pend (s::past))
def Xp (AP:Nat→Option G9) (m:Nat) (W pc:List Nat) (ops:List AQ):Nat→Env→Am→List (Ci×Env×AV)→List Am→(AU→Env→Am→Prop)→Prop:=
 List.rec (motive:=fun _=>Nat→Env→Am→List (Ci×Env×AV)→List Am→(AU→Env→Am→Prop)→Prop) (fun _ env s _ _ K=>K .normal env s)
    (fun o os ih i env s pend past K=>FC o.guard env (Js AP o.op env s (Vy AP m W pc o os i (fun env s pend past=>ih (i+1) env s pend past K) K env s pend past))
      (ih (i+1) (put o.dst .undef env) s pend past K)) ops
theorem ZN (m:Nat) (W pc:List Nat) (o:AQ) (os:List AQ) (i:Nat) (env:Env) (s:Am) (pend:List (Ci×Env×AV)) (past:List Am) (K:AU→Env→Am→Prop):Xp AP m W pc (o::os) i env s pend past K=FC o.guard env
 (Js AP o.op env s (Vy AP m W pc o os i (fun env s pend past=>Xp AP m W pc os (i+1) env s pend past K) K env s pend past))
 (Xp AP m W pc os (i+1) (put o.dst .undef env) s pend past K):=rfl
theorem Il {m:Nat} {W pc:List Nat}:∀{os:List AQ} {i:Nat} {env:Env} {s:Am} {pend:List (Ci×Env×AV)} {past:List Am} {K:AU→Env→Am→Prop},Xp AP m W pc os i env s pend past K→∃N x env' s',FT (run AP N) m W pc os i env s pend past=some (x,env',s')∧K x env' s'
 |[],i,env,s,pend,past,K,h=>⟨0,_,_,_,rfl,h⟩
 |o::os,i,env,s,pend,past,K,h=>by
  have Kw:wanted o.guard env=some false→Xp AP m W pc os (i+1) (put o.dst .undef env) s pend past K→∃N x env' s',FT (run AP N) m W pc (o::os) i env s pend past=some (x,env',s')∧K x env' s':=by
   intro hw h
   obtain⟨N,x,env',s',h1,h2⟩:=Il h
   exact⟨N,x,env',s',by simp only[FT,hw];exact h1,h2⟩
  have hdo:wanted o.guard env=some true→Js AP o.op env s (Vy AP m W pc o os i (fun env s pend past=>Xp AP m W pc os (i+1) env s pend past K) K env s pend past)→∃N x env' s',FT (run AP N) m W pc (o::os) i env s pend past=some (x,env',s')∧K x env' s':=by
   intro hw h
   obtain⟨N,out,s1,h1,h2⟩:=Gm h
   cases out with
   |Di v=>
    simp only[Vy]at h2
    cases pc with
    |nil=>exact h2.elim
    |cons p E=>
     dsimp only at h2
     cases hc:(Nat.beq i p&&!(DC i W||(flt o||Nat.blt i m)))with
     |false=>rw[hc]at h2;exact h2.elim
     |true=>
      rw[hc,cond_true]at h2
      obtain⟨⟨N1,h3⟩,h4⟩:=H7 h2
      refine⟨max N N1,_,_,_,?_,h4⟩
      simp only[FT,hw,Cb (Bl (AP:=AP) (Nat.le_max_left N N1)) h1,hc,Fa (Bl (AP:=AP) (Nat.le_max_right N N1)) h3,Bool.and_self,if_true]
   |ok v=>
    simp only[Vy]at h2
    cases hm:DC i W with
    |true=>
     rw[hm,cond_true]at h2
     cases hp:o.op.Fj with
     |false=>rw[hp]at h2;exact h2.elim
     |true=>
      rw[hp,cond_true]at h2
      obtain⟨⟨N1,h3⟩,h4⟩:=Ph h2
      obtain⟨N2,x,env',s',h5,h6⟩:=Il h4
      refine⟨max N (max N1 N2),x,env',s',?_,h6⟩
      simp only[FT,hw,Cb (Bl (AP:=AP) (Nat.le_max_left N (max N1 N2))) h1,hm,hp,IL (Bl (AP:=AP) (show N1≤max N (max N1 N2) by omega)) h3,Bool.and_self,if_true]
      exact Ef (Bl (show N2≤max N (max N1 N2) by omega)) h5
    |false=>
     rw[hm,cond_false]at h2
     cases hf:(flt o||Nat.blt i m)with
     |true=>
      rw[hf,cond_true]at h2
      obtain⟨N2,x,env',s',h5,h6⟩:=Il h2
      refine⟨max N N2,x,env',s',?_,h6⟩
      simp only[FT,hw,Cb (Bl (AP:=AP) (Nat.le_max_left N N2)) h1,hm,hf,if_true,Bool.false_eq_true,if_false]
      exact Ef (Bl (Nat.le_max_right N N2)) h5
     |false=>
      rw[hf,cond_false]at h2
      obtain⟨⟨N1,h3⟩,h4⟩:=Pj h2
      obtain⟨N2,x,env',s',h5,h6⟩:=Il h4
      refine⟨max N (max N1 N2),x,env',s',?_,h6⟩
      simp only[FT,hw,Cb (Bl (AP:=AP) (Nat.le_max_left N (max N1 N2))) h1,hm,hf,IQ (Bl (AP:=AP) (show N1≤max N (max N1 N2) by omega)) h3,if_true,Bool.false_eq_true,if_false]
      exact Ef (Bl (show N2≤max N (max N1 N2) by omega)) h5
  rw[ZN]at h
  unfold FC at h
  split at h
  ·rename_i hg
   exact hdo (by rw[hg];rfl) h
  ·rename_i r b hg
   split at h
   ·rename_i b' hb
    cases hbb:(b'==b)
    ·rw[hbb]at h
     exact Kw (by rw[hg];simp only[wanted,hb,hbb]) h
    ·rw[hbb]at h
     exact hdo (by rw[hg];simp only[wanted,hb,hbb]) h
   ·rename_i hb
    exact Kw (by rw[hg];simp only[wanted,hb]) h
   ·cases h
def Aba (v:AV) (A B:Prop):Prop:=match v with
 | .bool c=>J3 c A B
 |_=>False
def vC (AP:Nat→Option G9) (c:Bh):Env→Am→(AU→Env→Am→Prop)→Prop:=
 Bh.rec (motive:=fun _=>Env→Am→(AU→Env→Am→Prop)→Prop)
    (fun env s Q=>Q .normal env s)
    (fun _ JE ops live tr env s Q=>RZ JE env s fun env s=>Vs AP ops env s (Aa4 live tr Q))
    (fun m un JE ops live tr env s Q=>RZ JE env s fun env s=>Aa7 AP m un ops env s fun CW s1=>Vu m ops fun tl=>Vs AP tl CW s1 (Aa4 live tr Q))
    (fun m W pc JE ops live tr env s Q=>RZ JE env s fun env s=>Xp AP m W pc ops 0 env s [] [] (Aa4 live tr Q))
    (fun _ _ iha ihb env s Q=>iha env s (Si (fun env s=>ihb env s Q) Q))
    (fun c _ _ iha ihb env s Q=>Aba (c.val env) (iha env s Q) (ihb env s Q))
    (fun id _ iha env s Q=>iha env s (AdK id Q))
    (fun live a _ env s Q=>JB live env fun env=>Run AP (.loop live a) env s Q)
    (fun id env s Q=>Q (.exit id) env s)
    (fun env s Q=>Q .ret env s) c
theorem QD {env:Env} {t:Nat}:∀{ts:List Nat},t∈ts→(commit env ts).get t=env.get t
 |[],h=>by simp at h
 |t'::ts,h=>by
  simp only[commit,Env.get]
  cases hb:Nat.beq t' t
  ·have hne:t≠t':=fun e=>by subst e;simp at hb
   rw[cond_false]
   exact QD ((List.mem_cons.1 h).resolve_left hne)
  ·rw[cond_true,Nat.eq_of_beq_eq_true hb]
theorem NG {env env':Env}:∀{ts:List Nat},(∀ t∈ts,env.get t=env'.get t)→commit env ts=commit env' ts
 |[],_=>rfl
 |t::ts,h=>by simp only[commit];rw[h t (by simp),NG fun t' h'=>h t' (by simp[h'])]
theorem Sj (env:Env) (ts:List Nat):commit (commit env ts) ts=commit env ts:=NG fun _ h=>QD h
theorem Pm {live:List Nat} {a:Bh} {env:Env} {s:Am} {Q:AU→Env→Am→Prop} (h:Run AP (.loop live a) (commit env live) s Q):Run AP (.loop live a) env s Q:=by
 obtain⟨N,e,env',s',h1,h2⟩:=h
 refine⟨N,e,env',s',?_,h2⟩
 simp only[E8]at h1 ⊢
 cases N with
 |zero=>simp[iter]at h1
 |succ N=>
  simp only[iter,Sj]at h1 ⊢
  exact h1
theorem Jd:∀{c:Bh} {env:Env} {s:Am} {Q:AU→Env→Am→Prop},vC AP c env s Q→Run AP c env s Q:=by
 intro c
 induction c with
 |skip=>intro env s Q h;exact⟨0,_,_,_,rfl,h⟩
 |exit id=>intro env s Q h;exact⟨0,_,_,_,rfl,h⟩
 |ret=>intro env s Q h;exact⟨0,_,_,_,rfl,h⟩
 |region hd JE ops live tr=>
  intro env s Q h
  obtain⟨CW,s1,h1,h2⟩:=EI h
  obtain⟨N,e,Gl,s2,h3,h4⟩:=JA h2
  cases e with
  |normal=>exact⟨N,_,_,_,by simp only[E8,h1,h3],(MF _ _ _).1 ((EH _ _ _).1 h4)⟩
  |exit id=>exact⟨N,_,_,_,by simp only[E8,h1,h3],h4⟩
  |ret=>exact⟨N,_,_,_,by simp only[E8,h1,h3],h4⟩
  |Di v=>exact⟨N,_,_,_,by simp only[E8,h1,h3],h4⟩
 |mix m W pc JE ops live tr=>
  intro env s Q h
  obtain⟨CW,s1,h1,h2⟩:=EI h
  obtain⟨N,e,Gl,s2,h3,h4⟩:=Il h2
  cases e with
  |normal=>exact⟨N,_,_,_,by simp only[E8,h1,h3],(MF _ _ _).1 ((EH _ _ _).1 h4)⟩
  |exit id=>exact⟨N,_,_,_,by simp only[E8,h1,h3],h4⟩
  |ret=>exact⟨N,_,_,_,by simp only[E8,h1,h3],h4⟩
  |Di v=>exact⟨N,_,_,_,by simp only[E8,h1,h3],h4⟩
 |par m un JE ops live tr=>
  intro env s Q h
  obtain⟨CW,s1,h1,h2⟩:=EI h
  obtain⟨N',AhT,s1',hh,h2⟩:=Vw h2
  rw[SL]at h2
  obtain⟨N,e,Gl,s2,h3,h4⟩:=JA h2
  have hh':Kz (run AP (max N N')) m un ops CW s1=some (AhT,s1'):=by
   unfold Kz at hh ⊢
   split at hh
   ·rename_i es hes
    rw[Ik (Bl (Nat.le_max_right N N')) hes]
    exact hh
   ·cases hh
  have h3':=EG (Bl (AP:=AP) (Nat.le_max_left N N')) h3
  cases e with
  |normal=>exact⟨max N N',_,_,_,by simp only[E8,h1,hh',h3'],(MF _ _ _).1 ((EH _ _ _).1 h4)⟩
  |exit id=>exact⟨max N N',_,_,_,by simp only[E8,h1,hh',h3'],h4⟩
  |ret=>exact⟨max N N',_,_,_,by simp only[E8,h1,hh',h3'],h4⟩
  |Di v=>exact⟨max N N',_,_,_,by simp only[E8,h1,hh',h3'],h4⟩
 |seq a b iha ihb=>
  intro env s Q h
  obtain⟨N,e,CW,s1,h1,h2⟩:=iha h
  cases e with
  |normal=>
   obtain⟨N',e',Gl,s2,h3,h4⟩:=ihb h2
   have h1':=DL (Bl (AP:=AP) (Nat.le_max_left N N')) (Nat.le_max_left N N') h1
   have h3':=DL (Bl (AP:=AP) (Nat.le_max_right N N')) (Nat.le_max_right N N') h3
   exact⟨max N N',e',Gl,s2,by simp only[E8,h1',h3'],h4⟩
  |exit id=>exact⟨N,_,_,_,by simp only[E8,h1],h2⟩
  |ret=>exact⟨N,_,_,_,by simp only[E8,h1],h2⟩
  |Di v=>exact⟨N,_,_,_,by simp only[E8,h1],h2⟩
 |cond c a b iha ihb=>
  intro env s Q h
  change Aba (c.val env) (vC AP a env s Q) (vC AP b env s Q)at h
  unfold Aba at h
  split at h
  ·rename_i c' hc
   cases c'
   ·obtain⟨N,e,CW,s1,h1,h2⟩:=ihb h
    exact⟨N,e,CW,s1,by simp only[E8,hc,h1],h2⟩
   ·obtain⟨N,e,CW,s1,h1,h2⟩:=iha h
    exact⟨N,e,CW,s1,by simp only[E8,hc,h1],h2⟩
  ·cases h
 |block id a iha=>
  intro env s Q h
  obtain⟨N,e,CW,s1,h1,h2⟩:=iha h
  cases e with
  |normal=>exact⟨N,_,_,_,by simp only[E8,h1],h2⟩
  |exit j=>
   simp only[AdK]at h2
   cases hb:Nat.beq j id
   ·rw[hb]at h2
    have hne:j≠id:=fun e=>by subst e;simp at hb
    exact⟨N,_,_,_,by simp only[E8,h1,if_neg hne],h2⟩
   ·rw[hb]at h2
    exact⟨N,_,_,_,by simp only[E8,h1,if_pos (Nat.eq_of_beq_eq_true hb)],h2⟩
  |ret=>exact⟨N,_,_,_,by simp only[E8,h1],h2⟩
  |Di v=>exact⟨N,_,_,_,by simp only[E8,h1],h2⟩
 |loop live a iha=>
  intro env s Q h
  exact Pm ((EH _ _ _).1 h)
def Abb (AP:Nat→Option G9) (live:List Nat) (a:Bh) (Q:AU→Env→Am→Prop) (e:AU) (env:Env) (s:Am):Prop:=match e with
 | .normal=>JB live env fun env=>Run AP (.loop live a) env s Q
 |e=>Q e env s
def Abc (fn:G5) (K:AL→Am→Prop) (e:AU) (env:Env) (s:Am):Prop:=match e with
 | .normal=>J5 (Eh env s fn.results) fun vs=>K (.ok (Hr vs)) s
 | .ret=>J5 (Eh env s fn.results) fun vs=>K (.ok (Hr vs)) s
 | .Di v=>K (.Di v) s
 | .exit _=>False
theorem QE {f:Nat} {fn:G5} {args:List AV} {s:Am} {K:AL→Am→Prop} (hf:AP f=some (.code fn)) (hl:args.length=fn.np) (h:Run AP fn.body (params args 0) s (Abc fn K)):AA AP f args s K:=by
 obtain⟨N,e,env,s',h1,h2⟩:=h
 cases e with
 |normal=>
  obtain⟨vs,h3,h4⟩:=h2
  exact⟨N+1,_,_,by simp only[run,hf,if_pos hl,evF,h1,h3,Option.map_some],h4⟩
 |ret=>
  obtain⟨vs,h3,h4⟩:=h2
  exact⟨N+1,_,_,by simp only[run,hf,if_pos hl,evF,h1,h3,Option.map_some],h4⟩
 |Di v=>exact⟨N+1,_,_,by simp only[run,hf,if_pos hl,evF,h1],h2⟩
 |exit id=>cases h2
end AI
end Go.Proofs.YtceiccjppfapjaaGreatDoor
namespace Go.Proofs.YtceiccjppfapjaaGreatDoor
namespace AI
open Go.RowKit
variable {AP:Nat→Option G9}
def AfW (live:List Nat) (I:Env→Am→Prop) (Q:AU→Env→Am→Prop) (e:AU) (env:Env) (s:Am):Prop:=match e with
 | .normal=>JB live env fun env=>I env s
 |e=>Q e env s
structure again (I:Nat→Env→Am→Prop) (m:Nat) (env:Env) (s:Am):Prop where
 mk::(h:∃m',m'<m∧I m' env s)
theorem Ag {live:List Nat} {a:Bh} {Q:AU→Env→Am→Prop} (I:Nat→Env→Am→Prop)
 (hI:∀m env s,I m env s→commit env live=env∧vC AP a env s (AfW live (again I m) Q)):
 ∀m env s,I m env s→Run AP (.loop live a) env s Q:=by
 intro m
 induction m using Nat.strongRecOn with
 |ind m ih=>
  intro env s h
  obtain⟨hc,h1⟩:=hI m env s h
  obtain⟨N,e,CW,s1,h2,h3⟩:=Jd h1
  have hr:Run AP a env s (Abb AP live a Q):=by
   refine⟨N,e,CW,s1,h2,?_⟩
   cases e with
   |normal=>
    simp only[AfW,Abb,EH]at h3 ⊢
    obtain⟨m',hm,h4⟩:=h3
    exact ih m' hm _ _ h4
   |exit id=>exact h3
   |ret=>exact h3
   |Di v=>exact h3
  obtain⟨N,e,CW,s1,h1,h2⟩:=hr
  cases e with
  |normal=>
   obtain⟨N',e',Gl,s2,h3,h4⟩:=Pm ((EH _ _ _).1 h2)
   refine⟨max N N'+1,e',Gl,s2,?_,h4⟩
   have h1':=DL (Bl (AP:=AP) (show N≤max N N'+1 by omega)) (show N≤max N N'+1 by omega) h1
   simp only[E8]at h3 ⊢
   rw[iter.eq_2]
   rw[hc,h1']
   exact OG (fun env s r hr=>DL (Bl (by omega)) (by omega) hr) (by omega) h3
  |exit id=>exact⟨N+1,_,_,_,by simp only[E8,iter.eq_2,hc,DL (Bl (AP:=AP) (Nat.le_succ N)) (Nat.le_succ N) h1],h2⟩
  |ret=>exact⟨N+1,_,_,_,by simp only[E8,iter.eq_2,hc,DL (Bl (AP:=AP) (Nat.le_succ N)) (Nat.le_succ N) h1],h2⟩
  |Di v=>exact⟨N+1,_,_,_,by simp only[E8,iter.eq_2,hc,DL (Bl (AP:=AP) (Nat.le_succ N)) (Nat.le_succ N) h1],h2⟩
structure Ae (AP:Nat→Option G9) (f:Nat) (args:List AV) (R:AV→Prop):Prop where
 mk::(h:∃v,Pure AP f args v∧R v)
def AfX (R:AV→Prop) (out:AL) (s:Am):Prop:=match out with
 | .ok r=>YD s.σ Eo r R
 | .Di _=>False
theorem Ac {f:Nat} {fn:G5} {args:List AV} {R:AV→Prop} (hf:AP f=some (.code fn)) (hl:args.length=fn.np) (h:vC AP fn.body (params args 0) ⟨[],0⟩ (Abc fn (AfX R))):Ae AP f args R:=by
 obtain⟨N,out,s',h1,h2⟩:=QE hf hl (Jd h)
 cases out with
 |ok r=>
  have h2:YD s'.σ Eo r R:=h2
  obtain⟨v,h3,h4⟩:=Vp h2
  exact⟨v,⟨N,by simp only[Dv,h1];exact h3⟩,h4⟩
 |Di r=>cases h2
theorem Aa {f:Nat} {args:List AV} {R:AV→Prop} {K:AV→Prop} (h:Ae AP f args R) (h2:∀v,R v→K v):Yy AP f args K:=by
 obtain⟨v,h3,h4⟩:=h
 exact⟨v,h3,h2 v h4⟩
theorem Bj {f:Nat} {args:List AV} {p:Prop} [Decidable p] {K:AV→Prop} (h:Ae AP f args (· =.bool (decide p))) (h1:p→K (.bool true)) (h2:¬p→K (.bool false)):Yy AP f args K:=by
 refine Aa h ?_
 rintro _ rfl
 by_cases hp:p
 ·rw[decide_eq_true hp];exact h1 hp
 ·rw[decide_eq_false hp];exact h2 hp
theorem AA.mono {f:Nat} {args:List AV} {s:Am} {K K':AL→Am→Prop} (h:AA AP f args s K) (hk:∀out s,K out s→K' out s):AA AP f args s K':=by
 obtain⟨N,out,s',h1,h2⟩:=h
 exact⟨N,out,s',h1,hk _ _ h2⟩
theorem Bf {p:Prop} [Decidable p] (h:p):AV.bool true=AV.bool (decide p):=by rw[decide_eq_true h]
theorem Aw {p:Prop} [Decidable p] (h:¬p):AV.bool false=AV.bool (decide p):=by rw[decide_eq_false h]
theorem Ae.mono {f:Nat} {args:List AV} {R R':AV→Prop} (h:Ae AP f args R) (h2:∀v,R v→R' v):Ae AP f args R':=by
 obtain⟨v,h3,h4⟩:=h
 exact⟨v,h3,h2 v h4⟩
theorem Aj {f:Nat} {fn:G5} {args:List AV} {s:Am} {K:AL→Am→Prop} (hf:AP f=some (.code fn)) (hl:args.length=fn.np) (h:vC AP fn.body (params args 0) s (Abc fn K)):AA AP f args s K:=
 QE hf hl (Jd h)
end AI
end Go.Proofs.YtceiccjppfapjaaGreatDoor
namespace Go.Proofs.YtceiccjppfapjaaGreatDoor
namespace AI
def ints (l:List Int):List AV:=l.map (.int .i64)
abbrev SQ (nn:Bool) (l:List Int):AV:=.sl nn (ints l)
@[simp] theorem lI (l:List Int):(ints l).length=l.length:=by simp[ints]
theorem Abd {l:List Int} {i:Nat} {x:Int} (h:l[i]?=some x):nth (ints l) i=some (.int .i64 x):=by simp[ints,AX,h]
theorem nI {l:List Int} {i:Nat} (h:i<l.length):nth (ints l) i=some (.int .i64 l[i]):=Abd (List.getElem?_eq_getElem h)
theorem wrap_i64 {z:Int} (h:-2^63≤z) (h2:z<2^63):IntKind.i64.wrap z=z:=by
 rw[IntKind.wrap_i64];omega
theorem nIN {l:List Int} {i:Nat} (h:i<l.length):nth (ints l) (Int.toNat (Nat.cast i))=some (.int .i64 l[i]):=nI h
theorem Vz {es:Nat} {x:AV} (h:x.cells.length=es):Bg es [x]:=by intro y hy;simp at hy;exact hy▸h
theorem Ql {b n:Nat} (h:n*b≤2 ^ 46):roomy b n:=h
def iss (E:List (Bool×List Int)):List AV:=E.map fun p=>.sl p.1 (ints p.2)
@[simp] theorem lS (E:List (Bool×List Int)):(iss E).length=E.length:=by simp[iss]
theorem nS {E:List (Bool×List Int)} {i:Nat} (h:i<E.length):nth (iss E) i=some (.sl E[i].1 (ints E[i].2)):=by simp[iss,AX,h]
theorem nSN {E:List (Bool×List Int)} {i:Nat} (h:i<E.length):nth (iss E) (Int.toNat (Nat.cast i))=some (.sl E[i].1 (ints E[i].2)):=nS h
theorem EK {α:Type} {l:List α} {i:Nat} (h:¬(i:Int)<(l.length:Int)):l.take i=l:=List.take_of_length_le (by omega)
theorem Dl {α:Type} {p:α→Prop} {l:List α} {i:Nat} (h:i<l.length) (h1:∀x∈l.take i,p x) (h2:p l[i]):∀x∈l.take (i+1),p x:=by
 intro x hx
 rw[List.take_succ_eq_append_getElem h,List.mem_append,List.mem_singleton]at hx
 rcases hx with hx|rfl
 ·exact h1 x hx
 ·exact h2
theorem tIN {l:List Int} {i:Nat} {x y:Int}:(ints l).set (Int.toNat (Nat.cast i)) (Bo (.int .i64 x) 0 (.int .i64 y))=ints (l.set i y):=by
 simp[ints,Bo,AV.cells,List.map_set]
theorem tI {l:List Int} {i:Nat} {x y:Int}:(ints l).set i (Bo (.int .i64 x) 0 (.int .i64 y))=ints (l.set i y):=tIN
theorem uI {l:List Int}:sub (ints l) 0 l.length=ints l:=by
 unfold sub;rw[List.drop_zero,List.take_of_length_le (by simp)]
theorem uS {l:List (Bool×List Int)}:sub (iss l) 0 l.length=iss l:=by
 unfold sub;rw[List.drop_zero,List.take_of_length_le (by simp)]
theorem uIS {l:List Int} {x:Int}:sub (ints (l++[x])) 0 (l.length+1)=ints (l++[x]):=by
 have:=uI (l:=l++[x]);rwa [List.length_append]at this
theorem uSS {l:List (Bool×List Int)} {x:Bool×List Int}:sub (iss (l++[x])) 0 (l.length+1)=iss (l++[x]):=by
 have:=uS (l:=l++[x]);rwa [List.length_append]at this
theorem rIN (n:Nat) (z:Int):List.replicate (Int.toNat (Nat.cast n)) (AV.int .i64 z)=ints (List.replicate n z):=by simp[ints]
theorem rI (n:Nat) (z:Int):List.replicate n (AV.int .i64 z)=ints (List.replicate n z):=by simp[ints]
theorem nY {l:List UInt8} {i:Nat} (h:i<l.length):nth l i=some l[i]:=by simp[AX,h]
theorem nYN {l:List UInt8} {i:Nat} (h:i<l.length):nth l (Int.toNat (Nat.cast i))=some l[i]:=nY h
def bools (l:List Bool):List AV:=l.map .bool
@[simp] theorem lB (l:List Bool):(bools l).length=l.length:=by simp[bools]
theorem nB {l:List Bool} {i:Nat} (h:i<l.length):nth (bools l) i=some (.bool l[i]):=by simp[bools,AX,h]
theorem nBN {l:List Bool} {i:Nat} (h:i<l.length):nth (bools l) (Int.toNat (Nat.cast i))=some (.bool l[i]):=nB h
theorem tBN {l:List Bool} {i:Nat} {x y:Bool}:(bools l).set (Int.toNat (Nat.cast i)) (Bo (.bool x) 0 (.bool y))=bools (l.set i y):=by
 simp[bools,Bo,AV.cells,List.map_set]
theorem tB {l:List Bool} {i:Nat} {x y:Bool}:(bools l).set i (Bo (.bool x) 0 (.bool y))=bools (l.set i y):=tBN
theorem uB {l:List Bool}:sub (bools l) 0 l.length=bools l:=by
 unfold sub;rw[List.drop_zero,List.take_of_length_le (by simp)]
theorem rBN (n:Nat) (z:Bool):List.replicate (Int.toNat (Nat.cast n)) (AV.bool z)=bools (List.replicate n z):=by simp[bools]
section
variable {α β:Type} [DecidableEq α] {fk:α→AV} {fv:β→AV} {t:Lh}
end
end AI
end Go.Proofs.YtceiccjppfapjaaGreatDoor
