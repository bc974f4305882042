/- The evaluator, step by step on symbols: what must hold for it to end in 'Q'. The evaluator, step by step on symbols: operations. The evaluator, step by step on symbols: regions, code, loops, functions. Loops by an invariant; what a function answers, as a predicate. Lists of numbers as abstract values; small facts that the steps need. -/
import Derived.Test.YtjijnamhalgamaaGreatDoorBSe
set_option linter.unusedVariables false
set_option maxRecDepth 4000
namespace Go.Proofs.YtjijnamhalgamaaGreatDoor
namespace AI
open Go.RowKit
variable {AP:Nat→Option Ir}
structure Run (AP:Nat→Option Ir) (c:Bg) (env:Env) (s:Am) (Q:AQ→Env→Am→Prop):Prop where
 mk::(h:∃N e env' s',EU (run AP N) N c env s=some (e,env',s')∧Q e env' s')
def Op1 (AP:Nat→Option Ir) (o:CG) (env:Env) (s:Am) (K:AB→Am→Prop):Prop:=
 ∃N out s',Ak (run AP N) o env s=some (out,s')∧K out s'
def Ops (AP:Nat→Option Ir) (os:List AX) (env:Env) (s:Am) (Q:AQ→Env→Am→Prop):Prop:=
 ∃N e env' s',EH (run AP N) os env s=some (e,env',s')∧Q e env' s'
structure Pure (AP:Nat→Option Ir) (f:Nat) (args:List AV) (v:AV):Prop where
 mk::(h:∃N,EI (run AP N) f args=some v)
structure Ar (AP:Nat→Option Ir) (f:Nat) (args:List AV) (s:Am) (K:AB→Am→Prop):Prop where
 mk::(h:∃N out s',run AP N f args s=some (out,s')∧K out s')
theorem Bj {n n':Nat} (h:n≤n'):FT (run AP n) (run AP n'):=SL h
theorem Run.mono {c:Bg} {env:Env} {s:Am} {Q Q':AQ→Env→Am→Prop} (h:Run AP c env s Q) (hq:∀e env s,Q e env s→Q' e env s):Run AP c env s Q':=by
 obtain⟨N,e,env',s',h1,h2⟩:=h
 exact⟨N,e,env',s',h1,hq _ _ _ h2⟩
def AV.force {R:Sort _} (v:AV) (f:AV→R):R:=
 match v with
 | .bool b=>f (.bool b)
 | .int k n=>f (.int k n)
 | .str s=>f (.str s)
 | .sl nn xs=>f (.sl nn xs)
 | .zc=>f .zc
 | .own o g a b=>f (.own o g a b)
 | .agg cs=>f (.agg cs)
 | .BD cs=>f (.BD cs)
 | .ref o g i a=>f (.ref o g i a)
 | .CJ cs=>f (.CJ cs)
 | .fn g cs=>f (.fn g cs)
 | .map o g=>f (.map o g)
 | .fmap es=>f (.fmap es)
 | .iface t v=>f (.iface t v)
 | .JO=>f .JO
 | .Dv=>f .Dv
 | .Gn=>f .Gn
 | .Ii=>f .Ii
 | .undef=>f .undef
 | .junk=>f .junk
theorem force_eq {R:Sort _} (v:AV) (f:AV→R):v.force f=f v:=by cases v<;>rfl
def Jz (b:Bool) (t e:Prop):Prop:=match b with
 |true=>t
 |false=>e
theorem JA {b:Bool} {t e:Prop} (h1:b=true→t) (h2:b=false→e):Jz b t e:=by
 cases b
 ·exact h2 rfl
 ·exact h1 rfl
structure NV (p t e:Prop):Prop where
 mk::(yes:p→t) (no:¬p→e)
structure need (p t:Prop):Prop where
 mk::(l:p) (r:t)
structure Jk (k:IntKind) (z:Int) (K:AV→Prop):Prop where
 mk::(h:∃y,k.wrap z=y∧K (.int k y))
theorem BI {k:IntKind} {z y:Int} {K:AV→Prop} (h:k.wrap z=y) (h2:K (.int k y)):Jk k z K:=⟨y,h,h2⟩
structure Ci {α:Type} (xs:List α) (i:Nat) (K:α→Prop):Prop where
 mk::(h:∃x,nth xs i=some x∧K x)
theorem Af {α:Type} {xs:List α} {i:Nat} {K:α→Prop} {x:α} (h:nth xs i=some x) (h2:K x):Ci xs i K:=⟨x,h,h2⟩
structure LK {α:Type} (o:Option α) (K:α→Prop):Prop where
 mk::(h:∃x,o=some x∧K x)
theorem Aj {α:Type} {o:Option α} {K:α→Prop} {x:α} (h:o=some x) (h2:K x):LK o K:=⟨x,h,h2⟩
structure Xy (AP:Nat→Option Ir) (f:Nat) (args:List AV) (K:AV→Prop):Prop where
 mk::(h:∃v,Pure AP f args v∧K v)
def settle (v:AV) (K:AV→Prop):Prop:=match v with
 | .bool b=>Jz b (K (.bool true)) (K (.bool false))
 |v=>v.force K
theorem SQ (v:AV) (K:AV→Prop):settle v K↔K v:=by
 cases v<;>first|exact Iff.rfl|skip
 rename_i b
 cases b<;>exact Iff.rfl
def SS {α:Type}:List α→Nat→α→(List α→Prop)→Prop
 |[],_,_,K=>K []
 |_::xs,0,y,K=>K (y::xs)
 |x::xs,n+1,y,K=>SS xs n y fun ys=>K (x::ys)
theorem FY {α:Type}:∀(l:List α) (n:Nat) (y:α) (K:List α→Prop),SS l n y K↔K (l.set n y)
 |[],_,_,_=>Iff.rfl
 |_::_,0,_,_=>Iff.rfl
 |x::xs,n+1,y,K=>FY xs n y fun ys=>K (x::ys)
def Aat {α:Type}:List α→α→(List α→Prop)→Prop
 |[],y,K=>K [y]
 |x::xs,y,K=>Aat xs y fun ys=>K (x::ys)
theorem Qu {α:Type}:∀(l:List α) (y:α) (K:List α→Prop),Aat l y K↔K (l++[y])
 |[],_,_=>Iff.rfl
 |x::xs,y,K=>Qu xs y fun ys=>K (x::ys)
def V9 (s:Am) (mk:Nat→Nat→AV) (ob:Nat→Obj) (K:AB→Am→Prop):Prop:=
 Aat s.σ (ob s.ctr) fun σ=>K (.ok (mk s.σ.length s.ctr)) ⟨σ,s.ctr+1⟩
structure eqK {α:Type} (a:α) (K:α→Prop):Prop where
 mk::(h:∃b,a=b∧K b)
theorem Cb {α:Type} {a b:α} {K:α→Prop} (h1:a=b) (h:K b):eqK a K:=⟨_,h1,h⟩
def Aau (op:BinOp) (k:IntKind) (a b:Int) (K:AV→Prop):Prop:=
 match op with
 | .add=>Jk k (a+b) K
 | .sub=>Jk k (a-b) K
 | .mul=>Jk k (a*b) K
 | .quo=>need (b≠0) (Jk k (a.tdiv b) K)
 | .rem=>need (b≠0) (K (.int k (a.tmod b)))
 | .eql=>NV (a=b) (K (.bool true)) (K (.bool false))
 | .neq=>NV (a=b) (K (.bool false)) (K (.bool true))
 | .lss=>NV (a<b) (K (.bool true)) (K (.bool false))
 | .leq=>NV (a≤b) (K (.bool true)) (K (.bool false))
 | .gtr=>NV (b<a) (K (.bool true)) (K (.bool false))
 | .geq=>NV (b≤a) (K (.bool true)) (K (.bool false))
 | .and=>eqK (k.wrap (BitVec.ofInt k.bits a &&& BitVec.ofInt k.bits b).toNat) fun z=>K (.int k z)
 | .or=>eqK (k.wrap (BitVec.ofInt k.bits a ||| BitVec.ofInt k.bits b).toNat) fun z=>K (.int k z)
 | .xor=>eqK (k.wrap (BitVec.ofInt k.bits a ^^^ BitVec.ofInt k.bits b).toNat) fun z=>K (.int k z)
 | .shl=>need (0≤b) (Jk k (a*2 ^ (min b.toNat k.bits)) K)
 | .shr=>need (0≤b) (eqK (a.fdiv (2 ^ (min b.toNat k.bits))) fun z=>K (.int k z))
 |_=>False
def Aav (op:BinOp) (a b:List UInt8) (K:AV→Prop):Prop:=
 match op with
 | .eql=>NV (a=b) (K (.bool true)) (K (.bool false))
 | .neq=>NV (a=b) (K (.bool false)) (K (.bool true))
 | .lss=>Jz (Op.bytesLess a b) (K (.bool true)) (K (.bool false))
 | .leq=>Jz (Op.bytesLess a b||a==b) (K (.bool true)) (K (.bool false))
 | .gtr=>Jz (Op.bytesLess a b||a==b) (K (.bool false)) (K (.bool true))
 | .geq=>Jz (Op.bytesLess a b) (K (.bool false)) (K (.bool true))
 | .add=>need (a.length+b.length<2 ^ 63) (K (.str (a++b)))
 |_=>False
def Adb (op:BinOp) (k k':IntKind) (t:Prop):Prop:=match op with
 | .shl=>t
 | .shr=>t
 |_=>need (k=k') t
theorem AbG {op:BinOp} {k k':IntKind} {t:Prop} (h:Adb op k k' t):(k=k'∨op=.shl∨op=.shr)∧t:=by
 unfold Adb at h
 split at h
 ·exact⟨.inr (.inl rfl),h⟩
 ·exact⟨.inr (.inr rfl),h⟩
 ·exact⟨.inl h.1,h.2⟩
theorem Agl {op:BinOp} {k k':IntKind} {t:Nl} {a b:Int} (h:k=k'∨op=.shl∨op=.shr):bin op t (.int k a) (.int k' b)=JQ op k a b:=by
 simp only[bin]
 split
 ·rfl
 ·rename_i hk
  rcases h with h|rfl|rfl
  ·exact absurd h hk
  ·rfl
  ·rfl
def Ajy (op:BinOp) (t:Nl) (x y:AV) (K:AV→Prop):Prop:=
 match x,y with
 | .int k a,.int k' b=>Adb op k k' (Aau op k a b K)
 | .str a,.str b=>Aav op a b K
 |x,y=>LK (bin op t x y) fun v=>settle v K
theorem Y4 {op:BinOp} {t:Nl} {x y:AV} {K:AV→Prop} (h:Ajy op t x y K):∃v,bin op t x y=some v∧K v:=by
 unfold Ajy at h
 split at h
 ·rename_i k a k' b
  obtain⟨hk,h⟩:=AbG h
  rw[Agl hk]
  unfold Aau at h
  cases op<;>simp only at h
  case add=>obtain⟨y,h1,h2⟩:=h;exact⟨_,rfl,by rw[h1];exact h2⟩
  case sub=>obtain⟨y,h1,h2⟩:=h;exact⟨_,rfl,by rw[h1];exact h2⟩
  case mul=>obtain⟨y,h1,h2⟩:=h;exact⟨_,rfl,by rw[h1];exact h2⟩
  case quo=>obtain⟨h0,y,h1,h2⟩:=h;exact⟨_,by simp only[JQ,if_neg h0];rfl,by rw[h1];exact h2⟩
  case rem=>obtain⟨h0,h2⟩:=h;exact⟨_,by simp only[JQ,if_neg h0],h2⟩
  case and=>obtain⟨z,rfl,h2⟩:=h;exact⟨_,rfl,h2⟩
  case or=>obtain⟨z,rfl,h2⟩:=h;exact⟨_,rfl,h2⟩
  case xor=>obtain⟨z,rfl,h2⟩:=h;exact⟨_,rfl,h2⟩
  case shl=>obtain⟨h0,y,h1,h2⟩:=h;exact⟨_,by simp only[JQ,if_neg (Int.not_lt.2 h0)];rfl,by rw[h1];exact h2⟩
  case shr=>obtain⟨h0,z,rfl,h2⟩:=h;exact⟨_,by simp only[JQ,if_neg (Int.not_lt.2 h0)],h2⟩
  case eql=>
   by_cases c:a=b
   ·exact⟨_,rfl,by have:=h.1 c;simpa only[c,beq_self_eq_true,bne_self_eq_false,Bool.not_true]using this⟩
   ·exact⟨_,rfl,by have:=h.2 c;simpa only[bne,beq_false_of_ne c,Bool.not_false]using this⟩
  case neq=>
   by_cases c:a=b
   ·exact⟨_,rfl,by have:=h.1 c;simpa only[c,beq_self_eq_true,bne_self_eq_false,Bool.not_true]using this⟩
   ·exact⟨_,rfl,by have:=h.2 c;simpa only[bne,beq_false_of_ne c,Bool.not_false]using this⟩
  case lss=>
   by_cases c:a<b
   ·exact⟨_,rfl,by simpa[c]using h.1 c⟩
   ·exact⟨_,rfl,by simpa[c]using h.2 c⟩
  case leq=>
   by_cases c:a≤b
   ·exact⟨_,rfl,by simpa[c]using h.1 c⟩
   ·exact⟨_,rfl,by simpa[c]using h.2 c⟩
  case gtr=>
   by_cases c:b<a
   ·exact⟨_,rfl,by simpa[c]using h.1 c⟩
   ·exact⟨_,rfl,by simpa[c]using h.2 c⟩
  case geq=>
   by_cases c:b≤a
   ·exact⟨_,rfl,by simpa[c]using h.1 c⟩
   ·exact⟨_,rfl,by simpa[c]using h.2 c⟩
 ·rename_i a b
  simp only[bin]
  unfold Aav at h
  cases op<;>simp only at h
  case add=>obtain⟨h0,h2⟩:=h;exact⟨_,by simp only[Y5,if_pos h0],h2⟩
  case eql=>
   by_cases c:a=b
   ·exact⟨_,rfl,by have:=h.1 c;simpa only[c,beq_self_eq_true,bne_self_eq_false,Bool.not_true]using this⟩
   ·exact⟨_,rfl,by have:=h.2 c;simpa only[bne,beq_false_of_ne c,Bool.not_false]using this⟩
  case neq=>
   by_cases c:a=b
   ·exact⟨_,rfl,by have:=h.1 c;simpa only[c,beq_self_eq_true,bne_self_eq_false,Bool.not_true]using this⟩
   ·exact⟨_,rfl,by have:=h.2 c;simpa only[bne,beq_false_of_ne c,Bool.not_false]using this⟩
  case lss=>cases c:Op.bytesLess a b<;>rw[c]at h<;>exact⟨_,rfl,by rw[c];exact h⟩
  case leq=>cases c:(Op.bytesLess a b||a==b)<;>rw[c]at h<;>exact⟨_,rfl,by rw[c];exact h⟩
  case gtr=>cases c:(Op.bytesLess a b||a==b)<;>rw[c]at h<;>exact⟨_,rfl,by rw[c];exact h⟩
  case geq=>cases c:Op.bytesLess a b<;>rw[c]at h<;>exact⟨_,rfl,by rw[c];exact h⟩
 ·obtain⟨v,h1,h2⟩:=h
  exact⟨v,h1,(SQ v K).1 h2⟩
end AI
end Go.Proofs.YtjijnamhalgamaaGreatDoor
namespace Go.Proofs.YtjijnamhalgamaaGreatDoor
namespace AI
open Go.RowKit
variable {AP:Nat→Option Ir}
def done (v:AV) (s:Am) (K:AB→Am→Prop):Prop:=settle v fun v=>K (.ok v) s
def Adc:AL:=fun _ _ _=>none
def Xz (o:CG) (env:Env) (s:Am) (K:AB→Am→Prop):Prop:=
 LK (Ak Adc o env s) fun r=>match r with
    |(.ok v,s')=>done v s' K
    |(.Dq v,s')=>K (.Dq v) s'
def Aaw (σ:List Obj) (n:Nat) (r:AV) (R:AV→Prop):Prop:=match r with
 | .own o g off len=>match n with
   |0=>False
   |n+1=>match nth σ o with
    |some (.arr g' _ nn cl elems)=>match cl with
     |true=>need (g=g'∧off+len≤elems.length) (eqK (sub elems off len) fun xs=>R (.sl nn xs))
     |false=>LK (snap σ (n+1) (.own o g off len)) R
    |_=>False
 |r=>LK (snap σ n r) R
theorem QN {σ:List Obj} {n:Nat} {r:AV} {R:AV→Prop} (h:Aaw σ n r R):∃v,snap σ n r=some v∧R v:=by
 unfold Aaw at h
 split at h
 ·rename_i o g off len
  split at h
  ·cases h
  ·split at h
   ·rename_i g' es nn cl elems ho
    split at h
    ·obtain⟨h1,xs,rfl,h2⟩:=h
     refine⟨_,?_,h2⟩
     simp only[snap,ho,if_pos h1,if_true]
    ·obtain⟨v,h1,h2⟩:=h;exact⟨v,h1,h2⟩
   ·cases h
 ·obtain⟨v,h1,h2⟩:=h;exact⟨v,h1,h2⟩
def SV (σ:List Obj):Nat→List AV→(List AV→Prop)→Prop
 |_,[],K=>K []
 |0,_::_,_=>False
 |n+1,v::vs,K=>Aaw σ n v fun a=>SV σ n vs fun r=>K (a::r)
theorem IV {σ:List Obj}:∀{n:Nat} {vs:List AV} {K:List AV→Prop},SV σ n vs K→∃r,He σ n vs=some r∧K r
 |n,[],K,h=>⟨[],by cases n<;>rfl,by cases n<;>exact h⟩
 |0,_::_,_,h=>by cases h
 |n+1,v::vs,K,h=>by
  obtain⟨a,h1,h2⟩:=QN h
  obtain⟨r,h3,h4⟩:=IV h2
  exact⟨_,by simp only[He,h1,h3],h4⟩
def Aax (σ:List Obj) (n:Nat) (r:AV) (R:AV→Prop):Prop:=match r with
 | .BD cs=>match n with
   |0=>False
   |n+1=>SV σ n cs fun vs=>R (.BD vs)
 | .agg cs=>match n with
   |0=>False
   |n+1=>SV σ n cs fun vs=>R (.agg vs)
 |r=>Aaw σ n r R
theorem XA {σ:List Obj} {n:Nat} {r:AV} {R:AV→Prop} (h:Aax σ n r R):∃v,snap σ n r=some v∧R v:=by
 unfold Aax at h
 split at h
 ·split at h
  ·cases h
  ·obtain⟨vs,h1,h2⟩:=IV h
   exact⟨_,by simp only[snap,h1,Option.map_some],h2⟩
 ·split at h
  ·cases h
  ·obtain⟨vs,h1,h2⟩:=IV h
   exact⟨_,by simp only[snap,h1,Option.map_some],h2⟩
 ·exact QN h
def Ade (AP:Nat→Option Ir) (m:Mode) (f:Nat) (args:List AV) (s:Am) (K:AB→Am→Prop):Prop:=
 match m with
 | .pure=>need (DK args=true) (Xy AP f args fun v=>done v s K)
 | .borrow=>SV s.σ EK args fun args'=>Xy AP f args' fun v=>need (v.scalar=true) (done v s K)
 | .share=>Ar AP f args s fun out s'=>match out with
   | .ok r=>LK (compact s.σ.length r s') fun r=>done r.1 r.2 K
   | .Dq v=>need (v.closed=true) (K (.Dq v) ⟨s'.σ.take s.σ.length,s'.ctr⟩)
 | .own=>∃N r s',Ba (run AP N) .own f args s=some (.ok r,s')∧done r s' K
 | .keep=>Ar AP f args s fun out s'=>match out with
   | .ok r=>done r s' K
   | .Dq v=>K (.Dq v) s'
structure IW (g g' es es' len:Nat) (nn cl c:Bool) (elems ys:List AV) (bytes:Nat) (K:Nat→Bool→Bool→List AV→Prop):Prop where
 mk::(h:(g=g'∧es=es'∧len≤elems.length∧Bc es ys∧roomy bytes (len+ys.length))∧K (len+ys.length) (nn||!ys.isEmpty) (cl&&c) (elems.take len++ys))
def Ajz (a b:Bool) (K:Bool→Prop):Prop:=match b with
 |true=>K a
 |false=>K false
theorem XB (a b:Bool) (K:Bool→Prop):Ajz a b K↔K (a&&b):=by cases a<;>cases b<;>exact Iff.rfl
def Adf (b:Bool) (K:Bool→Prop):Prop:=match b with
 |true=>K true
 |false=>K false
theorem Dp (b:Bool) (K:Bool→Prop):Adf b K↔K b:=by cases b<;>exact Iff.rfl
def Aay (env:Env):List (Nat×AO)→(List (Nat×AV)→Prop)→Prop
 |[],K=>K []
 |(j,x)::ps,K=>(x.val env).force fun v=>Aay env ps fun r=>K ((j,v)::r)
theorem U2 (env:Env):∀(ps:List (Nat×AO)) (K:List (Nat×AV)→Prop),Aay env ps K↔K (Qn env ps)
 |[],_=>Iff.rfl
 |(j,x)::ps,K=>by simp only[Aay,force_eq,Qn];exact U2 env ps _
def Gp (z:AV):Nat→List (Nat×AV)→Nat→(List AV→Prop)→Prop
 |0,_,_,K=>K []
 |n+1,[],i,K=>Gp z n [] (i+1) fun r=>K (z::r)
 |n+1,(j,v)::ps,i,K=>bif Nat.beq i j then Gp z n ps (i+1) fun r=>K (v::r)else Gp z n ((j,v)::ps) (i+1) fun r=>K (z::r)
theorem H8 (z:AV):∀(n:Nat) (ps:List (Nat×AV)) (i:Nat) (K:List AV→Prop),Gp z n ps i K↔K (BH z n ps i)
 |0,_,_,_=>by simp only[Gp,BH]
 |n+1,[],i,K=>by simp only[Gp,BH];exact H8 z n [] (i+1) _
 |n+1,(j,v)::ps,i,K=>by
  simp only[Gp,BH]
  cases Nat.beq i j
  ·exact H8 z n _ (i+1) _
  ·exact H8 z n _ (i+1) _
def Y6 (es:Nat) (v:AV) (s:Am) (K:List AV→Bool→Prop):Prop:=match v with
 | .sl _ xs=>K xs true
 | .zc=>K [] true
 |v=>LK (elemsOf s es v) fun r=>K r.1 r.2
theorem Wh {es:Nat} {v:AV} {s:Am} {K:List AV→Bool→Prop} (h:Y6 es v s K):∃ys c,elemsOf s es v=some (ys,c)∧K ys c:=by
 unfold Y6 at h
 split at h
 ·exact⟨_,_,rfl,h⟩
 ·exact⟨_,_,rfl,h⟩
 ·obtain⟨⟨ys,c⟩,h1,h2⟩:=h
  exact⟨ys,c,h1,h2⟩
def Agm (off j:Nat) (K:Nat→Prop):Prop:=match off with
 |0=>K j
 |n+1=>K (n+1+j)
theorem XC (off j:Nat) (K:Nat→Prop):Agm off j K↔K (off+j):=by
 cases off with
 |zero=>simp[Agm]
 |succ n=>exact Iff.rfl
structure SX (t:Nl) (k:AV) (ents:List (AV×AV)) (K:Option (Nat×AV)→Prop):Prop where
 mk::(h:∃r,findKey t k ents 0=some r∧K r)
def Adg (k v:AV) (ents:List (AV×AV)) (r:Option (Nat×AV)):List (AV×AV):=match r with
 |some (i,_)=>ents.set i (k,v)
 |none=>ents++[(k,v)]
structure Adh (t:Nl) (k v:AV) (ents:List (AV×AV)) (K:List (AV×AV)→Prop):Prop where
 mk::(h:∃r,findKey t k ents 0=some r∧K (Adg k v ents r))
def Wi (env:Env) (d:Nat) (x:Option AO) (K:Nat→Prop):Prop:=match x with
 |none=>K d
 |some x=>match x.val env with
  | .int _ n=>need (0≤n) (K n.toNat)
  |_=>False
def Ry (env:Env) (len:Nat) (lo hi:Option AO) (K:Nat→Nat→Prop):Prop:=
 Wi env len hi fun h=>Wi env 0 lo fun l=>need (l≤h∧h≤len) (K l h)
theorem Pj {env:Env} {d:Nat} {x:Option AO} {K:Nat→Prop} (h:Wi env d x K):∃n,(match x with|none=>some d|some x=>bound (x.val env))=some n∧K n:=by
 unfold Wi at h
 split at h
 ·exact⟨d,rfl,h⟩
 ·rename_i x
  split at h
  ·rename_i k n hv
   exact⟨n.toNat,by simp only[hv,bound,if_pos h.1],h.2⟩
  ·cases h
theorem JR {env:Env} {len:Nat} {lo hi:Option AO} {K:Nat→Nat→Prop} (h:Ry env len lo hi K):∃l u,bounds env len lo hi=some (l,u)∧K l u:=by
 obtain⟨u,h1,h2⟩:=Pj h
 obtain⟨l,h3,h4,h5⟩:=Pj h2
 refine⟨l,u,?_,h5⟩
 unfold bounds
 cases hi<;>cases lo<;>simp_all
def KG (AP:Nat→Option Ir) (o:CG) (env:Env) (s:Am) (K:AB→Am→Prop):Prop:=
 match o with
 | .mov x=>done (x.val env) s K
 | .JM es=>V9 s (fun o g=>.own o g 0 0) (fun g=>.arr g es false true []) K
 | .KP off e2 es cs=>match nth cs off with
   |some (.sl false [])=>need (0<e2) (V9 s (fun o g=>.own o g 0 0) (fun g=>.arr g e2 false true []) fun out s1=>match out with
        | .ok v=>V9 s1 (fun o g=>.ref o g 0 0) (fun g=>.arr g es true (AV.agg (cs.set off v)).closed [.agg (cs.set off v)]) K
        | .Dq _=>False)
   |_=>False
 | .pick c a b=>match c.val env with
   | .bool c=>Jz c (done (a.val env) s K) (done (b.val env) s K)
   |_=>False
 | .alloc es z=>V9 s (fun o g=>.ref o g 0 0) (fun g=>.arr g es true z.closed [z]) K
 | .box es x=>(x.val env).force fun v=>need ((v.storable&&v.cells.length==es)=true) (V9 s (fun o g=>.ref o g 0 0) (fun g=>.arr g es true v.closed [v]) K)
 | .build z parts=>LK (Et z (KO env parts)) fun cs=>K (.ok (.agg cs)) s
 | .load sz a=>match a.val env with
   | .CJ cs=>LK (loadCells cs sz) fun v=>done v s K
   | .ref o g i off=>match nth s.σ o with
     |some (.arr g' _ _ _ elems)=>need (g=g') (Ci elems i fun x=>LK (loadCells (x.cells.drop off) sz) fun v=>done v s K)
     |_=>False
   |_=>False
 | .store sz a x=>match a.val env with
   | .ref o g i off=>match nth s.σ o with
     |some (.arr g' es nn cl elems)=>need (g=g') (Ci elems i fun y=>(x.val env).force fun v=>need ((v.storable&&v.cells.length==sz&&off+sz≤es)=true)
       (Ajz cl v.closed fun cl'=>eqK (elems.set i (BF y off v)) fun es'=>SS s.σ o (.arr g' es nn cl' es') fun σ=>K (.ok .undef) ⟨σ,s.ctr⟩))
     |_=>False
   |_=>False
 | .Qv x=>match x.val env with
   | .ref o g i off=>K (.ok (.ref o g i off)) s
   | .CJ cs=>K (.ok (.CJ cs)) s
   | .fn f cs=>K (.ok (.fn f cs)) s
   |_=>False
 | .bin op t x y=>Ajy op t (x.val env) (y.val env) fun v=>K (.ok v) s
 | .un op x=>match op,x.val env with
   | .not,.bool b=>Jz b (K (.ok (.bool false)) s) (K (.ok (.bool true)) s)
   | .neg,.int k n=>Jk k (0-n) fun v=>K (.ok v) s
   |_,_=>False
 | .conv k x=>match x.val env with
   | .int _ n=>Jk k n fun v=>K (.ok v) s
   |_=>False
 | .field off sz x=>match x.val env with
   | .agg cs=>LK (loadCells (cs.drop off) sz) fun v=>done v s K
   |_=>False
 | .SY off x=>match x.val env with
   | .CJ cs=>K (.ok (.CJ (cs.drop off))) s
   | .ref o g i off'=>K (.ok (.ref o g i (off'+off))) s
   |_=>False
 | .S9 es x i=>match x.val env,i.val env with
   | .sl _ xs,.int _ i=>need (0≤i) (Ci xs i.toNat fun v=>need (v.cells.length=es) (K (.ok (.CJ v.cells)) s))
   | .own o g off len,.int _ i=>match nth s.σ o with
     |some (.arr g' es' _ _ _)=>need (g=g'∧es=es'∧0≤i∧i<len) (Agm off i.toNat fun j=>K (.ok (.ref o g j 0)) s)
     |_=>False
   |_,_=>False
 | .len k x=>match k,x.val env with
   | .slice,.sl _ xs=>eqK xs.length fun n=>K (.ok (.int .i64 n)) s
   | .slice,.own _ _ _ n=>K (.ok (.int .i64 n)) s
   | .str,.str bs=>K (.ok (.int .i64 bs.length)) s
   | .map,.map o g=>match nth s.σ o with
     |some (.mp g' _ ents)=>need (g=g') (K (.ok (.int .i64 ents.length)) s)
     |_=>False
   | .map,.fmap ents=>K (.ok (.int .i64 ents.length)) s
   |_,_=>Xz (.len k x) env s K
 | .Pm=>V9 s (fun o g=>.map o g) (fun g=>.mp g true []) K
 | .lookup t z Rz m k=>match m.val env with
   | .map o g=>match nth s.σ o with
     |some (.mp g' _ ents)=>need (g=g'∧JB t (k.val env)=true) (SX t (k.val env) ents fun r=>match r with
      |some (_,v)=>bif Rz then K (.ok (.BD [v,.bool true])) s else done v s K
      |none=>bif Rz then K (.ok (.BD [z,.bool false])) s else done z s K)
     |_=>False
   | .fmap ents=>need (JB t (k.val env)=true) (SX t (k.val env) ents fun r=>match r with
        |some (_,v)=>bif Rz then K (.ok (.BD [v,.bool true])) s else done v s K
        |none=>bif Rz then K (.ok (.BD [z,.bool false])) s else done z s K)
   |_=>Xz (.lookup t z Rz m k) env s K
 | .mapset t m k v=>match m.val env with
   | .map o g=>match nth s.σ o with
     |some (.mp g' cl ents)=>(v.val env).force fun vv=>need (g=g'∧JB t (k.val env)=true∧vv.storable=true)
       (Ajz cl vv.closed fun cl'=>Adh t (k.val env) vv ents fun Aaz=>SS s.σ o (.mp g' cl' Aaz) fun σ=>K (.ok .undef) ⟨σ,s.ctr⟩)
     |_=>False
   |_=>False
 | .delete t m k=>match m.val env with
   | .map o g=>match nth s.σ o with
     |some (.mp g' cl ents)=>need (g=g'∧JB t (k.val env)=true) (SX t (k.val env) ents fun r=>match r with
      |some (i,_)=>SS s.σ o (.mp g' cl (ents.eraseIdx i)) fun σ=>K (.ok .undef) ⟨σ,s.ctr⟩
      |none=>K (.ok .undef) s)
     |_=>False
   |_=>False
 | .lit own es z len parts=>Aay env parts fun ps=>need (Sr es len ps 0=true) (Gp z len ps 0 fun xs=>
    bif own then Adf (IL ps) fun c=>V9 s (fun o g=>.own o g 0 len) (fun g=>.arr g es true c xs) K
    else bif Nat.beq len 0 then K (.ok .zc) s else need (IL ps=true) (K (.ok (.sl true xs)) s))
 | .Y7 x i=>match x.val env,i.val env with
   | .str bs,.int _ i=>need (0≤i) (Ci bs i.toNat fun b=>K (.ok (.int .u8 b.toNat)) s)
   |_,_=>False
 | .slice es x lo hi=>match x.val env with
   | .sl nn xs=>Ry env xs.length lo hi fun l h=>need (Bc es xs) (eqK (sub xs l (h-l)) fun ys=>K (.ok (.sl nn ys)) s)
   | .own o g off len=>match nth s.σ o with
     |some (.arr g' es' _ _ _)=>need (g=g'∧es=es') (Ry env len lo hi fun l h=>Agm off l fun j=>K (.ok (.own o g j (h-l))) s)
     |_=>False
   |_=>Xz (.slice es x lo hi) env s K
 | .LW x lo hi=>match x.val env with
   | .str bs=>Ry env bs.length lo hi fun l h=>eqK ((bs.drop l).take (h-l)) fun r=>K (.ok (.str r)) s
   |_=>False
 | .append es bytes a x=>Y6 es (x.val env) s fun ys c=>match a.val env with
   | .own o g 0 len=>match nth s.σ o with
     |some (.arr g' es' nn cl' elems)=>IW g g' es es' len nn cl' c elems ys bytes fun n nn cl es'=>SS s.σ o (.arr s.ctr es nn cl es') fun σ=>K (.ok (.own o s.ctr 0 n)) ⟨σ,s.ctr+1⟩
     |_=>False
   |v=>LK (Eb es bytes s v ys c) fun r=>done r.1 r.2 K
 | .IQ es bytes z len cap=>match len.val env,cap.val env with
   | .int _ l,.int _ c=>need (0≤l∧l≤c∧roomy bytes c.toNat) (eqK (List.replicate l.toNat z) fun xs=>V9 s (fun o g=>.own o g 0 l.toNat) (fun g=>.arr g es true z.closed xs) K)
   |_,_=>False
 | .ext x i=>match x.val env with
   | .BD cs=>LK (nth cs i) fun v=>done v s K
   |_=>False
 | .call m f args=>Ade AP m f (vals env args) s K
 | .Ih m x args=>match x.val env with
   | .fn f caps=>Ade AP m f (vals env args++caps) s K
   |_=>False
 |o=>Xz o env s K
theorem AbH (C:AL):FT Adc C:=fun _ _ _ _ h=>by cases h
theorem CX (v:AV) (s:Am) (K:AB→Am→Prop):done v s K↔K (.ok v) s:=SQ v _
theorem JC {o:CG} {env:Env} {s:Am} {K:AB→Am→Prop} (h:Xz o env s K):Op1 AP o env s K:=by
 obtain⟨⟨out,s'⟩,h1,h2⟩:=h
 refine⟨0,out,s',Cc (AbH _) h1,?_⟩
 cases out with
 |ok v=>exact(CX v s' K).1 h2
 |Dq v=>exact h2
theorem QO {m:Mode} {f:Nat} {args:List AV} {s:Am} {K:AB→Am→Prop} (h:Ade AP m f args s K):∃N out s',Ba (run AP N) m f args s=some (out,s')∧K out s':=by
 cases m with
 |pure=>
  obtain⟨hc,v,⟨N,hp⟩,hk⟩:=h
  exact⟨N,.ok v,s,by simp only[Ba,if_pos hc,hp,Option.map_some],(CX v s K).1 hk⟩
 |borrow=>
  obtain⟨args',ha,v,⟨N,hp⟩,hs,hk⟩:=IV h
  exact⟨N,.ok v,s,by simp only[Ba,ha,hp,if_pos hs],(CX v s K).1 hk⟩
 |share=>
  obtain⟨N,out,s',hr,hk⟩:=h
  cases out with
  |ok r=>
   obtain⟨⟨r',s''⟩,h1,h2⟩:=hk
   exact⟨N,.ok r',s'',by simp only[Ba,hr,h1,Option.map_some],(CX r' s'' K).1 h2⟩
  |Dq v=>
   obtain⟨h1,h2⟩:=hk
   exact⟨N,.Dq v,_,by simp only[Ba,hr,if_pos h1],h2⟩
 |own=>
  obtain⟨N,r,s',h1,h2⟩:=h
  exact⟨N,.ok r,s',h1,(CX r s' K).1 h2⟩
 |keep=>
  obtain⟨N,out,s',hr,hk⟩:=h
  cases out with
  |ok r=>exact⟨N,.ok r,s',hr,(CX r s' K).1 hk⟩
  |Dq v=>exact⟨N,.Dq v,s',hr,hk⟩
theorem Ij {s:Am} {mk:Nat→Nat→AV} {ob:Nat→Obj} {K:AB→Am→Prop}:V9 s mk ob K↔K (.ok (mk s.σ.length s.ctr)) (push s (ob s.ctr)):=Qu _ _ _
theorem Ht {o:CG} {env:Env} {s:Am} {K:AB→Am→Prop} (h:KG AP o env s K):Op1 AP o env s K:=by
 cases o
 case mov x=>exact⟨0,_,_,rfl,(CX _ _ _).1 h⟩
 case JM es=>simp only[KG]at h;exact⟨0,_,_,rfl,Ij.1 h⟩
 case KP off e2 es cs=>
  simp only[KG]at h
  split at h
  case h_2=>cases h
  rename_i hoff
  obtain⟨he,h⟩:=h
  have h:=Ij.1 h
  have h:=Ij.1 h
  refine⟨0,_,_,?_,h⟩
  simp only[Ak,hoff,if_pos he]
  simp[push]
 case pick c a b=>
  simp only[KG]at h
  split at h
  ·rename_i c' hc
   cases c'
   ·exact⟨0,_,_,by simp only[Ak,hc],(CX _ _ _).1 h⟩
   ·exact⟨0,_,_,by simp only[Ak,hc],(CX _ _ _).1 h⟩
  ·cases h
 case alloc es z=>simp only[KG]at h;exact⟨0,_,_,rfl,Ij.1 h⟩
 case box es x=>
  simp only[KG,force_eq]at h
  obtain⟨h1,h2⟩:=h
  exact⟨0,_,_,by simp only[Ak,if_pos h1],Ij.1 h2⟩
 case build z ps=>
  obtain⟨cs,h1,h2⟩:=h
  exact⟨0,_,_,by simp only[Ak,h1,Option.map_some],h2⟩
 case load sz a=>
  simp only[KG]at h
  split at h
  ·rename_i cs hv
   obtain⟨v,h1,h2⟩:=h
   exact⟨0,_,_,by simp only[Ak,hv,ok,h1,Option.map_some],(CX _ _ _).1 h2⟩
  ·rename_i o g i off hv
   split at h
   ·rename_i g' es nn cl elems ho
    obtain⟨hg,x,hx,v,h1,h2⟩:=h
    exact⟨0,_,_,by simp only[Ak,hv,ho,if_pos hg,hx,ok,h1,Option.map_some],(CX _ _ _).1 h2⟩
   ·cases h
  ·cases h
 case store sz a x=>
  simp only[KG]at h
  split at h
  ·rename_i o g i off hv
   split at h
   ·rename_i g' es nn cl elems ho
    obtain⟨hg,y,hy,h⟩:=h
    rw[force_eq]at h
    obtain⟨h1,h2⟩:=h
    rw[XB]at h2
    obtain⟨es',rfl,h2⟩:=h2
    rw[FY]at h2
    exact⟨0,_,_,by simp only[Ak,hv,ho,if_pos hg,hy,h1,if_true],h2⟩
   ·cases h
  ·cases h
 case Qv x=>
  simp only[KG]at h
  split at h
  ·rename_i hv;exact⟨0,_,_,by simp only[Ak,hv],h⟩
  ·rename_i hv;exact⟨0,_,_,by simp only[Ak,hv],h⟩
  ·rename_i hv;exact⟨0,_,_,by simp only[Ak,hv],h⟩
  ·cases h
 case bin op t x y=>
  obtain⟨v,h1,h2⟩:=Y4 h
  exact⟨0,_,_,by simp only[Ak,ok,h1,Option.map_some],h2⟩
 case un op x=>
  simp only[KG]at h
  split at h
  ·rename_i b hv
   cases b
   ·exact⟨0,_,_,by simp only[Ak,hv,Bool.not_false],h⟩
   ·exact⟨0,_,_,by simp only[Ak,hv,Bool.not_true],h⟩
  ·rename_i k n hv
   obtain⟨y,h1,h2⟩:=h
   exact⟨0,_,_,by simp only[Ak,hv,h1],h2⟩
  ·cases h
 case conv k x=>
  simp only[KG]at h
  split at h
  ·rename_i k' n hv
   obtain⟨y,h1,h2⟩:=h
   exact⟨0,_,_,by simp only[Ak,hv,h1],h2⟩
  ·cases h
 case field off sz x=>
  simp only[KG]at h
  split at h
  ·rename_i cs hv
   obtain⟨v,h1,h2⟩:=h
   exact⟨0,_,_,by simp only[Ak,hv,ok,h1,Option.map_some],(CX _ _ _).1 h2⟩
  ·cases h
 case SY off x=>
  simp only[KG]at h
  split at h
  ·rename_i hv;exact⟨0,_,_,by simp only[Ak,hv],h⟩
  ·rename_i hv;exact⟨0,_,_,by simp only[Ak,hv],h⟩
  ·cases h
 case S9 es x i=>
  simp only[KG]at h
  split at h
  ·rename_i nn xs k n hx hi
   obtain⟨h0,v,h1,h2,h3⟩:=h
   exact⟨0,_,_,by simp only[Ak,hx,hi,if_pos h0,h1,if_pos h2],h3⟩
  ·rename_i o g off len k n hx hi
   split at h
   ·rename_i g' es' nn cl elems ho
    obtain⟨h1,h2⟩:=h
    rw[XC]at h2
    exact⟨0,_,_,by simp only[Ak,hx,hi,ho,if_pos h1],h2⟩
   ·cases h
  ·cases h
 case len k x=>
  simp only[KG]at h
  split at h
  ·rename_i hv
   obtain⟨n,rfl,h⟩:=h
   exact⟨0,_,_,by simp only[Ak,hv],h⟩
  ·rename_i hv;exact⟨0,_,_,by simp only[Ak,hv],h⟩
  ·rename_i hv;exact⟨0,_,_,by simp only[Ak,hv],h⟩
  ·rename_i o g hv
   split at h
   ·rename_i g' cl ents ho
    obtain⟨h1,h2⟩:=h
    exact⟨0,_,_,by simp only[Ak,hv,ho,if_pos h1],h2⟩
   ·cases h
  ·rename_i hv;exact⟨0,_,_,by simp only[Ak,hv],h⟩
  ·exact JC h
 case Y7 x i=>
  simp only[KG]at h
  split at h
  ·rename_i bs k n hx hi
   obtain⟨h1,b,h2,h3⟩:=h
   exact⟨0,_,_,by simp only[Ak,hx,hi,if_pos h1,h2],h3⟩
  ·cases h
 case slice es x lo hi=>
  simp only[KG]at h
  split at h
  ·rename_i nn xs hx
   obtain⟨l,u,h1,h2,ys,rfl,h3⟩:=JR h
   exact⟨0,_,_,by simp only[Ak,hx,h1,if_pos h2],h3⟩
  ·rename_i o g off len hx
   split at h
   ·rename_i g' es' nn cl elems ho
    obtain⟨hg,h⟩:=h
    obtain⟨l,u,h1,h2⟩:=JR h
    rw[XC]at h2
    exact⟨0,_,_,by simp only[Ak,hx,ho,if_pos hg,h1],h2⟩
   ·cases h
  ·exact JC h
 case LW x lo hi=>
  simp only[KG]at h
  split at h
  ·rename_i bs hx
   obtain⟨l,u,h1,r,rfl,h2⟩:=JR h
   exact⟨0,_,_,by simp only[Ak,hx,h1],h2⟩
  ·cases h
 case Pm=>simp only[KG]at h;exact⟨0,_,_,rfl,Ij.1 h⟩
 case lookup t z Rz m k=>
  simp only[KG]at h
  split at h
  ·rename_i o g hv
   split at h
   ·rename_i g' cl ents ho
    obtain⟨h1,r,h2,h3⟩:=h
    cases r with
    |none=>
     cases Rz
     ·exact⟨0,_,_,by simp only[Ak,hv,ho,if_pos h1,h2];rfl,(CX _ _ _).1 h3⟩
     ·exact⟨0,_,_,by simp only[Ak,hv,ho,if_pos h1,h2];rfl,h3⟩
    |some p=>
     cases Rz
     ·exact⟨0,_,_,by simp only[Ak,hv,ho,if_pos h1,h2];rfl,(CX _ _ _).1 h3⟩
     ·exact⟨0,_,_,by simp only[Ak,hv,ho,if_pos h1,h2];rfl,h3⟩
   ·cases h
  ·rename_i ents hv
   obtain⟨h1,r,h2,h3⟩:=h
   cases r with
   |none=>
    cases Rz
    ·exact⟨0,_,_,by simp only[Ak,hv,if_pos h1,h2];rfl,(CX _ _ _).1 h3⟩
    ·exact⟨0,_,_,by simp only[Ak,hv,if_pos h1,h2];rfl,h3⟩
   |some p=>
    cases Rz
    ·exact⟨0,_,_,by simp only[Ak,hv,if_pos h1,h2];rfl,(CX _ _ _).1 h3⟩
    ·exact⟨0,_,_,by simp only[Ak,hv,if_pos h1,h2];rfl,h3⟩
  ·exact JC h
 case mapset t m k v=>
  simp only[KG]at h
  split at h
  ·rename_i o g hv
   split at h
   ·rename_i g' cl ents ho
    rw[force_eq]at h
    obtain⟨h1,h2⟩:=h
    rw[XB]at h2
    obtain⟨r,h2,h3⟩:=h2
    rw[FY]at h3
    cases r with
    |none=>exact⟨0,_,_,by simp only[Ak,hv,ho,if_pos h1,h2];rfl,h3⟩
    |some p=>exact⟨0,_,_,by simp only[Ak,hv,ho,if_pos h1,h2];rfl,h3⟩
   ·cases h
  ·cases h
 case delete t m k=>
  simp only[KG]at h
  split at h
  ·rename_i o g hv
   split at h
   ·rename_i g' cl ents ho
    obtain⟨h1,r,h2,h3⟩:=h
    cases r with
    |none=>exact⟨0,_,_,by simp only[Ak,hv,ho,if_pos h1,h2],h3⟩
    |some p=>
     simp only at h3
     rw[FY]at h3
     exact⟨0,_,_,by simp only[Ak,hv,ho,if_pos h1,h2],h3⟩
   ·cases h
  ·cases h
 case lit own es z len parts=>
  simp only[KG,U2]at h
  obtain⟨h1,h2⟩:=h
  rw[H8]at h2
  cases own
  ·rw[cond_false]at h2
   cases hb:Nat.beq len 0
   ·rw[hb,cond_false]at h2
    have hne:len≠0:=fun e=>by subst e;simp at hb
    exact⟨0,_,_,by simp only[Ak,if_pos h1,if_neg hne,if_pos h2.1];rfl,h2.2⟩
   ·rw[hb,cond_true]at h2
    have he:len=0:=Nat.eq_of_beq_eq_true hb
    exact⟨0,_,_,by simp only[Ak,if_pos h1,if_pos he];rfl,h2⟩
  ·rw[cond_true,Dp]at h2
   exact⟨0,_,_,by simp only[Ak,if_pos h1,if_true],Ij.1 h2⟩
 case append es bytes a x=>
  simp only[KG]at h
  obtain⟨ys,cl,h1,h⟩:=Wh h
  split at h
  ·rename_i o g len hv
   split at h
   ·rename_i g' es' nn cl' elems ho
    obtain⟨h2,h3⟩:=h
    rw[FY]at h3
    exact⟨0,_,_,by simp only[Ak,h1,hv,Eb,ho,if_pos h2,Option.map_some],h3⟩
   ·cases h
  ·obtain⟨⟨v,s'⟩,h2,h3⟩:=h
   exact⟨0,_,_,by simp only[Ak,h1,h2,Option.map_some],(CX _ _ _).1 h3⟩
 case IQ es bytes z len cap=>
  simp only[KG]at h
  split at h
  ·rename_i k l k' c hl hc
   obtain⟨h1,xs,rfl,h2⟩:=h
   exact⟨0,_,_,by simp only[Ak,hl,hc,if_pos h1],Ij.1 h2⟩
  ·cases h
 case ext x i=>
  simp only[KG]at h
  split at h
  ·rename_i cs hv
   obtain⟨v,h1,h2⟩:=h
   exact⟨0,_,_,by simp only[Ak,hv,ok,h1,Option.map_some],(CX _ _ _).1 h2⟩
  ·cases h
 case call m f args=>exact QO h
 case Ih m x args=>
  simp only[KG]at h
  split at h
  ·rename_i f caps hv
   obtain⟨N,out,s',h1,h2⟩:=QO h
   exact⟨N,out,s',by simp only[Ak,hv];exact h1,h2⟩
  ·cases h
 all_goals exact JC h
end AI
end Go.Proofs.YtjijnamhalgamaaGreatDoor
namespace Go.Proofs.YtjijnamhalgamaaGreatDoor
namespace AI
open Go.RowKit
variable {AP:Nat→Option Ir}
def F7 (g:Option (Nat×Bool)) (env:Env) (t e:Prop):Prop:=match g with
 |none=>t
 |some (r,b)=>match env.get r with
  | .bool b'=>Jz (b'==b) t e
  | .undef=>e
  |_=>False
def Adi (k:Env→Am→Prop) (d:Option Nat) (env:Env) (Q:AQ→Env→Am→Prop) (out:AB) (s:Am):Prop:=match out with
 | .ok v=>k (put d v env) s
 | .Dq v=>Q (.Dq v) env s
def XD (AP:Nat→Option Ir) (ops:List AX):Env→Am→(AQ→Env→Am→Prop)→Prop:=
 List.rec (motive:=fun _=>Env→Am→(AQ→Env→Am→Prop)→Prop) (fun env s Q=>Q .normal env s)
    (fun o _ ih env s Q=>F7 o.guard env (KG AP o.op env s (Adi (fun env s=>ih env s Q) o.dst env Q)) (ih (put o.dst .undef env) s Q)) ops
theorem AbI (o:AX) (os:List AX) (env:Env) (s:Am) (Q:AQ→Env→Am→Prop):XD AP (o::os) env s Q=F7 o.guard env
 (KG AP o.op env s (Adi (fun env s=>XD AP os env s Q) o.dst env Q))
 (XD AP os (put o.dst .undef env) s Q):=rfl
theorem KW:∀{os:List AX} {env:Env} {s:Am} {Q:AQ→Env→Am→Prop},XD AP os env s Q→Ops AP os env s Q
 |[],env,s,Q,h=>⟨0,_,_,_,rfl,h⟩
 |o::os,env,s,Q,h=>by
  have L6:wanted o.guard env=some false→XD AP os (put o.dst .undef env) s Q→Ops AP (o::os) env s Q:=by
   intro hw h
   obtain⟨N,e,env',s',h1,h2⟩:=KW h
   exact⟨N,e,env',s',by simp only[EH,hw];exact h1,h2⟩
  have hdo:wanted o.guard env=some true→KG AP o.op env s (Adi (fun env s=>XD AP os env s Q) o.dst env Q)→Ops AP (o::os) env s Q:=by
   intro hw h
   obtain⟨N,out,s1,h1,h2⟩:=Ht h
   cases out with
   |ok v=>
    obtain⟨N',e,env',s',h3,h4⟩:=KW h2
    refine⟨max N N',e,env',s',?_,h4⟩
    simp only[EH,hw,Cc (Bj (Nat.le_max_left N N')) h1]
    exact E8 (Bj (Nat.le_max_right N N')) h3
   |Dq v=>exact⟨N,_,_,_,by simp only[EH,hw,h1],h2⟩
  rw[AbI]at h
  unfold F7 at h
  split at h
  ·rename_i hg
   exact hdo (by rw[hg];rfl) h
  ·rename_i r b hg
   split at h
   ·rename_i b' hb
    cases hbb:(b'==b)
    ·rw[hbb]at h
     exact L6 (by rw[hg];simp only[wanted,hb,hbb]) h
    ·rw[hbb]at h
     exact hdo (by rw[hg];simp only[wanted,hb,hbb]) h
   ·rename_i hb
    exact L6 (by rw[hg];simp only[wanted,hb]) h
   ·cases h
def KX:List Nat→Env→(Env→Prop)→Prop
 |[],_,K=>K []
 |t::ts,env,K=>(env.get t).force fun v=>KX ts env fun e=>K ((t,v)::e)
theorem Em:∀(ts:List Nat) (env:Env) (K:Env→Prop),KX ts env K↔K (commit env ts)
 |[],_,_=>Iff.rfl
 |t::ts,env,K=>by
  simp only[KX,force_eq,commit]
  exact Em ts env _
def UD:List Nat→Env→Am→(Env→Am→Prop)→Prop
 |[],env,s,K=>K env s
 |t::ts,env,s,K=>match env.get t with
  | .own o g off len=>match nth s.σ o with
    |some (.arr g' _ nn cl elems)=>need (g=g'∧cl=true∧off+len≤elems.length) (eqK (sub elems off len) fun xs=>SS s.σ o .dead fun σ=>UD ts ((t,.sl nn xs)::env) ⟨σ,s.ctr⟩ K)
    |_=>False
  | .ref o g i off=>match nth s.σ o with
    |some (.arr g' _ nn cl elems)=>need (g=g'∧cl=true) (Ci elems i fun x=>SS s.σ o .dead fun σ=>UD ts ((t,.CJ (x.cells.drop off))::env) ⟨σ,s.ctr⟩ K)
    |_=>False
  | .map o g=>match nth s.σ o with
    |some (.mp g' cl ents)=>need (g=g'∧cl=true∧XE ents=true) (SS s.σ o .dead fun σ=>UD ts ((t,.fmap ents)::env) ⟨σ,s.ctr⟩ K)
    |_=>False
  | .sl nn xs=>UD ts ((t,.sl nn xs)::env) s K
  | .zc=>UD ts ((t,.zc)::env) s K
  |_=>False
theorem Fa:∀{ts:List Nat} {env:Env} {s:Am} {K:Env→Am→Prop},UD ts env s K→∃env' s',Ik ts env s=some (env',s')∧K env' s'
 |[],env,s,K,h=>⟨env,s,rfl,h⟩
 |t::ts,env,s,K,h=>by
  simp only[UD]at h
  split at h
  ·rename_i o g off len hv
   split at h
   ·rename_i g' es nn cl elems ho
    obtain⟨⟨rfl,rfl,hf⟩,xs,rfl,h⟩:=h
    rw[FY]at h
    obtain⟨env',s',h1,h2⟩:=Fa h
    exact⟨env',s',by simp only[Ik,hv,ho,true_and,if_pos hf];exact h1,h2⟩
   ·cases h
  ·rename_i o g i off hv
   split at h
   ·rename_i g' es nn cl elems ho
    obtain⟨⟨rfl,rfl⟩,⟨x,hx,h⟩⟩:=h
    rw[FY]at h
    obtain⟨env',s',h1,h2⟩:=Fa h
    exact⟨env',s',by simp only[Ik,hv,ho,if_pos,hx];exact h1,h2⟩
   ·cases h
  ·rename_i o g hv
   split at h
   ·rename_i g' cl ents ho
    obtain⟨⟨rfl,rfl,hk⟩,h⟩:=h
    rw[FY]at h
    obtain⟨env',s',h1,h2⟩:=Fa h
    exact⟨env',s',by simp only[Ik,hv,ho,true_and,if_pos hk];exact h1,h2⟩
   ·cases h
  ·rename_i nn xs hv
   obtain⟨env',s',h1,h2⟩:=Fa h
   exact⟨env',s',by simp only[Ik,hv];exact h1,h2⟩
  ·rename_i hv
   obtain⟨env',s',h1,h2⟩:=Fa h
   exact⟨env',s',by simp only[Ik,hv];exact h1,h2⟩
  ·cases h
def U3 {α:Type}:Nat→List α→(List α→Prop)→Prop
 |0,_,K=>K []
 |_+1,[],K=>K []
 |n+1,x::xs,K=>U3 n xs fun ys=>K (x::ys)
theorem Qw {α:Type}:∀(n:Nat) (l:List α) (K:List α→Prop),U3 n l K↔K (l.take n)
 |0,_,_=>by simp[U3]
 |_+1,[],_=>by simp[U3]
 |n+1,x::xs,K=>Qw n xs fun ys=>K (x::ys)
def Adj (tr:Option Nat) (s:Am) (K:Am→Prop):Prop:=match tr with
 |none=>K s
 |some k=>U3 (kept k s.σ.length) s.σ fun σ=>K ⟨σ,s.ctr⟩
theorem Ox (tr:Option Nat) (s:Am) (K:Am→Prop):Adj tr s K↔K (truncate tr s):=by
 cases tr with
 |none=>exact Iff.rfl
 |some k=>exact Qw _ s.σ _
def Adk (live:List Nat) (tr:Option Nat) (Q:AQ→Env→Am→Prop) (e:AQ) (env:Env) (s:Am):Prop:=match e with
 | .normal=>KX live env fun env=>Adj tr s fun s=>Q .normal env s
 |e=>Q e env s
def UE (k:Env→Am→Prop) (Q:AQ→Env→Am→Prop) (e:AQ) (env:Env) (s:Am):Prop:=match e with
 | .normal=>k env s
 |e=>Q e env s
def Agn (id:Nat) (Q:AQ→Env→Am→Prop) (e:AQ) (env:Env) (s:Am):Prop:=match e with
 | .exit j=>Jz (Nat.beq j id) (Q .normal env s) (Q (.exit j) env s)
 |e=>Q e env s
def Wj (AP:Nat→Option Ir) (o:CG) (r g:Nat) (env:Env) (s:Am) (K:AV→Option (Nat×Obj)→Nat→Prop):Prop:=
 KG AP o env s fun out s'=>match out with
    | .Dq _=>False
    | .ok v=>match o.cls with
      |some .e=>K v none 0
      |some .r=>K v none 0
      |some .w=>match o.writes r env with
       |[t]=>match nth s'.σ t with
        |some ob=>K v (some (t,ob)) 0
        |none=>False
       |_=>False
      |some .a=>match nth s'.σ v.idx with
       |some ob=>bif Nat.blt v.idx s.σ.length then K (v.moved v.idx g) (some (v.idx,ob.QS g)) 1
        else match nth s.σ r with
           |some .dead=>K (v.moved r g) (some (r,ob.QS g)) 1
           |_=>False
       |none=>False
      |none=>False
theorem Wn {o:CG} {r g:Nat} {env:Env} {s:Am} {K:AV→Option (Nat×Obj)→Nat→Prop} (h:Wj AP o r g env s K):∃N v u b,Jl (run AP N) o r g env s=some (v,u,b)∧K v u b:=by
 obtain⟨N,out,s',h1,h2⟩:=Ht h
 cases out with
 |Dq v=>cases h2
 |ok v=>
  simp only at h2
  split at h2
  ·rename_i hc;exact⟨N,_,_,_,by simp only[Jl,hc,h1],h2⟩
  ·rename_i hc;exact⟨N,_,_,_,by simp only[Jl,hc,h1],h2⟩
  ·rename_i hc
   split at h2
   ·rename_i t ht
    split at h2
    ·rename_i ob hob;exact⟨N,_,_,_,by simp only[Jl,hc,h1,ht,hob],h2⟩
    ·cases h2
   ·cases h2
  ·rename_i hc
   split at h2
   ·rename_i ob hob
    cases hb:Nat.blt v.idx s.σ.length
    ·rw[hb,cond_false]at h2
     have hlt:¬v.idx<s.σ.length:=fun hlt=>by
      have:=(show (Nat.blt v.idx s.σ.length=true) from Nat.blt_eq▸hlt)
      rw[hb]at this;cases this
     split at h2
     ·rename_i hd
      exact⟨N,_,_,_,by simp only[Jl,hc,h1,hob,if_neg hlt,hd],h2⟩
     ·cases h2
    ·rw[hb,cond_true]at h2
     exact⟨N,_,_,_,by simp only[Jl,hc,h1,hob,if_pos (show v.idx<s.σ.length from Nat.blt_eq▸hb)],h2⟩
   ·cases h2
  ·cases h2
def Nr (u:Option (Nat×Obj)) (b:Nat) (s:Am) (K:Am→Prop):Prop:=match u with
 |some (t,ob)=>SS s.σ t ob fun σ=>K ⟨σ,s.ctr+b⟩
 |none=>K ⟨s.σ,s.ctr+b⟩
theorem QT (u:Option (Nat×Obj)) (b:Nat) (s:Am) (K:Am→Prop):Nr u b s K↔K (Fb u b s):=by
 unfold Nr Fb
 split
 ·exact FY _ _ _ _
 ·exact Iff.rfl
def Y8 (AP:Nat→Option Ir) (ops:List AX):Nat→Nat→Env→Am→(List Eff→Prop)→Prop:=
 List.rec (motive:=fun _=>Nat→Nat→Env→Am→(List Eff→Prop)→Prop) (fun _ _ _ _ K=>K [])
    (fun o _ ih r g env s K=>F7 o.guard env
      (Wj AP o.op r g env s fun v u b=>Nr u b s fun s'=>ih (r+rank o.op) (g+1) (put o.dst v env) s' fun es=>K (⟨o.dst,v,o.op.reads r env,o.op.writes r env,u,b⟩::es))
      (ih (r+rank o.op) (g+1) (put o.dst .undef env) s fun es=>K (⟨o.dst,.undef,[],[],none,0⟩::es))) ops
theorem AbJ (o:AX) (os:List AX) (r g:Nat) (env:Env) (s:Am) (K:List Eff→Prop):Y8 AP (o::os) r g env s K=F7 o.guard env
 (Wj AP o.op r g env s fun v u b=>Nr u b s fun s'=>Y8 AP os (r+rank o.op) (g+1) (put o.dst v env) s' fun es=>K (⟨o.dst,v,o.op.reads r env,o.op.writes r env,u,b⟩::es))
 (Y8 AP os (r+rank o.op) (g+1) (put o.dst .undef env) s fun es=>K (⟨o.dst,.undef,[],[],none,0⟩::es)):=rfl
theorem Oy:∀{os:List AX} {r g:Nat} {env:Env} {s:Am} {K:List Eff→Prop},Y8 AP os r g env s K→∃N es,IB (run AP N) os r g env s=some es∧K es
 |[],r,g,env,s,K,h=>⟨0,_,rfl,h⟩
 |o::os,r,g,env,s,K,h=>by
  have L6:wanted o.guard env=some false→(Y8 AP os (r+rank o.op) (g+1) (put o.dst .undef env) s fun es=>K (⟨o.dst,.undef,[],[],none,0⟩::es))→∃N es,IB (run AP N) (o::os) r g env s=some es∧K es:=by
   intro hw h
   obtain⟨N,es,h1,h2⟩:=Oy h
   exact⟨N,_,by simp only[IB,hw,h1],h2⟩
  have hdo:wanted o.guard env=some true→(Wj AP o.op r g env s fun v u b=>Nr u b s fun s'=>Y8 AP os (r+rank o.op) (g+1) (put o.dst v env) s' fun es=>K (⟨o.dst,v,o.op.reads r env,o.op.writes r env,u,b⟩::es))→∃N es,IB (run AP N) (o::os) r g env s=some es∧K es:=by
   intro hw h
   obtain⟨N,v,u,b,h1,h2⟩:=Wn h
   rw[QT]at h2
   obtain⟨N',es,h3,h4⟩:=Oy h2
   refine⟨max N N',_,?_,h4⟩
   simp only[IB,hw,Tc (Bj (Nat.le_max_left N N')) h1,Jm (Bj (AP:=AP) (Nat.le_max_right N N')) h3]
  rw[AbJ]at h
  unfold F7 at h
  split at h
  ·rename_i hg
   exact hdo (by rw[hg];rfl) h
  ·rename_i r' b hg
   split at h
   ·rename_i b' hb
    cases hbb:(b'==b)
    ·rw[hbb]at h
     exact L6 (by rw[hg];simp only[wanted,hb,hbb]) h
    ·rw[hbb]at h
     exact hdo (by rw[hg];simp only[wanted,hb,hbb]) h
   ·rename_i hb
    exact L6 (by rw[hg];simp only[wanted,hb]) h
   ·cases h
def Adl {α:Type}:List α→List α→(List α→Prop)→Prop
 |[],ys,K=>K ys
 |x::xs,ys,K=>Adl xs ys fun r=>K (x::r)
theorem U4 {α:Type}:∀(xs ys:List α) (K:List α→Prop),Adl xs ys K↔K (xs++ys)
 |[],_,_=>Iff.rfl
 |x::xs,ys,K=>U4 xs ys _
def RD:List Eff→Am→(Am→Prop)→Prop
 |[],s,K=>K s
 |e::es,s,K=>Nr e.upd e.bump s fun s=>RD es s K
theorem QU:∀(es:List Eff) (s:Am) (K:Am→Prop),RD es s K↔K (L8 es s)
 |[],_,_=>Iff.rfl
 |e::es,s,K=>by rw[RD,QT,L8];exact QU es _ K
def AjB (n:Nat) (σ:List Obj) (K:List Obj→Prop):Prop:=match n with
 |0=>K σ
 |n+1=>Adl σ (List.replicate (n+1) .dead) K
theorem Adm (n:Nat) (σ:List Obj) (K:List Obj→Prop):AjB n σ K↔K (σ++List.replicate n .dead):=by
 cases n with
 |zero=>simp[AjB]
 |succ n=>exact U4 _ _ _
def XF {α:Type}:Nat→List α→(List α→Prop)→Prop
 |0,xs,K=>K xs
 |_+1,[],K=>K []
 |n+1,_::xs,K=>XF n xs K
theorem U5 {α:Type}:∀(n:Nat) (l:List α) (K:List α→Prop),XF n l K↔K (l.drop n)
 |0,_,_=>by simp[XF]
 |_+1,[],_=>by simp[XF]
 |n+1,_::xs,K=>U5 n xs K
def Adn (AP:Nat→Option Ir) (m:Nat) (un:List (Nat×Nat)) (ops:List AX) (env:Env) (s:Am) (K:Env→Am→Prop):Prop:=
 U3 m ops fun hd=>AjB (ranks hd) s.σ fun σ=>Y8 AP hd s.σ.length s.ctr env ⟨σ,s.ctr+m⟩ fun es=>
    need (Kq es un=true) (RD es ⟨σ,s.ctr+m⟩ fun s1=>K (Oz es env) s1)
theorem XG {m:Nat} {un:List (Nat×Nat)} {ops:List AX} {env:Env} {s:Am} {K:Env→Am→Prop} (h:Adn AP m un ops env s K):∃N CY s1,L9 (run AP N) m un ops env s=some (CY,s1)∧K CY s1:=by
 unfold Adn at h
 rw[Qw,Adm]at h
 obtain⟨N,es,h1,h2,h3⟩:=Oy h
 rw[QU]at h3
 exact⟨N,_,_,by simp only[L9,h1,if_pos h2],h3⟩
def Ado (AP:Nat→Option Ir) (op:CG) (env:Env) (v:AV):List Am→Prop→Prop
 |[],T=>T
 |S::r,T=>KG AP op env S fun out _=>match out with
  | .ok u=>need (H9 u v=true) (Ado AP op env v r T)
  | .Dq _=>False
def Adp (AP:Nat→Option Ir) (S:Am):List (CG×Env×AV)→Prop→Prop
 |[],T=>T
 |(op,env,v)::r,T=>KG AP op env S fun out _=>match out with
  | .ok u=>need (H9 u v=true) (Adp AP S r T)
  | .Dq _=>False
theorem QV {op:CG} {env:Env} {v:AV}:∀{past:List Am} {T:Prop},Ado AP op env v past T→(∃ N,KY (run AP N) op env v past=true)∧T
 |[],T,h=>⟨⟨0,rfl⟩,h⟩
 |S::r,T,h=>by
  obtain⟨N,out,s',h1,h2⟩:=Ht h
  cases out with
  |Dq u=>exact h2.elim
  |ok u=>
   obtain⟨h3,h4⟩:=h2
   obtain⟨⟨N',h5⟩,h6⟩:=QV h4
   refine⟨⟨max N N',?_⟩,h6⟩
   simp only[KY,Cc (Bj (Nat.le_max_left N N')) h1,h3,JD (Bj (Nat.le_max_right N N')) h5,Bool.and_self]
theorem QW {S:Am}:∀{pend:List (CG×Env×AV)} {T:Prop},Adp AP S pend T→(∃ N,KZ (run AP N) S pend=true)∧T
 |[],T,h=>⟨⟨0,rfl⟩,h⟩
 |(op,env,v)::r,T,h=>by
  obtain⟨N,out,s',h1,h2⟩:=Ht h
  cases out with
  |Dq u=>exact h2.elim
  |ok u=>
   obtain⟨h3,h4⟩:=h2
   obtain⟨⟨N',h5⟩,h6⟩:=QW h4
   refine⟨⟨max N N',?_⟩,h6⟩
   simp only[KZ,Cc (Bj (Nat.le_max_left N N')) h1,h3,JE (Bj (Nat.le_max_right N N')) h5,Bool.and_self]
def Mc (AP:Nat→Option Ir) (E:List Nat) (ops:List AX):Nat→Env→Am→Prop→Prop:=
 List.rec (motive:=fun _=>Nat→Env→Am→Prop→Prop) (fun _ _ _ T=>T)
    (fun o _ ih i env s T=>bif DN i E then F7 o.guard env
      (KG AP o.op env s fun out _=>match out with
        | .ok v=>bif flt o then ih (i+1) (put o.dst v env) s T else False
        | .Dq _=>False)
      (ih (i+1) (put o.dst .undef env) s T)
      else ih (i+1) env s T) ops
theorem XH (E:List Nat) (o:AX) (os:List AX) (i:Nat) (env:Env) (s:Am) (T:Prop):Mc AP E (o::os) i env s T=bif DN i E then F7 o.guard env
        (KG AP o.op env s fun out _=>match out with
          | .ok v=>bif flt o then Mc AP E os (i+1) (put o.dst v env) s T else False
          | .Dq _=>False)
        (Mc AP E os (i+1) (put o.dst .undef env) s T)
 else Mc AP E os (i+1) env s T:=rfl
theorem IY {E:List Nat}:∀{os:List AX} {i:Nat} {env:Env} {s:Am} {T:Prop},Mc AP E os i env s T→(∃ N,Eu (run AP N) E os i env s=true)∧T
 |[],i,env,s,T,h=>⟨⟨0,rfl⟩,h⟩
 |o::os,i,env,s,T,h=>by
  rw[XH]at h
  cases hm:DN i E with
  |false=>
   rw[hm,cond_false]at h
   obtain⟨⟨N,h1⟩,h2⟩:=IY h
   exact⟨⟨N,by simp only[Eu,hm,Bool.false_eq_true,if_false];exact h1⟩,h2⟩
  |true=>
   rw[hm,cond_true]at h
   have L6:wanted o.guard env=some false→Mc AP E os (i+1) (put o.dst .undef env) s T→(∃ N,Eu (run AP N) E (o::os) i env s=true)∧T:=by
        intro hw h
        obtain⟨⟨N,h1⟩,h2⟩:=IY h
        exact⟨⟨N,by simp only[Eu,hm,if_true,hw];exact h1⟩,h2⟩
   have hdo:wanted o.guard env=some true→(KG AP o.op env s fun out _=>match out with
    | .ok v=>bif flt o then Mc AP E os (i+1) (put o.dst v env) s T else False
    | .Dq _=>False)→(∃ N,Eu (run AP N) E (o::os) i env s=true)∧T:=by
        intro hw h
        obtain⟨N,out,s1,h1,h2⟩:=Ht h
        cases out with
        |Dq v=>exact h2.elim
        |ok v=>
         dsimp only at h2
         cases hf:flt o with
         |false=>rw[hf]at h2;exact h2.elim
         |true=>
          rw[hf,cond_true]at h2
          obtain⟨⟨N',h3⟩,h4⟩:=IY h2
          refine⟨⟨max N N',?_⟩,h4⟩
          simp only[Eu,hm,if_true,hw,Cc (Bj (AP:=AP) (Nat.le_max_left N N')) h1,hf,FD (Bj (AP:=AP) (Nat.le_max_right N N')) h3,Bool.and_self]
   unfold F7 at h
   split at h
   ·rename_i hg
    exact hdo (by rw[hg];rfl) h
   ·rename_i r b hg
    split at h
    ·rename_i b' hb
     cases hbb:(b'==b)
     ·rw[hbb]at h
      exact L6 (by rw[hg];simp only[wanted,hb,hbb]) h
     ·rw[hbb]at h
      exact hdo (by rw[hg];simp only[wanted,hb,hbb]) h
    ·rename_i hb
     exact L6 (by rw[hg];simp only[wanted,hb]) h
    ·cases h
def XI (AP:Nat→Option Ir) (m:Nat) (W pc:List Nat) (o:AX) (os:List AX) (i:Nat) (k:Env→Am→List (CG×Env×AV)→List Am→Prop) (Q:AQ→Env→Am→Prop) (env:Env) (s:Am) (pend:List (CG×Env×AV)) (past:List Am) (out:AB) (s1:Am):Prop:=match out with
 | .Dq v=>match pc with
   |p::E=>bif Nat.beq i p&&!(DN i W||(flt o||Nat.blt i m))then Mc AP E os (i+1) env s (Q (.Dq v) [] s1)else False
   |[]=>False
 | .ok v=>bif DN i W then bif o.op.FQ then Ado AP o.op env v past (k (put o.dst v env) s ((o.op,env,v)::pend) past)else False
   else bif flt o||Nat.blt i m then k (put o.dst v env) s pend past
   else Adp AP s1 pend (k (put o.dst v env) s1 pend (s::past))
def Y9 (AP:Nat→Option Ir) (m:Nat) (W pc:List Nat) (ops:List AX):Nat→Env→Am→List (CG×Env×AV)→List Am→(AQ→Env→Am→Prop)→Prop:=
 List.rec (motive:=fun _=>Nat→Env→Am→List (CG×Env×AV)→List Am→(AQ→Env→Am→Prop)→Prop) (fun _ env s _ _ K=>K .normal env s)
    (fun o os ih i env s pend past K=>F7 o.guard env (KG AP o.op env s (XI AP m W pc o os i (fun env s pend past=>ih (i+1) env s pend past K) K env s pend past))
      (ih (i+1) (put o.dst .undef env) s pend past K)) ops
theorem AbK (m:Nat) (W pc:List Nat) (o:AX) (os:List AX) (i:Nat) (env:Env) (s:Am) (pend:List (CG×Env×AV)) (past:List Am) (K:AQ→Env→Am→Prop):Y9 AP m W pc (o::os) i env s pend past K=F7 o.guard env
 (KG AP o.op env s (XI AP m W pc o os i (fun env s pend past=>Y9 AP m W pc os (i+1) env s pend past K) K env s pend past))
 (Y9 AP m W pc os (i+1) (put o.dst .undef env) s pend past K):=rfl
theorem Jo {m:Nat} {W pc:List Nat}:∀{os:List AX} {i:Nat} {env:Env} {s:Am} {pend:List (CG×Env×AV)} {past:List Am} {K:AQ→Env→Am→Prop},Y9 AP m W pc os i env s pend past K→∃N x env' s',Gq (run AP N) m W pc os i env s pend past=some (x,env',s')∧K x env' s'
 |[],i,env,s,pend,past,K,h=>⟨0,_,_,_,rfl,h⟩
 |o::os,i,env,s,pend,past,K,h=>by
  have L6:wanted o.guard env=some false→Y9 AP m W pc os (i+1) (put o.dst .undef env) s pend past K→∃N x env' s',Gq (run AP N) m W pc (o::os) i env s pend past=some (x,env',s')∧K x env' s':=by
   intro hw h
   obtain⟨N,x,env',s',h1,h2⟩:=Jo h
   exact⟨N,x,env',s',by simp only[Gq,hw];exact h1,h2⟩
  have hdo:wanted o.guard env=some true→KG AP o.op env s (XI AP m W pc o os i (fun env s pend past=>Y9 AP m W pc os (i+1) env s pend past K) K env s pend past)→∃N x env' s',Gq (run AP N) m W pc (o::os) i env s pend past=some (x,env',s')∧K x env' s':=by
   intro hw h
   obtain⟨N,out,s1,h1,h2⟩:=Ht h
   cases out with
   |Dq v=>
    simp only[XI]at h2
    cases pc with
    |nil=>exact h2.elim
    |cons p E=>
     dsimp only at h2
     cases hc:(Nat.beq i p&&!(DN i W||(flt o||Nat.blt i m)))with
     |false=>rw[hc]at h2;exact h2.elim
     |true=>
      rw[hc,cond_true]at h2
      obtain⟨⟨N1,h3⟩,h4⟩:=IY h2
      refine⟨max N N1,_,_,_,?_,h4⟩
      simp only[Gq,hw,Cc (Bj (AP:=AP) (Nat.le_max_left N N1)) h1,hc,FD (Bj (AP:=AP) (Nat.le_max_right N N1)) h3,Bool.and_self,if_true]
   |ok v=>
    simp only[XI]at h2
    cases hm:DN i W with
    |true=>
     rw[hm,cond_true]at h2
     cases hp:o.op.FQ with
     |false=>rw[hp]at h2;exact h2.elim
     |true=>
      rw[hp,cond_true]at h2
      obtain⟨⟨N1,h3⟩,h4⟩:=QV h2
      obtain⟨N2,x,env',s',h5,h6⟩:=Jo h4
      refine⟨max N (max N1 N2),x,env',s',?_,h6⟩
      simp only[Gq,hw,Cc (Bj (AP:=AP) (Nat.le_max_left N (max N1 N2))) h1,hm,hp,JD (Bj (AP:=AP) (show N1≤max N (max N1 N2) by omega)) h3,Bool.and_self,if_true]
      exact Ew (Bj (show N2≤max N (max N1 N2) by omega)) h5
    |false=>
     rw[hm,cond_false]at h2
     cases hf:(flt o||Nat.blt i m)with
     |true=>
      rw[hf,cond_true]at h2
      obtain⟨N2,x,env',s',h5,h6⟩:=Jo h2
      refine⟨max N N2,x,env',s',?_,h6⟩
      simp only[Gq,hw,Cc (Bj (AP:=AP) (Nat.le_max_left N N2)) h1,hm,hf,if_true,Bool.false_eq_true,if_false]
      exact Ew (Bj (Nat.le_max_right N N2)) h5
     |false=>
      rw[hf,cond_false]at h2
      obtain⟨⟨N1,h3⟩,h4⟩:=QW h2
      obtain⟨N2,x,env',s',h5,h6⟩:=Jo h4
      refine⟨max N (max N1 N2),x,env',s',?_,h6⟩
      simp only[Gq,hw,Cc (Bj (AP:=AP) (Nat.le_max_left N (max N1 N2))) h1,hm,hf,JE (Bj (AP:=AP) (show N1≤max N (max N1 N2) by omega)) h3,if_true,Bool.false_eq_true,if_false]
      exact Ew (Bj (show N2≤max N (max N1 N2) by omega)) h5
  rw[AbK]at h
  unfold F7 at h
  split at h
  ·rename_i hg
   exact hdo (by rw[hg];rfl) h
  ·rename_i r b hg
   split at h
   ·rename_i b' hb
    cases hbb:(b'==b)
    ·rw[hbb]at h
     exact L6 (by rw[hg];simp only[wanted,hb,hbb]) h
    ·rw[hbb]at h
     exact hdo (by rw[hg];simp only[wanted,hb,hbb]) h
   ·rename_i hb
    exact L6 (by rw[hg];simp only[wanted,hb]) h
   ·cases h
def Adq (v:AV) (A B:Prop):Prop:=match v with
 | .bool c=>Jz c A B
 |_=>False
def vC (AP:Nat→Option Ir) (c:Bg):Env→Am→(AQ→Env→Am→Prop)→Prop:=
 Bg.rec (motive:=fun _=>Env→Am→(AQ→Env→Am→Prop)→Prop)
    (fun env s Q=>Q .normal env s)
    (fun _ La ops live tr env s Q=>UD La env s fun env s=>XD AP ops env s (Adk live tr Q))
    (fun m un La ops live tr env s Q=>UD La env s fun env s=>Adn AP m un ops env s fun CY s1=>XF m ops fun tl=>XD AP tl CY s1 (Adk live tr Q))
    (fun m W pc La ops live tr env s Q=>UD La env s fun env s=>Y9 AP m W pc ops 0 env s [] [] (Adk live tr Q))
    (fun _ _ iha ihb env s Q=>iha env s (UE (fun env s=>ihb env s Q) Q))
    (fun c _ _ iha ihb env s Q=>Adq (c.val env) (iha env s Q) (ihb env s Q))
    (fun id _ iha env s Q=>iha env s (Agn id Q))
    (fun live a _ env s Q=>KX live env fun env=>Run AP (.loop live a) env s Q)
    (fun id env s Q=>Q (.exit id) env s)
    (fun env s Q=>Q .ret env s) c
theorem Td {env:Env} {t:Nat}:∀{ts:List Nat},t∈ts→(commit env ts).get t=env.get t
 |[],h=>by simp at h
 |t'::ts,h=>by
  simp only[commit,Env.get]
  cases hb:Nat.beq t' t
  ·have hne:t≠t':=fun e=>by subst e;simp at hb
   rw[cond_false]
   exact Td ((List.mem_cons.1 h).resolve_left hne)
  ·rw[cond_true,Nat.eq_of_beq_eq_true hb]
theorem Pn {env env':Env}:∀{ts:List Nat},(∀ t∈ts,env.get t=env'.get t)→commit env ts=commit env' ts
 |[],_=>rfl
 |t::ts,h=>by simp only[commit];rw[h t (by simp),Pn fun t' h'=>h t' (by simp[h'])]
theorem UF (env:Env) (ts:List Nat):commit (commit env ts) ts=commit env ts:=Pn fun _ h=>Td h
theorem Md {live:List Nat} {a:Bg} {env:Env} {s:Am} {Q:AQ→Env→Am→Prop} (h:Run AP (.loop live a) (commit env live) s Q):Run AP (.loop live a) env s Q:=by
 obtain⟨N,e,env',s',h1,h2⟩:=h
 refine⟨N,e,env',s',?_,h2⟩
 simp only[EU]at h1 ⊢
 cases N with
 |zero=>simp[iter]at h1
 |succ N=>
  simp only[iter,UF]at h1 ⊢
  exact h1
theorem Jp:∀{c:Bg} {env:Env} {s:Am} {Q:AQ→Env→Am→Prop},vC AP c env s Q→Run AP c env s Q:=by
 intro c
 induction c with
 |skip=>intro env s Q h;exact⟨0,_,_,_,rfl,h⟩
 |exit id=>intro env s Q h;exact⟨0,_,_,_,rfl,h⟩
 |ret=>intro env s Q h;exact⟨0,_,_,_,rfl,h⟩
 |region hd La ops live tr=>
  intro env s Q h
  obtain⟨CY,s1,h1,h2⟩:=Fa h
  obtain⟨N,e,Gy,s2,h3,h4⟩:=KW h2
  cases e with
  |normal=>exact⟨N,_,_,_,by simp only[EU,h1,h3],(Ox _ _ _).1 ((Em _ _ _).1 h4)⟩
  |exit id=>exact⟨N,_,_,_,by simp only[EU,h1,h3],h4⟩
  |ret=>exact⟨N,_,_,_,by simp only[EU,h1,h3],h4⟩
  |Dq v=>exact⟨N,_,_,_,by simp only[EU,h1,h3],h4⟩
 |mix m W pc La ops live tr=>
  intro env s Q h
  obtain⟨CY,s1,h1,h2⟩:=Fa h
  obtain⟨N,e,Gy,s2,h3,h4⟩:=Jo h2
  cases e with
  |normal=>exact⟨N,_,_,_,by simp only[EU,h1,h3],(Ox _ _ _).1 ((Em _ _ _).1 h4)⟩
  |exit id=>exact⟨N,_,_,_,by simp only[EU,h1,h3],h4⟩
  |ret=>exact⟨N,_,_,_,by simp only[EU,h1,h3],h4⟩
  |Dq v=>exact⟨N,_,_,_,by simp only[EU,h1,h3],h4⟩
 |par m un La ops live tr=>
  intro env s Q h
  obtain⟨CY,s1,h1,h2⟩:=Fa h
  obtain⟨N',AlX,s1',hh,h2⟩:=XG h2
  rw[U5]at h2
  obtain⟨N,e,Gy,s2,h3,h4⟩:=KW h2
  have hh':L9 (run AP (max N N')) m un ops CY s1=some (AlX,s1'):=by
   unfold L9 at hh ⊢
   split at hh
   ·rename_i es hes
    rw[Jm (Bj (Nat.le_max_right N N')) hes]
    exact hh
   ·cases hh
  have h3':=E8 (Bj (AP:=AP) (Nat.le_max_left N N')) h3
  cases e with
  |normal=>exact⟨max N N',_,_,_,by simp only[EU,h1,hh',h3'],(Ox _ _ _).1 ((Em _ _ _).1 h4)⟩
  |exit id=>exact⟨max N N',_,_,_,by simp only[EU,h1,hh',h3'],h4⟩
  |ret=>exact⟨max N N',_,_,_,by simp only[EU,h1,hh',h3'],h4⟩
  |Dq v=>exact⟨max N N',_,_,_,by simp only[EU,h1,hh',h3'],h4⟩
 |seq a b iha ihb=>
  intro env s Q h
  obtain⟨N,e,CY,s1,h1,h2⟩:=iha h
  cases e with
  |normal=>
   obtain⟨N',e',Gy,s2,h3,h4⟩:=ihb h2
   have h1':=CP (Bj (AP:=AP) (Nat.le_max_left N N')) (Nat.le_max_left N N') h1
   have h3':=CP (Bj (AP:=AP) (Nat.le_max_right N N')) (Nat.le_max_right N N') h3
   exact⟨max N N',e',Gy,s2,by simp only[EU,h1',h3'],h4⟩
  |exit id=>exact⟨N,_,_,_,by simp only[EU,h1],h2⟩
  |ret=>exact⟨N,_,_,_,by simp only[EU,h1],h2⟩
  |Dq v=>exact⟨N,_,_,_,by simp only[EU,h1],h2⟩
 |cond c a b iha ihb=>
  intro env s Q h
  change Adq (c.val env) (vC AP a env s Q) (vC AP b env s Q)at h
  unfold Adq at h
  split at h
  ·rename_i c' hc
   cases c'
   ·obtain⟨N,e,CY,s1,h1,h2⟩:=ihb h
    exact⟨N,e,CY,s1,by simp only[EU,hc,h1],h2⟩
   ·obtain⟨N,e,CY,s1,h1,h2⟩:=iha h
    exact⟨N,e,CY,s1,by simp only[EU,hc,h1],h2⟩
  ·cases h
 |block id a iha=>
  intro env s Q h
  obtain⟨N,e,CY,s1,h1,h2⟩:=iha h
  cases e with
  |normal=>exact⟨N,_,_,_,by simp only[EU,h1],h2⟩
  |exit j=>
   simp only[Agn]at h2
   cases hb:Nat.beq j id
   ·rw[hb]at h2
    have hne:j≠id:=fun e=>by subst e;simp at hb
    exact⟨N,_,_,_,by simp only[EU,h1,if_neg hne],h2⟩
   ·rw[hb]at h2
    exact⟨N,_,_,_,by simp only[EU,h1,if_pos (Nat.eq_of_beq_eq_true hb)],h2⟩
  |ret=>exact⟨N,_,_,_,by simp only[EU,h1],h2⟩
  |Dq v=>exact⟨N,_,_,_,by simp only[EU,h1],h2⟩
 |loop live a iha=>
  intro env s Q h
  exact Md ((Em _ _ _).1 h)
def Za (AP:Nat→Option Ir) (live:List Nat) (a:Bg) (Q:AQ→Env→Am→Prop) (e:AQ) (env:Env) (s:Am):Prop:=match e with
 | .normal=>KX live env fun env=>Run AP (.loop live a) env s Q
 |e=>Q e env s
theorem DR {live:List Nat} {a:Bg} {env:Env} {s:Am} {Q:AQ→Env→Am→Prop} (h:vC AP a env s (Za AP live a Q)) (hc:commit env live=env):Run AP (.loop live a) env s Q:=by
 obtain⟨N,e,CY,s1,h1,h2⟩:=Jp h
 cases e with
 |normal=>
  obtain⟨N',e',Gy,s2,h3,h4⟩:=Md ((Em _ _ _).1 h2)
  refine⟨max N N'+1,e',Gy,s2,?_,h4⟩
  have h1':=CP (Bj (AP:=AP) (show N≤max N N'+1 by omega)) (show N≤max N N'+1 by omega) h1
  simp only[EU]at h3 ⊢
  rw[iter.eq_2]
  rw[hc,h1']
  exact Ns (fun env s r hr=>CP (Bj (by omega)) (by omega) hr) (by omega) h3
 |exit id=>exact⟨N+1,_,_,_,by simp only[EU,iter.eq_2,hc,CP (Bj (AP:=AP) (Nat.le_succ N)) (Nat.le_succ N) h1],h2⟩
 |ret=>exact⟨N+1,_,_,_,by simp only[EU,iter.eq_2,hc,CP (Bj (AP:=AP) (Nat.le_succ N)) (Nat.le_succ N) h1],h2⟩
 |Dq v=>exact⟨N+1,_,_,_,by simp only[EU,iter.eq_2,hc,CP (Bj (AP:=AP) (Nat.le_succ N)) (Nat.le_succ N) h1],h2⟩
def Adr (fn:Il) (K:AB→Am→Prop) (e:AQ) (env:Env) (s:Am):Prop:=match e with
 | .normal=>LK (Ey env s fn.results) fun vs=>K (.ok (IC vs)) s
 | .ret=>LK (Ey env s fn.results) fun vs=>K (.ok (IC vs)) s
 | .Dq v=>K (.Dq v) s
 | .exit _=>False
theorem Tf {f:Nat} {fn:Il} {args:List AV} {s:Am} {K:AB→Am→Prop} (hf:AP f=some (.code fn)) (hl:args.length=fn.np) (h:Run AP fn.body (params args 0) s (Adr fn K)):Ar AP f args s K:=by
 obtain⟨N,e,env,s',h1,h2⟩:=h
 cases e with
 |normal=>
  obtain⟨vs,h3,h4⟩:=h2
  exact⟨N+1,_,_,by simp only[run,hf,if_pos hl,evF,h1,h3,Option.map_some],h4⟩
 |ret=>
  obtain⟨vs,h3,h4⟩:=h2
  exact⟨N+1,_,_,by simp only[run,hf,if_pos hl,evF,h1,h3,Option.map_some],h4⟩
 |Dq v=>exact⟨N+1,_,_,by simp only[run,hf,if_pos hl,evF,h1],h2⟩
 |exit id=>cases h2
end AI
end Go.Proofs.YtjijnamhalgamaaGreatDoor
namespace Go.Proofs.YtjijnamhalgamaaGreatDoor
namespace AI
open Go.RowKit
variable {AP:Nat→Option Ir}
def AjC (live:List Nat) (I:Env→Am→Prop) (Q:AQ→Env→Am→Prop) (e:AQ) (env:Env) (s:Am):Prop:=match e with
 | .normal=>KX live env fun env=>I env s
 |e=>Q e env s
structure again (I:Nat→Env→Am→Prop) (m:Nat) (env:Env) (s:Am):Prop where
 mk::(h:∃m',m'<m∧I m' env s)
theorem Ag {live:List Nat} {a:Bg} {Q:AQ→Env→Am→Prop} (I:Nat→Env→Am→Prop)
 (hI:∀m env s,I m env s→commit env live=env∧vC AP a env s (AjC live (again I m) Q)):
 ∀m env s,I m env s→Run AP (.loop live a) env s Q:=by
 intro m
 induction m using Nat.strongRecOn with
 |ind m ih=>
  intro env s h
  obtain⟨hc,h1⟩:=hI m env s h
  obtain⟨N,e,CY,s1,h2,h3⟩:=Jp h1
  have hr:Run AP a env s (Za AP live a Q):=by
   refine⟨N,e,CY,s1,h2,?_⟩
   cases e with
   |normal=>
    simp only[AjC,Za,Em]at h3 ⊢
    obtain⟨m',hm,h4⟩:=h3
    exact ih m' hm _ _ h4
   |exit id=>exact h3
   |ret=>exact h3
   |Dq v=>exact h3
  obtain⟨N,e,CY,s1,h1,h2⟩:=hr
  cases e with
  |normal=>
   obtain⟨N',e',Gy,s2,h3,h4⟩:=Md ((Em _ _ _).1 h2)
   refine⟨max N N'+1,e',Gy,s2,?_,h4⟩
   have h1':=CP (Bj (AP:=AP) (show N≤max N N'+1 by omega)) (show N≤max N N'+1 by omega) h1
   simp only[EU]at h3 ⊢
   rw[iter.eq_2]
   rw[hc,h1']
   exact Ns (fun env s r hr=>CP (Bj (by omega)) (by omega) hr) (by omega) h3
  |exit id=>exact⟨N+1,_,_,_,by simp only[EU,iter.eq_2,hc,CP (Bj (AP:=AP) (Nat.le_succ N)) (Nat.le_succ N) h1],h2⟩
  |ret=>exact⟨N+1,_,_,_,by simp only[EU,iter.eq_2,hc,CP (Bj (AP:=AP) (Nat.le_succ N)) (Nat.le_succ N) h1],h2⟩
  |Dq v=>exact⟨N+1,_,_,_,by simp only[EU,iter.eq_2,hc,CP (Bj (AP:=AP) (Nat.le_succ N)) (Nat.le_succ N) h1],h2⟩
structure Ae (AP:Nat→Option Ir) (f:Nat) (args:List AV) (R:AV→Prop):Prop where
 mk::(h:∃v,Pure AP f args v∧R v)
def AjD (R:AV→Prop) (out:AB) (s:Am):Prop:=match out with
 | .ok r=>Aax s.σ EK r R
 | .Dq _=>False
theorem Ac {f:Nat} {fn:Il} {args:List AV} {R:AV→Prop} (hf:AP f=some (.code fn)) (hl:args.length=fn.np) (h:vC AP fn.body (params args 0) ⟨[],0⟩ (Adr fn (AjD R))):Ae AP f args R:=by
 obtain⟨N,out,s',h1,h2⟩:=Tf hf hl (Jp h)
 cases out with
 |ok r=>
  have h2:Aax s'.σ EK r R:=h2
  obtain⟨v,h3,h4⟩:=XA h2
  exact⟨v,⟨N,by simp only[EI,h1];exact h3⟩,h4⟩
 |Dq r=>cases h2
theorem Aa {f:Nat} {args:List AV} {R:AV→Prop} {K:AV→Prop} (h:Ae AP f args R) (h2:∀v,R v→K v):Xy AP f args K:=by
 obtain⟨v,h3,h4⟩:=h
 exact⟨v,h3,h2 v h4⟩
theorem Aq {f:Nat} {args:List AV} {p:Prop} [Decidable p] {K:AV→Prop} (h:Ae AP f args (· =.bool (decide p))) (h1:p→K (.bool true)) (h2:¬p→K (.bool false)):Xy AP f args K:=by
 refine Aa h ?_
 rintro _ rfl
 by_cases hp:p
 ·rw[decide_eq_true hp];exact h1 hp
 ·rw[decide_eq_false hp];exact h2 hp
theorem Ar.mono {f:Nat} {args:List AV} {s:Am} {K K':AB→Am→Prop} (h:Ar AP f args s K) (hk:∀out s,K out s→K' out s):Ar AP f args s K':=by
 obtain⟨N,out,s',h1,h2⟩:=h
 exact⟨N,out,s',h1,hk _ _ h2⟩
theorem Agp {p q:Prop} [Decidable p] [Decidable q] (h:p↔q):AV.bool (decide p)=AV.bool (decide q):=by rw[decide_eq_decide.2 h]
theorem Bd {p:Prop} [Decidable p] (h:p):AV.bool true=AV.bool (decide p):=by rw[decide_eq_true h]
theorem Au {p:Prop} [Decidable p] (h:¬p):AV.bool false=AV.bool (decide p):=by rw[decide_eq_false h]
theorem Ae.mono {f:Nat} {args:List AV} {R R':AV→Prop} (h:Ae AP f args R) (h2:∀v,R v→R' v):Ae AP f args R':=by
 obtain⟨v,h3,h4⟩:=h
 exact⟨v,h3,h2 v h4⟩
theorem Ai {f:Nat} {fn:Il} {args:List AV} {s:Am} {K:AB→Am→Prop} (hf:AP f=some (.code fn)) (hl:args.length=fn.np) (h:vC AP fn.body (params args 0) s (Adr fn K)):Ar AP f args s K:=
 Tf hf hl (Jp h)
end AI
end Go.Proofs.YtjijnamhalgamaaGreatDoor
namespace Go.Proofs.YtjijnamhalgamaaGreatDoor
namespace AI
def ints (l:List Int):List AV:=l.map (.int .i64)
abbrev U6 (nn:Bool) (l:List Int):AV:=.sl nn (ints l)
@[simp] theorem lI (l:List Int):(ints l).length=l.length:=by simp[ints]
theorem Ads {l:List Int} {i:Nat} {x:Int} (h:l[i]?=some x):nth (ints l) i=some (.int .i64 x):=by simp[ints,AU,h]
theorem nI {l:List Int} {i:Nat} (h:i<l.length):nth (ints l) i=some (.int .i64 l[i]):=Ads (List.getElem?_eq_getElem h)
theorem wrap_i64 {z:Int} (h:-2^63≤z) (h2:z<2^63):IntKind.i64.wrap z=z:=by
 rw[IntKind.wrap_i64];omega
theorem nIN {l:List Int} {i:Nat} (h:i<l.length):nth (ints l) (Int.toNat (Nat.cast i))=some (.int .i64 l[i]):=nI h
theorem XJ {es:Nat} {x:AV} (h:x.cells.length=es):Bc es [x]:=by intro y hy;simp at hy;exact hy▸h
theorem Jq {b n:Nat} (h:n*b≤2 ^ 46):roomy b n:=Nat.le_trans h (by decide)
def iss (E:List (Bool×List Int)):List AV:=E.map fun p=>.sl p.1 (ints p.2)
@[simp] theorem lS (E:List (Bool×List Int)):(iss E).length=E.length:=by simp[iss]
theorem nS {E:List (Bool×List Int)} {i:Nat} (h:i<E.length):nth (iss E) i=some (.sl E[i].1 (ints E[i].2)):=by simp[iss,AU,h]
theorem nSN {E:List (Bool×List Int)} {i:Nat} (h:i<E.length):nth (iss E) (Int.toNat (Nat.cast i))=some (.sl E[i].1 (ints E[i].2)):=nS h
theorem BN {α:Type} {l:List α} {i:Nat} (h:¬(i:Int)<(l.length:Int)):l.take i=l:=List.take_of_length_le (by omega)
theorem Bl {α:Type} {p:α→Prop} {l:List α} {i:Nat} (h:i<l.length) (h1:∀x∈l.take i,p x) (h2:p l[i]):∀x∈l.take (i+1),p x:=by
 intro x hx
 rw[List.take_succ_eq_append_getElem h,List.mem_append,List.mem_singleton]at hx
 rcases hx with hx|rfl
 ·exact h1 x hx
 ·exact h2
theorem tIN {l:List Int} {i:Nat} {x y:Int}:(ints l).set (Int.toNat (Nat.cast i)) (BF (.int .i64 x) 0 (.int .i64 y))=ints (l.set i y):=by
 simp[ints,BF,AV.cells,List.map_set]
theorem tI {l:List Int} {i:Nat} {x y:Int}:(ints l).set i (BF (.int .i64 x) 0 (.int .i64 y))=ints (l.set i y):=tIN
theorem uI {l:List Int}:sub (ints l) 0 l.length=ints l:=by
 unfold sub;rw[List.drop_zero,List.take_of_length_le (by simp)]
theorem uS {l:List (Bool×List Int)}:sub (iss l) 0 l.length=iss l:=by
 unfold sub;rw[List.drop_zero,List.take_of_length_le (by simp)]
theorem uIS {l:List Int} {x:Int}:sub (ints (l++[x])) 0 (l.length+1)=ints (l++[x]):=by
 have:=uI (l:=l++[x]);rwa [List.length_append]at this
theorem uSS {l:List (Bool×List Int)} {x:Bool×List Int}:sub (iss (l++[x])) 0 (l.length+1)=iss (l++[x]):=by
 have:=uS (l:=l++[x]);rwa [List.length_append]at this
theorem rIN (n:Nat) (z:Int):List.replicate (Int.toNat (Nat.cast n)) (AV.int .i64 z)=ints (List.replicate n z):=by simp[ints]
theorem rI (n:Nat) (z:Int):List.replicate n (AV.int .i64 z)=ints (List.replicate n z):=by simp[ints]
theorem nY {l:List UInt8} {i:Nat} (h:i<l.length):nth l i=some l[i]:=by simp[AU,h]
theorem nYN {l:List UInt8} {i:Nat} (h:i<l.length):nth l (Int.toNat (Nat.cast i))=some l[i]:=nY h
def bools (l:List Bool):List AV:=l.map .bool
@[simp] theorem lB (l:List Bool):(bools l).length=l.length:=by simp[bools]
theorem nB {l:List Bool} {i:Nat} (h:i<l.length):nth (bools l) i=some (.bool l[i]):=by simp[bools,AU,h]
theorem nBN {l:List Bool} {i:Nat} (h:i<l.length):nth (bools l) (Int.toNat (Nat.cast i))=some (.bool l[i]):=nB h
theorem tBN {l:List Bool} {i:Nat} {x y:Bool}:(bools l).set (Int.toNat (Nat.cast i)) (BF (.bool x) 0 (.bool y))=bools (l.set i y):=by
 simp[bools,BF,AV.cells,List.map_set]
theorem tB {l:List Bool} {i:Nat} {x y:Bool}:(bools l).set i (BF (.bool x) 0 (.bool y))=bools (l.set i y):=tBN
theorem uB {l:List Bool}:sub (bools l) 0 l.length=bools l:=by
 unfold sub;rw[List.drop_zero,List.take_of_length_le (by simp)]
theorem rBN (n:Nat) (z:Bool):List.replicate (Int.toNat (Nat.cast n)) (AV.bool z)=bools (List.replicate n z):=by simp[bools]
section
variable {α β:Type} [DecidableEq α] {fk:α→AV} {fv:β→AV} {t:Nl}
def Ti (fk:α→AV) (fv:β→AV) (M:List (α×β)):List (AV×AV):=M.map fun p=>(fk p.1,fv p.2)
def Jr:List (α×β)→α→Option β
 |[],_=>none
 |(k',v)::M,k=>if k=k' then some v else Jr M k
def Qx:List (α×β)→α→β→List (α×β)
 |[],k,v=>[(k,v)]
 |(k',v')::M,k,v=>if k=k' then(k,v)::M else(k',v')::Qx M k v
theorem U7 (M:List (α×β)) (k k':α) (v:β):Jr (Qx M k v) k'=if k'=k then some v else Jr M k':=by
 induction M with
 |nil=>simp[Qx,Jr]
 |cons p M ih=>
  obtain⟨a,b⟩:=p
  simp only[Qx]
  by_cases h:k=a
  ·subst h;simp only[if_pos,Jr];split<;>simp_all
  ·rw[if_neg h]
   simp only[Jr,ih]
   by_cases h1:k'=a
   ·subst h1;rw[if_pos rfl,if_neg (fun e=>h e.symm),if_pos rfl]
   ·rw[if_neg h1,if_neg h1]
theorem Lc (hk:∀a b,Dh t (fk a) (fk b)=some (decide (a=b))) (k:α):∀(M:List (α×β)) (i:Nat),
 (Jr M k=none∧findKey t (fk k) (Ti fk fv M) i=some none∧Qx M k=fun v=>M++[(k,v)])∨
 ∃j v,Jr M k=some v∧findKey t (fk k) (Ti fk fv M) i=some (some (i+j,fv v))∧Qx M k=fun v=>M.set j (k,v)
 |[],i=>.inl ⟨rfl,rfl,rfl⟩
 |(a,b)::M,i=>by
  by_cases h:k=a
  ·subst h
   refine .inr ⟨0,b,by simp[Jr],?_,by funext v;simp[Qx]⟩
   simp only[Ti,List.map_cons,findKey,hk,decide_true,Nat.add_zero]
  ·rcases Lc hk k M (i+1)with⟨h1,h2,h3⟩|⟨j,v,h1,h2,h3⟩
   ·refine .inl ⟨by simp[Jr,h,h1],?_,by funext v;simp[Qx,h,h3]⟩
    simp only[Ti,List.map_cons,findKey,hk,decide_eq_false h]at h2 ⊢
    exact h2
   ·refine .inr ⟨j+1,v,by simp[Jr,h,h1],?_,by funext v;simp[Qx,h,h3]⟩
    simp only[Ti,List.map_cons,findKey,hk,decide_eq_false h]at h2 ⊢
    rw[h2];congr 3;omega
theorem Zb (hk:∀a b,Dh t (fk a) (fk b)=some (decide (a=b))) {M:List (α×β)} {k:α} {K:Option (Nat×AV)→Prop}
 (h1:Jr M k=none→K none) (h2:∀i v,Jr M k=some v→K (some (i,fv v))):SX t (fk k) (Ti fk fv M) K:=by
 rcases Lc (fv:=fv) hk k M 0 with⟨g1,g2,_⟩|⟨j,v,g1,g2,_⟩
 ·exact⟨_,g2,h1 g1⟩
 ·exact⟨_,g2,h2 _ _ g1⟩
theorem Zc (hk:∀a b,Dh t (fk a) (fk b)=some (decide (a=b))) {M:List (α×β)} {k:α} {v:β} {K:List (AV×AV)→Prop}
 (h:K (Ti fk fv (Qx M k v))):Adh t (fk k) (fv v) (Ti fk fv M) K:=by
 rcases Lc (fv:=fv) hk k M 0 with⟨g1,g2,g3⟩|⟨j,w,g1,g2,g3⟩
 ·refine⟨_,g2,?_⟩
  rw[g3]at h
  simpa[Adg,Ti]using h
 ·refine⟨_,g2,?_⟩
  rw[g3]at h
  simpa[Adg,Ti,List.map_set]using h
end
theorem Tj (a b:Int):Dh .int (.int .i64 a) (.int .i64 b)=some (decide (a=b)):=by
 simp only[Dh,if_true];rfl
abbrev Tn (M:List (Int×Int)):List (AV×AV):=Ti (.int .i64) (.int .i64) M
theorem fkI {M:List (Int×Int)} {k:Int} {K:Option (Nat×AV)→Prop}
 (h1:Jr M k=none→K none) (h2:∀i v,Jr M k=some v→K (some (i,.int .i64 v))):SX .int (.int .i64 k) (Tn M) K:=Zb Tj h1 h2
theorem msI {M:List (Int×Int)} {k v:Int} {K:List (AV×AV)→Prop} (h:K (Tn (Qx M k v))):Adh .int (.int .i64 k) (.int .i64 v) (Tn M) K:=Zc Tj h
end AI
end Go.Proofs.YtjijnamhalgamaaGreatDoor
