/- The evaluator, step by step on symbols: what must hold for it to end in 'Q'. The evaluator, step by step on symbols: operations. The evaluator, step by step on symbols: regions, code, loops, functions. Loops by an invariant; what a function answers, as a predicate. Lists of numbers as abstract values; small facts that the steps need. -/
import Derived.Test.YtjjhejbffgaabaaGreatDoorPSe
set_option linter.unusedVariables false
set_option maxRecDepth 4000
namespace Go.Proofs.YtjjhejbffgaabaaGreatDoor
namespace AI
open Go.RowKit
variable {AP:Nat→Option Ji}
structure Run (AP:Nat→Option Ji) (c:CW) (env:Env) (s:Ai) (Q:A8→Env→Ai→Prop):Prop where
 mk::(h:∃N e env' s',Ei (run AP N) N c env s=some (e,env',s')∧Q e env' s')
def Op1 (AP:Nat→Option Ji) (o:BR) (env:Env) (s:Ai) (K:AA→Ai→Prop):Prop:=
 ∃N out s',Af (run AP N) o env s=some (out,s')∧K out s'
def Ops (AP:Nat→Option Ji) (os:List Ap) (env:Env) (s:Ai) (Q:A8→Env→Ai→Prop):Prop:=
 ∃N e env' s',Dl (run AP N) os env s=some (e,env',s')∧Q e env' s'
structure Pure (AP:Nat→Option Ji) (f:Nat) (args:List AV) (v:AV):Prop where
 mk::(h:∃N,Es (run AP N) f args=some v)
structure BL (AP:Nat→Option Ji) (f:Nat) (args:List AV) (s:Ai) (K:AA→Ai→Prop):Prop where
 mk::(h:∃N out s',run AP N f args s=some (out,s')∧K out s')
theorem Bd {n n':Nat} (h:n≤n'):ET (run AP n) (run AP n'):=QK h
theorem Run.mono {c:CW} {env:Env} {s:Ai} {Q Q':A8→Env→Ai→Prop} (h:Run AP c env s Q) (hq:∀e env s,Q e env s→Q' e env s):Run AP c env s Q':=by
 obtain⟨N,e,env',s',h1,h2⟩:=h
 exact⟨N,e,env',s',h1,hq _ _ _ h2⟩
def AV.force {R:Sort _} (v:AV) (f:AV→R):R:=
 match v with
 | .bool b=>f (.bool b)
 | .int k n=>f (.int k n)
 | .str s=>f (.str s)
 | .sl nn xs=>f (.sl nn xs)
 | .zc=>f .zc
 | .own o g a b=>f (.own o g a b)
 | .agg cs=>f (.agg cs)
 | .EY cs=>f (.EY cs)
 | .ref o g i a=>f (.ref o g i a)
 | .CP cs=>f (.CP cs)
 | .fn g cs=>f (.fn g cs)
 | .map o g=>f (.map o g)
 | .fmap es=>f (.fmap es)
 | .iface t v=>f (.iface t v)
 | .II=>f .II
 | .Di=>f .Di
 | .Fp=>f .Fp
 | .Gs=>f .Gs
 | .undef=>f .undef
 | .junk=>f .junk
theorem force_eq {R:Sort _} (v:AV) (f:AV→R):v.force f=f v:=by cases v<;>rfl
def JR (b:Bool) (t e:Prop):Prop:=match b with
 |true=>t
 |false=>e
theorem Vg {b:Bool} {t e:Prop} (h1:b=true→t) (h2:b=false→e):JR b t e:=by
 cases b
 ·exact h2 rfl
 ·exact h1 rfl
structure NR (p t e:Prop):Prop where
 mk::(yes:p→t) (no:¬p→e)
structure need (p t:Prop):Prop where
 mk::(l:p) (r:t)
theorem QS {p t:Prop} (h1:p) (h2:t):need p t:=⟨h1,h2⟩
structure JQ (k:IntKind) (z:Int) (K:AV→Prop):Prop where
 mk::(h:∃y,k.wrap z=y∧K (.int k y))
theorem DT {k:IntKind} {z y:Int} {K:AV→Prop} (h:k.wrap z=y) (h2:K (.int k y)):JQ k z K:=⟨y,h,h2⟩
structure Ue {α:Type} (xs:List α) (i:Nat) (K:α→Prop):Prop where
 mk::(h:∃x,nth xs i=some x∧K x)
theorem Am {α:Type} {xs:List α} {i:Nat} {K:α→Prop} {x:α} (h:nth xs i=some x) (h2:K x):Ue xs i K:=⟨x,h,h2⟩
structure KA {α:Type} (o:Option α) (K:α→Prop):Prop where
 mk::(h:∃x,o=some x∧K x)
theorem BO {α:Type} {o:Option α} {K:α→Prop} {x:α} (h:o=some x) (h2:K x):KA o K:=⟨x,h,h2⟩
structure XR (AP:Nat→Option Ji) (f:Nat) (args:List AV) (K:AV→Prop):Prop where
 mk::(h:∃v,Pure AP f args v∧K v)
def settle (v:AV) (K:AV→Prop):Prop:=match v with
 | .bool b=>JR b (K (.bool true)) (K (.bool false))
 |v=>v.force K
theorem QT (v:AV) (K:AV→Prop):settle v K↔K v:=by
 cases v<;>first|exact Iff.rfl|skip
 rename_i b
 cases b<;>exact Iff.rfl
def J9 {α:Type}:List α→Nat→α→(List α→Prop)→Prop
 |[],_,_,K=>K []
 |_::xs,0,y,K=>K (y::xs)
 |x::xs,n+1,y,K=>J9 xs n y fun ys=>K (x::ys)
theorem EX {α:Type}:∀(l:List α) (n:Nat) (y:α) (K:List α→Prop),J9 l n y K↔K (l.set n y)
 |[],_,_,_=>Iff.rfl
 |_::_,0,_,_=>Iff.rfl
 |x::xs,n+1,y,K=>EX xs n y fun ys=>K (x::ys)
def XG {α:Type}:List α→α→(List α→Prop)→Prop
 |[],y,K=>K [y]
 |x::xs,y,K=>XG xs y fun ys=>K (x::ys)
theorem Oo {α:Type}:∀(l:List α) (y:α) (K:List α→Prop),XG l y K↔K (l++[y])
 |[],_,_=>Iff.rfl
 |x::xs,y,K=>Oo xs y fun ys=>K (x::ys)
def Uf (s:Ai) (mk:Nat→Nat→AV) (ob:Nat→Obj) (K:AA→Ai→Prop):Prop:=
 XG s.σ (ob s.ctr) fun σ=>K (.ok (mk s.σ.length s.ctr)) ⟨σ,s.ctr+1⟩
structure eqK {α:Type} (a:α) (K:α→Prop):Prop where
 mk::(h:∃b,a=b∧K b)
theorem Ec {α:Type} {a b:α} {K:α→Prop} (h1:a=b) (h:K b):eqK a K:=⟨_,h1,h⟩
def XT (op:BinOp) (k:IntKind) (a b:Int) (K:AV→Prop):Prop:=
 match op with
 | .add=>JQ k (a+b) K
 | .sub=>JQ k (a-b) K
 | .mul=>JQ k (a*b) K
 | .quo=>need (b≠0) (JQ k (a.tdiv b) K)
 | .rem=>need (b≠0) (K (.int k (a.tmod b)))
 | .eql=>NR (a=b) (K (.bool true)) (K (.bool false))
 | .neq=>NR (a=b) (K (.bool false)) (K (.bool true))
 | .lss=>NR (a<b) (K (.bool true)) (K (.bool false))
 | .leq=>NR (a≤b) (K (.bool true)) (K (.bool false))
 | .gtr=>NR (b<a) (K (.bool true)) (K (.bool false))
 | .geq=>NR (b≤a) (K (.bool true)) (K (.bool false))
 | .and=>eqK (k.wrap (BitVec.ofInt k.bits a &&& BitVec.ofInt k.bits b).toNat) fun z=>K (.int k z)
 | .or=>eqK (k.wrap (BitVec.ofInt k.bits a ||| BitVec.ofInt k.bits b).toNat) fun z=>K (.int k z)
 | .xor=>eqK (k.wrap (BitVec.ofInt k.bits a ^^^ BitVec.ofInt k.bits b).toNat) fun z=>K (.int k z)
 | .shl=>need (0≤b) (JQ k (a*2 ^ (min b.toNat k.bits)) K)
 | .shr=>need (0≤b) (eqK (a.fdiv (2 ^ (min b.toNat k.bits))) fun z=>K (.int k z))
 |_=>False
def XU (op:BinOp) (a b:List UInt8) (K:AV→Prop):Prop:=
 match op with
 | .eql=>NR (a=b) (K (.bool true)) (K (.bool false))
 | .neq=>NR (a=b) (K (.bool false)) (K (.bool true))
 | .lss=>JR (Op.bytesLess a b) (K (.bool true)) (K (.bool false))
 | .leq=>JR (Op.bytesLess a b||a==b) (K (.bool true)) (K (.bool false))
 | .gtr=>JR (Op.bytesLess a b||a==b) (K (.bool false)) (K (.bool true))
 | .geq=>JR (Op.bytesLess a b) (K (.bool false)) (K (.bool true))
 | .add=>need (a.length+b.length<2 ^ 63) (K (.str (a++b)))
 |_=>False
def AaI (op:BinOp) (k k':IntKind) (t:Prop):Prop:=match op with
 | .shl=>t
 | .shr=>t
 |_=>need (k=k') t
theorem YU {op:BinOp} {k k':IntKind} {t:Prop} (h:AaI op k k' t):(k=k'∨op=.shl∨op=.shr)∧t:=by
 unfold AaI at h
 split at h
 ·exact⟨.inr (.inl rfl),h⟩
 ·exact⟨.inr (.inr rfl),h⟩
 ·exact⟨.inl h.1,h.2⟩
theorem Acj {op:BinOp} {k k':IntKind} {t:Jj} {a b:Int} (h:k=k'∨op=.shl∨op=.shr):bin op t (.int k a) (.int k' b)=IL op k a b:=by
 simp only[bin]
 split
 ·rfl
 ·rename_i hk
  rcases h with h|rfl|rfl
  ·exact absurd h hk
  ·rfl
  ·rfl
def AdQ (op:BinOp) (t:Jj) (x y:AV) (K:AV→Prop):Prop:=
 match x,y with
 | .int k a,.int k' b=>AaI op k k' (XT op k a b K)
 | .str a,.str b=>XU op a b K
 |x,y=>KA (bin op t x y) fun v=>settle v K
theorem WZ {op:BinOp} {t:Jj} {x y:AV} {K:AV→Prop} (h:AdQ op t x y K):∃v,bin op t x y=some v∧K v:=by
 unfold AdQ at h
 split at h
 ·rename_i k a k' b
  obtain⟨hk,h⟩:=YU h
  rw[Acj hk]
  unfold XT at h
  cases op<;>simp only at h
  case add=>obtain⟨y,h1,h2⟩:=h;exact⟨_,rfl,by rw[h1];exact h2⟩
  case sub=>obtain⟨y,h1,h2⟩:=h;exact⟨_,rfl,by rw[h1];exact h2⟩
  case mul=>obtain⟨y,h1,h2⟩:=h;exact⟨_,rfl,by rw[h1];exact h2⟩
  case quo=>obtain⟨h0,y,h1,h2⟩:=h;exact⟨_,by simp only[IL,if_neg h0];rfl,by rw[h1];exact h2⟩
  case rem=>obtain⟨h0,h2⟩:=h;exact⟨_,by simp only[IL,if_neg h0],h2⟩
  case and=>obtain⟨z,rfl,h2⟩:=h;exact⟨_,rfl,h2⟩
  case or=>obtain⟨z,rfl,h2⟩:=h;exact⟨_,rfl,h2⟩
  case xor=>obtain⟨z,rfl,h2⟩:=h;exact⟨_,rfl,h2⟩
  case shl=>obtain⟨h0,y,h1,h2⟩:=h;exact⟨_,by simp only[IL,if_neg (Int.not_lt.2 h0)];rfl,by rw[h1];exact h2⟩
  case shr=>obtain⟨h0,z,rfl,h2⟩:=h;exact⟨_,by simp only[IL,if_neg (Int.not_lt.2 h0)],h2⟩
  case eql=>
   by_cases c:a=b
   ·exact⟨_,rfl,by have:=h.1 c;simpa only[c,beq_self_eq_true,bne_self_eq_false,Bool.not_true]using this⟩
   ·exact⟨_,rfl,by have:=h.2 c;simpa only[bne,beq_false_of_ne c,Bool.not_false]using this⟩
  case neq=>
   by_cases c:a=b
   ·exact⟨_,rfl,by have:=h.1 c;simpa only[c,beq_self_eq_true,bne_self_eq_false,Bool.not_true]using this⟩
   ·exact⟨_,rfl,by have:=h.2 c;simpa only[bne,beq_false_of_ne c,Bool.not_false]using this⟩
  case lss=>
   by_cases c:a<b
   ·exact⟨_,rfl,by simpa[c]using h.1 c⟩
   ·exact⟨_,rfl,by simpa[c]using h.2 c⟩
  case leq=>
   by_cases c:a≤b
   ·exact⟨_,rfl,by simpa[c]using h.1 c⟩
   ·exact⟨_,rfl,by simpa[c]using h.2 c⟩
  case gtr=>
   by_cases c:b<a
   ·exact⟨_,rfl,by simpa[c]using h.1 c⟩
   ·exact⟨_,rfl,by simpa[c]using h.2 c⟩
  case geq=>
   by_cases c:b≤a
   ·exact⟨_,rfl,by simpa[c]using h.1 c⟩
   ·exact⟨_,rfl,by simpa[c]using h.2 c⟩
 ·rename_i a b
  simp only[bin]
  unfold XU at h
  cases op<;>simp only at h
  case add=>obtain⟨h0,h2⟩:=h;exact⟨_,by simp only[Wi,if_pos h0],h2⟩
  case eql=>
   by_cases c:a=b
   ·exact⟨_,rfl,by have:=h.1 c;simpa only[c,beq_self_eq_true,bne_self_eq_false,Bool.not_true]using this⟩
   ·exact⟨_,rfl,by have:=h.2 c;simpa only[bne,beq_false_of_ne c,Bool.not_false]using this⟩
  case neq=>
   by_cases c:a=b
   ·exact⟨_,rfl,by have:=h.1 c;simpa only[c,beq_self_eq_true,bne_self_eq_false,Bool.not_true]using this⟩
   ·exact⟨_,rfl,by have:=h.2 c;simpa only[bne,beq_false_of_ne c,Bool.not_false]using this⟩
  case lss=>cases c:Op.bytesLess a b<;>rw[c]at h<;>exact⟨_,rfl,by rw[c];exact h⟩
  case leq=>cases c:(Op.bytesLess a b||a==b)<;>rw[c]at h<;>exact⟨_,rfl,by rw[c];exact h⟩
  case gtr=>cases c:(Op.bytesLess a b||a==b)<;>rw[c]at h<;>exact⟨_,rfl,by rw[c];exact h⟩
  case geq=>cases c:Op.bytesLess a b<;>rw[c]at h<;>exact⟨_,rfl,by rw[c];exact h⟩
 ·obtain⟨v,h1,h2⟩:=h
  exact⟨v,h1,(QT v K).1 h2⟩
end AI
end Go.Proofs.YtjjhejbffgaabaaGreatDoor
namespace Go.Proofs.YtjjhejbffgaabaaGreatDoor
namespace AI
open Go.RowKit
variable {AP:Nat→Option Ji}
def done (v:AV) (s:Ai) (K:AA→Ai→Prop):Prop:=settle v fun v=>K (.ok v) s
def W9:Aq:=fun _ _ _=>none
def Vh (o:BR) (env:Env) (s:Ai) (K:AA→Ai→Prop):Prop:=
 KA (Af W9 o env s) fun r=>match r with
    |(.ok v,s')=>done v s' K
    |(.D9 v,s')=>K (.D9 v) s'
def XV (σ:List Obj) (n:Nat) (r:AV) (R:AV→Prop):Prop:=match r with
 | .own o g off len=>match n with
   |0=>False
   |n+1=>match nth σ o with
    |some (.arr g' _ nn cl elems)=>match cl with
     |true=>need (g=g'∧off+len≤elems.length) (eqK (sub elems off len) fun xs=>R (.sl nn xs))
     |false=>KA (snap σ (n+1) (.own o g off len)) R
    |_=>False
 |r=>KA (snap σ n r) R
theorem OV {σ:List Obj} {n:Nat} {r:AV} {R:AV→Prop} (h:XV σ n r R):∃v,snap σ n r=some v∧R v:=by
 unfold XV at h
 split at h
 ·rename_i o g off len
  split at h
  ·cases h
  ·split at h
   ·rename_i g' es nn cl elems ho
    split at h
    ·obtain⟨h1,xs,rfl,h2⟩:=h
     refine⟨_,?_,h2⟩
     simp only[snap,ho,if_pos h1,if_true]
    ·obtain⟨v,h1,h2⟩:=h;exact⟨v,h1,h2⟩
   ·cases h
 ·obtain⟨v,h1,h2⟩:=h;exact⟨v,h1,h2⟩
def QU (σ:List Obj):Nat→List AV→(List AV→Prop)→Prop
 |_,[],K=>K []
 |0,_::_,_=>False
 |n+1,v::vs,K=>XV σ n v fun a=>QU σ n vs fun r=>K (a::r)
theorem G9 {σ:List Obj}:∀{n:Nat} {vs:List AV} {K:List AV→Prop},QU σ n vs K→∃r,H6 σ n vs=some r∧K r
 |n,[],K,h=>⟨[],by cases n<;>rfl,by cases n<;>exact h⟩
 |0,_::_,_,h=>by cases h
 |n+1,v::vs,K,h=>by
  obtain⟨a,h1,h2⟩:=OV h
  obtain⟨r,h3,h4⟩:=G9 h2
  exact⟨_,by simp only[H6,h1,h3],h4⟩
def XW (σ:List Obj) (n:Nat) (r:AV) (R:AV→Prop):Prop:=match r with
 | .EY cs=>match n with
   |0=>False
   |n+1=>QU σ n cs fun vs=>R (.EY vs)
 | .agg cs=>match n with
   |0=>False
   |n+1=>QU σ n cs fun vs=>R (.agg vs)
 |r=>XV σ n r R
theorem Vj {σ:List Obj} {n:Nat} {r:AV} {R:AV→Prop} (h:XW σ n r R):∃v,snap σ n r=some v∧R v:=by
 unfold XW at h
 split at h
 ·split at h
  ·cases h
  ·obtain⟨vs,h1,h2⟩:=G9 h
   exact⟨_,by simp only[snap,h1,Option.map_some],h2⟩
 ·split at h
  ·cases h
  ·obtain⟨vs,h1,h2⟩:=G9 h
   exact⟨_,by simp only[snap,h1,Option.map_some],h2⟩
 ·exact OV h
def AaJ (AP:Nat→Option Ji) (m:Mode) (f:Nat) (args:List AV) (s:Ai) (K:AA→Ai→Prop):Prop:=
 match m with
 | .pure=>need (Eh args=true) (XR AP f args fun v=>done v s K)
 | .borrow=>QU s.σ Hg args fun args'=>XR AP f args' fun v=>need (v.scalar=true) (done v s K)
 | .share=>BL AP f args s fun out s'=>match out with
   | .ok r=>KA (compact s.σ.length r s') fun r=>done r.1 r.2 K
   | .D9 v=>need (v.closed=true) (K (.D9 v) ⟨s'.σ.take s.σ.length,s'.ctr⟩)
 | .own=>∃N r s',AQ (run AP N) .own f args s=some (.ok r,s')∧done r s' K
 | .keep=>BL AP f args s fun out s'=>match out with
   | .ok r=>done r s' K
   | .D9 v=>K (.D9 v) s'
structure KT (g g' es es' len:Nat) (nn cl c:Bool) (elems ys:List AV) (bytes:Nat) (K:Nat→Bool→Bool→List AV→Prop):Prop where
 mk::(h:(g=g'∧es=es'∧len≤elems.length∧AZ es ys∧roomy bytes (len+ys.length))∧K (len+ys.length) (nn||!ys.isEmpty) (cl&&c) (elems.take len++ys))
def AdR (a b:Bool) (K:Bool→Prop):Prop:=match b with
 |true=>K a
 |false=>K false
theorem Vk (a b:Bool) (K:Bool→Prop):AdR a b K↔K (a&&b):=by cases a<;>cases b<;>exact Iff.rfl
def AaK (b:Bool) (K:Bool→Prop):Prop:=match b with
 |true=>K true
 |false=>K false
theorem Xa (b:Bool) (K:Bool→Prop):AaK b K↔K b:=by cases b<;>exact Iff.rfl
def XY (env:Env):List (Nat×AO)→(List (Nat×AV)→Prop)→Prop
 |[],K=>K []
 |(j,x)::ps,K=>(x.val env).force fun v=>XY env ps fun r=>K ((j,v)::r)
theorem SE (env:Env):∀(ps:List (Nat×AO)) (K:List (Nat×AV)→Prop),XY env ps K↔K (Og env ps)
 |[],_=>Iff.rfl
 |(j,x)::ps,K=>by simp only[XY,force_eq,Og];exact SE env ps _
def FC (z:AV):Nat→List (Nat×AV)→Nat→(List AV→Prop)→Prop
 |0,_,_,K=>K []
 |n+1,[],i,K=>FC z n [] (i+1) fun r=>K (z::r)
 |n+1,(j,v)::ps,i,K=>bif Nat.beq i j then FC z n ps (i+1) fun r=>K (v::r)else FC z n ((j,v)::ps) (i+1) fun r=>K (z::r)
theorem Gp (z:AV):∀(n:Nat) (ps:List (Nat×AV)) (i:Nat) (K:List AV→Prop),FC z n ps i K↔K (Bl z n ps i)
 |0,_,_,_=>by simp only[FC,Bl]
 |n+1,[],i,K=>by simp only[FC,Bl];exact Gp z n [] (i+1) _
 |n+1,(j,v)::ps,i,K=>by
  simp only[FC,Bl]
  cases Nat.beq i j
  ·exact Gp z n _ (i+1) _
  ·exact Gp z n _ (i+1) _
def Xb (es:Nat) (v:AV) (s:Ai) (K:List AV→Bool→Prop):Prop:=match v with
 | .sl _ xs=>K xs true
 | .zc=>K [] true
 |v=>KA (elemsOf s es v) fun r=>K r.1 r.2
theorem Ug {es:Nat} {v:AV} {s:Ai} {K:List AV→Bool→Prop} (h:Xb es v s K):∃ys c,elemsOf s es v=some (ys,c)∧K ys c:=by
 unfold Xb at h
 split at h
 ·exact⟨_,_,rfl,h⟩
 ·exact⟨_,_,rfl,h⟩
 ·obtain⟨⟨ys,c⟩,h1,h2⟩:=h
  exact⟨ys,c,h1,h2⟩
def Ack (off j:Nat) (K:Nat→Prop):Prop:=match off with
 |0=>K j
 |n+1=>K (n+1+j)
theorem Vl (off j:Nat) (K:Nat→Prop):Ack off j K↔K (off+j):=by
 cases off with
 |zero=>simp[Ack]
 |succ n=>exact Iff.rfl
structure Hy (t:Jj) (k:AV) (ents:List (AV×AV)) (K:Option (Nat×AV)→Prop):Prop where
 mk::(h:∃r,findKey t k ents 0=some r∧K r)
def AaL (k v:AV) (ents:List (AV×AV)) (r:Option (Nat×AV)):List (AV×AV):=match r with
 |some (i,_)=>ents.set i (k,v)
 |none=>ents++[(k,v)]
structure MW (t:Jj) (k v:AV) (ents:List (AV×AV)) (K:List (AV×AV)→Prop):Prop where
 mk::(h:∃r,findKey t k ents 0=some r∧K (AaL k v ents r))
def Uh (env:Env) (d:Nat) (x:Option AO) (K:Nat→Prop):Prop:=match x with
 |none=>K d
 |some x=>match x.val env with
  | .int _ n=>need (0≤n) (K n.toNat)
  |_=>False
def PV (env:Env) (len:Nat) (lo hi:Option AO) (K:Nat→Nat→Prop):Prop:=
 Uh env len hi fun h=>Uh env 0 lo fun l=>need (l≤h∧h≤len) (K l h)
theorem NS {env:Env} {d:Nat} {x:Option AO} {K:Nat→Prop} (h:Uh env d x K):∃n,(match x with|none=>some d|some x=>bound (x.val env))=some n∧K n:=by
 unfold Uh at h
 split at h
 ·exact⟨d,rfl,h⟩
 ·rename_i x
  split at h
  ·rename_i k n hv
   exact⟨n.toNat,by simp only[hv,bound,if_pos h.1],h.2⟩
  ·cases h
theorem IV {env:Env} {len:Nat} {lo hi:Option AO} {K:Nat→Nat→Prop} (h:PV env len lo hi K):∃l u,bounds env len lo hi=some (l,u)∧K l u:=by
 obtain⟨u,h1,h2⟩:=NS h
 obtain⟨l,h3,h4,h5⟩:=NS h2
 refine⟨l,u,?_,h5⟩
 unfold bounds
 cases hi<;>cases lo<;>simp_all
def JH (AP:Nat→Option Ji) (o:BR) (env:Env) (s:Ai) (K:AA→Ai→Prop):Prop:=
 match o with
 | .Yp x=>done (x.val env) s K
 | .IJ es=>Uf s (fun o g=>.own o g 0 0) (fun g=>.arr g es false true []) K
 | .Jq off e2 es cs=>match nth cs off with
   |some (.sl false [])=>need (0<e2) (Uf s (fun o g=>.own o g 0 0) (fun g=>.arr g e2 false true []) fun out s1=>match out with
        | .ok v=>Uf s1 (fun o g=>.ref o g 0 0) (fun g=>.arr g es true (AV.agg (cs.set off v)).closed [.agg (cs.set off v)]) K
        | .D9 _=>False)
   |_=>False
 | .pick c a b=>match c.val env with
   | .bool c=>JR c (done (a.val env) s K) (done (b.val env) s K)
   |_=>False
 | .alloc es z=>Uf s (fun o g=>.ref o g 0 0) (fun g=>.arr g es true z.closed [z]) K
 | .box es x=>(x.val env).force fun v=>need ((v.storable&&v.cells.length==es)=true) (Uf s (fun o g=>.ref o g 0 0) (fun g=>.arr g es true v.closed [v]) K)
 | .build z parts=>KA (DY z (Jr env parts)) fun cs=>K (.ok (.agg cs)) s
 | .load sz a=>match a.val env with
   | .CP cs=>KA (loadCells cs sz) fun v=>done v s K
   | .ref o g i off=>match nth s.σ o with
     |some (.arr g' _ _ _ elems)=>need (g=g') (Ue elems i fun x=>KA (loadCells (x.cells.drop off) sz) fun v=>done v s K)
     |_=>False
   |_=>False
 | .store sz a x=>match a.val env with
   | .ref o g i off=>match nth s.σ o with
     |some (.arr g' es nn cl elems)=>need (g=g') (Ue elems i fun y=>(x.val env).force fun v=>need ((v.storable&&v.cells.length==sz&&off+sz≤es)=true)
       (AdR cl v.closed fun cl'=>eqK (elems.set i (Bz y off v)) fun es'=>J9 s.σ o (.arr g' es nn cl' es') fun σ=>K (.ok .undef) ⟨σ,s.ctr⟩))
     |_=>False
   |_=>False
 | .Oe x=>match x.val env with
   | .ref o g i off=>K (.ok (.ref o g i off)) s
   | .CP cs=>K (.ok (.CP cs)) s
   | .fn f cs=>K (.ok (.fn f cs)) s
   |_=>False
 | .bin op t x y=>AdQ op t (x.val env) (y.val env) fun v=>K (.ok v) s
 | .un op x=>match op,x.val env with
   | .not,.bool b=>JR b (K (.ok (.bool false)) s) (K (.ok (.bool true)) s)
   | .neg,.int k n=>JQ k (0-n) fun v=>K (.ok v) s
   |_,_=>False
 | .conv k x=>match x.val env with
   | .int _ n=>JQ k n fun v=>K (.ok v) s
   |_=>False
 | .field off sz x=>match x.val env with
   | .agg cs=>KA (loadCells (cs.drop off) sz) fun v=>done v s K
   |_=>False
 | .P9 off x=>match x.val env with
   | .CP cs=>K (.ok (.CP (cs.drop off))) s
   | .ref o g i off'=>K (.ok (.ref o g i (off'+off))) s
   |_=>False
 | .Qa es x i=>match x.val env,i.val env with
   | .sl _ xs,.int _ i=>need (0≤i) (Ue xs i.toNat fun v=>need (v.cells.length=es) (K (.ok (.CP v.cells)) s))
   | .own o g off len,.int _ i=>match nth s.σ o with
     |some (.arr g' es' _ _ _)=>need (g=g'∧es=es'∧0≤i∧i<len) (Ack off i.toNat fun j=>K (.ok (.ref o g j 0)) s)
     |_=>False
   |_,_=>False
 | .len k x=>match k,x.val env with
   | .slice,.sl _ xs=>eqK xs.length fun n=>K (.ok (.int .i64 n)) s
   | .slice,.own _ _ _ n=>K (.ok (.int .i64 n)) s
   | .str,.str bs=>K (.ok (.int .i64 bs.length)) s
   | .map,.map o g=>match nth s.σ o with
     |some (.mp g' _ ents)=>need (g=g') (K (.ok (.int .i64 ents.length)) s)
     |_=>False
   | .map,.fmap ents=>K (.ok (.int .i64 ents.length)) s
   |_,_=>Vh (.len k x) env s K
 | .MQ=>Uf s (fun o g=>.map o g) (fun g=>.mp g true []) K
 | .lookup t z PI m k=>match m.val env with
   | .map o g=>match nth s.σ o with
     |some (.mp g' _ ents)=>need (g=g'∧Iq t (k.val env)=true) (Hy t (k.val env) ents fun r=>match r with
      |some (_,v)=>bif PI then K (.ok (.EY [v,.bool true])) s else done v s K
      |none=>bif PI then K (.ok (.EY [z,.bool false])) s else done z s K)
     |_=>False
   | .fmap ents=>need (Iq t (k.val env)=true) (Hy t (k.val env) ents fun r=>match r with
        |some (_,v)=>bif PI then K (.ok (.EY [v,.bool true])) s else done v s K
        |none=>bif PI then K (.ok (.EY [z,.bool false])) s else done z s K)
   |_=>Vh (.lookup t z PI m k) env s K
 | .mapset t m k v=>match m.val env with
   | .map o g=>match nth s.σ o with
     |some (.mp g' cl ents)=>(v.val env).force fun vv=>need (g=g'∧Iq t (k.val env)=true∧vv.storable=true)
       (AdR cl vv.closed fun cl'=>MW t (k.val env) vv ents fun XH=>J9 s.σ o (.mp g' cl' XH) fun σ=>K (.ok .undef) ⟨σ,s.ctr⟩)
     |_=>False
   |_=>False
 | .delete t m k=>match m.val env with
   | .map o g=>match nth s.σ o with
     |some (.mp g' cl ents)=>need (g=g'∧Iq t (k.val env)=true) (Hy t (k.val env) ents fun r=>match r with
      |some (i,_)=>J9 s.σ o (.mp g' cl (ents.eraseIdx i)) fun σ=>K (.ok .undef) ⟨σ,s.ctr⟩
      |none=>K (.ok .undef) s)
     |_=>False
   |_=>False
 | .lit own es z len parts=>XY env parts fun ps=>need (Qc es len ps 0=true) (FC z len ps 0 fun xs=>
    bif own then AaK (GY ps) fun c=>Uf s (fun o g=>.own o g 0 len) (fun g=>.arr g es true c xs) K
    else bif Nat.beq len 0 then K (.ok .zc) s else need (GY ps=true) (K (.ok (.sl true xs)) s))
 | .Wh x i=>match x.val env,i.val env with
   | .str bs,.int _ i=>need (0≤i) (Ue bs i.toNat fun b=>K (.ok (.int .u8 b.toNat)) s)
   |_,_=>False
 | .slice es x lo hi=>match x.val env with
   | .sl nn xs=>PV env xs.length lo hi fun l h=>need (AZ es xs) (eqK (sub xs l (h-l)) fun ys=>K (.ok (.sl nn ys)) s)
   | .own o g off len=>match nth s.σ o with
     |some (.arr g' es' _ _ _)=>need (g=g'∧es=es') (PV env len lo hi fun l h=>Ack off l fun j=>K (.ok (.own o g j (h-l))) s)
     |_=>False
   |_=>Vh (.slice es x lo hi) env s K
 | .J5 x lo hi=>match x.val env with
   | .str bs=>PV env bs.length lo hi fun l h=>eqK ((bs.drop l).take (h-l)) fun r=>K (.ok (.str r)) s
   |_=>False
 | .append es bytes a x=>Xb es (x.val env) s fun ys c=>match a.val env with
   | .own o g 0 len=>match nth s.σ o with
     |some (.arr g' es' nn cl' elems)=>KT g g' es es' len nn cl' c elems ys bytes fun n nn cl es'=>J9 s.σ o (.arr s.ctr es nn cl es') fun σ=>K (.ok (.own o s.ctr 0 n)) ⟨σ,s.ctr+1⟩
     |_=>False
   |v=>KA (DL es bytes s v ys c) fun r=>done r.1 r.2 K
 | .GX es bytes z len cap=>match len.val env,cap.val env with
   | .int _ l,.int _ c=>need (0≤l∧l≤c∧roomy bytes c.toNat) (eqK (List.replicate l.toNat z) fun xs=>Uf s (fun o g=>.own o g 0 l.toNat) (fun g=>.arr g es true z.closed xs) K)
   |_,_=>False
 | .ext x i=>match x.val env with
   | .EY cs=>KA (nth cs i) fun v=>done v s K
   |_=>False
 | .call m f args=>AaJ AP m f (vals env args) s K
 | .Gt m x args=>match x.val env with
   | .fn f caps=>AaJ AP m f (vals env args++caps) s K
   |_=>False
 |o=>Vh o env s K
theorem YV (C:Aq):ET W9 C:=fun _ _ _ _ h=>by cases h
theorem Cj (v:AV) (s:Ai) (K:AA→Ai→Prop):done v s K↔K (.ok v) s:=QT v _
theorem IC {o:BR} {env:Env} {s:Ai} {K:AA→Ai→Prop} (h:Vh o env s K):Op1 AP o env s K:=by
 obtain⟨⟨out,s'⟩,h1,h2⟩:=h
 refine⟨0,out,s',BN (YV _) h1,?_⟩
 cases out with
 |ok v=>exact(Cj v s' K).1 h2
 |D9 v=>exact h2
theorem OW {m:Mode} {f:Nat} {args:List AV} {s:Ai} {K:AA→Ai→Prop} (h:AaJ AP m f args s K):∃N out s',AQ (run AP N) m f args s=some (out,s')∧K out s':=by
 cases m with
 |pure=>
  obtain⟨hc,v,⟨N,hp⟩,hk⟩:=h
  exact⟨N,.ok v,s,by simp only[AQ,if_pos hc,hp,Option.map_some],(Cj v s K).1 hk⟩
 |borrow=>
  obtain⟨args',ha,v,⟨N,hp⟩,hs,hk⟩:=G9 h
  exact⟨N,.ok v,s,by simp only[AQ,ha,hp,if_pos hs],(Cj v s K).1 hk⟩
 |share=>
  obtain⟨N,out,s',hr,hk⟩:=h
  cases out with
  |ok r=>
   obtain⟨⟨r',s''⟩,h1,h2⟩:=hk
   exact⟨N,.ok r',s'',by simp only[AQ,hr,h1,Option.map_some],(Cj r' s'' K).1 h2⟩
  |D9 v=>
   obtain⟨h1,h2⟩:=hk
   exact⟨N,.D9 v,_,by simp only[AQ,hr,if_pos h1],h2⟩
 |own=>
  obtain⟨N,r,s',h1,h2⟩:=h
  exact⟨N,.ok r,s',h1,(Cj r s' K).1 h2⟩
 |keep=>
  obtain⟨N,out,s',hr,hk⟩:=h
  cases out with
  |ok r=>exact⟨N,.ok r,s',hr,(Cj r s' K).1 hk⟩
  |D9 v=>exact⟨N,.D9 v,s',hr,hk⟩
theorem Gw {s:Ai} {mk:Nat→Nat→AV} {ob:Nat→Obj} {K:AA→Ai→Prop}:Uf s mk ob K↔K (.ok (mk s.σ.length s.ctr)) (push s (ob s.ctr)):=Oo _ _ _
theorem Hq {o:BR} {env:Env} {s:Ai} {K:AA→Ai→Prop} (h:JH AP o env s K):Op1 AP o env s K:=by
 cases o
 case Yp x=>exact⟨0,_,_,rfl,(Cj _ _ _).1 h⟩
 case IJ es=>simp only[JH]at h;exact⟨0,_,_,rfl,Gw.1 h⟩
 case Jq off e2 es cs=>
  simp only[JH]at h
  split at h
  case h_2=>cases h
  rename_i hoff
  obtain⟨he,h⟩:=h
  have h:=Gw.1 h
  have h:=Gw.1 h
  refine⟨0,_,_,?_,h⟩
  simp only[Af,hoff,if_pos he]
  simp[push]
 case pick c a b=>
  simp only[JH]at h
  split at h
  ·rename_i c' hc
   cases c'
   ·exact⟨0,_,_,by simp only[Af,hc],(Cj _ _ _).1 h⟩
   ·exact⟨0,_,_,by simp only[Af,hc],(Cj _ _ _).1 h⟩
  ·cases h
 case alloc es z=>simp only[JH]at h;exact⟨0,_,_,rfl,Gw.1 h⟩
 case box es x=>
  simp only[JH,force_eq]at h
  obtain⟨h1,h2⟩:=h
  exact⟨0,_,_,by simp only[Af,if_pos h1],Gw.1 h2⟩
 case build z ps=>
  obtain⟨cs,h1,h2⟩:=h
  exact⟨0,_,_,by simp only[Af,h1,Option.map_some],h2⟩
 case load sz a=>
  simp only[JH]at h
  split at h
  ·rename_i cs hv
   obtain⟨v,h1,h2⟩:=h
   exact⟨0,_,_,by simp only[Af,hv,ok,h1,Option.map_some],(Cj _ _ _).1 h2⟩
  ·rename_i o g i off hv
   split at h
   ·rename_i g' es nn cl elems ho
    obtain⟨hg,x,hx,v,h1,h2⟩:=h
    exact⟨0,_,_,by simp only[Af,hv,ho,if_pos hg,hx,ok,h1,Option.map_some],(Cj _ _ _).1 h2⟩
   ·cases h
  ·cases h
 case store sz a x=>
  simp only[JH]at h
  split at h
  ·rename_i o g i off hv
   split at h
   ·rename_i g' es nn cl elems ho
    obtain⟨hg,y,hy,h⟩:=h
    rw[force_eq]at h
    obtain⟨h1,h2⟩:=h
    rw[Vk]at h2
    obtain⟨es',rfl,h2⟩:=h2
    rw[EX]at h2
    exact⟨0,_,_,by simp only[Af,hv,ho,if_pos hg,hy,h1,if_true],h2⟩
   ·cases h
  ·cases h
 case Oe x=>
  simp only[JH]at h
  split at h
  ·rename_i hv;exact⟨0,_,_,by simp only[Af,hv],h⟩
  ·rename_i hv;exact⟨0,_,_,by simp only[Af,hv],h⟩
  ·rename_i hv;exact⟨0,_,_,by simp only[Af,hv],h⟩
  ·cases h
 case bin op t x y=>
  obtain⟨v,h1,h2⟩:=WZ h
  exact⟨0,_,_,by simp only[Af,ok,h1,Option.map_some],h2⟩
 case un op x=>
  simp only[JH]at h
  split at h
  ·rename_i b hv
   cases b
   ·exact⟨0,_,_,by simp only[Af,hv,Bool.not_false],h⟩
   ·exact⟨0,_,_,by simp only[Af,hv,Bool.not_true],h⟩
  ·rename_i k n hv
   obtain⟨y,h1,h2⟩:=h
   exact⟨0,_,_,by simp only[Af,hv,h1],h2⟩
  ·cases h
 case conv k x=>
  simp only[JH]at h
  split at h
  ·rename_i k' n hv
   obtain⟨y,h1,h2⟩:=h
   exact⟨0,_,_,by simp only[Af,hv,h1],h2⟩
  ·cases h
 case field off sz x=>
  simp only[JH]at h
  split at h
  ·rename_i cs hv
   obtain⟨v,h1,h2⟩:=h
   exact⟨0,_,_,by simp only[Af,hv,ok,h1,Option.map_some],(Cj _ _ _).1 h2⟩
  ·cases h
 case P9 off x=>
  simp only[JH]at h
  split at h
  ·rename_i hv;exact⟨0,_,_,by simp only[Af,hv],h⟩
  ·rename_i hv;exact⟨0,_,_,by simp only[Af,hv],h⟩
  ·cases h
 case Qa es x i=>
  simp only[JH]at h
  split at h
  ·rename_i nn xs k n hx hi
   obtain⟨h0,v,h1,h2,h3⟩:=h
   exact⟨0,_,_,by simp only[Af,hx,hi,if_pos h0,h1,if_pos h2],h3⟩
  ·rename_i o g off len k n hx hi
   split at h
   ·rename_i g' es' nn cl elems ho
    obtain⟨h1,h2⟩:=h
    rw[Vl]at h2
    exact⟨0,_,_,by simp only[Af,hx,hi,ho,if_pos h1],h2⟩
   ·cases h
  ·cases h
 case len k x=>
  simp only[JH]at h
  split at h
  ·rename_i hv
   obtain⟨n,rfl,h⟩:=h
   exact⟨0,_,_,by simp only[Af,hv],h⟩
  ·rename_i hv;exact⟨0,_,_,by simp only[Af,hv],h⟩
  ·rename_i hv;exact⟨0,_,_,by simp only[Af,hv],h⟩
  ·rename_i o g hv
   split at h
   ·rename_i g' cl ents ho
    obtain⟨h1,h2⟩:=h
    exact⟨0,_,_,by simp only[Af,hv,ho,if_pos h1],h2⟩
   ·cases h
  ·rename_i hv;exact⟨0,_,_,by simp only[Af,hv],h⟩
  ·exact IC h
 case Wh x i=>
  simp only[JH]at h
  split at h
  ·rename_i bs k n hx hi
   obtain⟨h1,b,h2,h3⟩:=h
   exact⟨0,_,_,by simp only[Af,hx,hi,if_pos h1,h2],h3⟩
  ·cases h
 case slice es x lo hi=>
  simp only[JH]at h
  split at h
  ·rename_i nn xs hx
   obtain⟨l,u,h1,h2,ys,rfl,h3⟩:=IV h
   exact⟨0,_,_,by simp only[Af,hx,h1,if_pos h2],h3⟩
  ·rename_i o g off len hx
   split at h
   ·rename_i g' es' nn cl elems ho
    obtain⟨hg,h⟩:=h
    obtain⟨l,u,h1,h2⟩:=IV h
    rw[Vl]at h2
    exact⟨0,_,_,by simp only[Af,hx,ho,if_pos hg,h1],h2⟩
   ·cases h
  ·exact IC h
 case J5 x lo hi=>
  simp only[JH]at h
  split at h
  ·rename_i bs hx
   obtain⟨l,u,h1,r,rfl,h2⟩:=IV h
   exact⟨0,_,_,by simp only[Af,hx,h1],h2⟩
  ·cases h
 case MQ=>simp only[JH]at h;exact⟨0,_,_,rfl,Gw.1 h⟩
 case lookup t z PI m k=>
  simp only[JH]at h
  split at h
  ·rename_i o g hv
   split at h
   ·rename_i g' cl ents ho
    obtain⟨h1,r,h2,h3⟩:=h
    cases r with
    |none=>
     cases PI
     ·exact⟨0,_,_,by simp only[Af,hv,ho,if_pos h1,h2];rfl,(Cj _ _ _).1 h3⟩
     ·exact⟨0,_,_,by simp only[Af,hv,ho,if_pos h1,h2];rfl,h3⟩
    |some p=>
     cases PI
     ·exact⟨0,_,_,by simp only[Af,hv,ho,if_pos h1,h2];rfl,(Cj _ _ _).1 h3⟩
     ·exact⟨0,_,_,by simp only[Af,hv,ho,if_pos h1,h2];rfl,h3⟩
   ·cases h
  ·rename_i ents hv
   obtain⟨h1,r,h2,h3⟩:=h
   cases r with
   |none=>
    cases PI
    ·exact⟨0,_,_,by simp only[Af,hv,if_pos h1,h2];rfl,(Cj _ _ _).1 h3⟩
    ·exact⟨0,_,_,by simp only[Af,hv,if_pos h1,h2];rfl,h3⟩
   |some p=>
    cases PI
    ·exact⟨0,_,_,by simp only[Af,hv,if_pos h1,h2];rfl,(Cj _ _ _).1 h3⟩
    ·exact⟨0,_,_,by simp only[Af,hv,if_pos h1,h2];rfl,h3⟩
  ·exact IC h
 case mapset t m k v=>
  simp only[JH]at h
  split at h
  ·rename_i o g hv
   split at h
   ·rename_i g' cl ents ho
    rw[force_eq]at h
    obtain⟨h1,h2⟩:=h
    rw[Vk]at h2
    obtain⟨r,h2,h3⟩:=h2
    rw[EX]at h3
    cases r with
    |none=>exact⟨0,_,_,by simp only[Af,hv,ho,if_pos h1,h2];rfl,h3⟩
    |some p=>exact⟨0,_,_,by simp only[Af,hv,ho,if_pos h1,h2];rfl,h3⟩
   ·cases h
  ·cases h
 case delete t m k=>
  simp only[JH]at h
  split at h
  ·rename_i o g hv
   split at h
   ·rename_i g' cl ents ho
    obtain⟨h1,r,h2,h3⟩:=h
    cases r with
    |none=>exact⟨0,_,_,by simp only[Af,hv,ho,if_pos h1,h2],h3⟩
    |some p=>
     simp only at h3
     rw[EX]at h3
     exact⟨0,_,_,by simp only[Af,hv,ho,if_pos h1,h2],h3⟩
   ·cases h
  ·cases h
 case lit own es z len parts=>
  simp only[JH,SE]at h
  obtain⟨h1,h2⟩:=h
  rw[Gp]at h2
  cases own
  ·rw[cond_false]at h2
   cases hb:Nat.beq len 0
   ·rw[hb,cond_false]at h2
    have hne:len≠0:=fun e=>by subst e;simp at hb
    exact⟨0,_,_,by simp only[Af,if_pos h1,if_neg hne,if_pos h2.1];rfl,h2.2⟩
   ·rw[hb,cond_true]at h2
    have he:len=0:=Nat.eq_of_beq_eq_true hb
    exact⟨0,_,_,by simp only[Af,if_pos h1,if_pos he];rfl,h2⟩
  ·rw[cond_true,Xa]at h2
   exact⟨0,_,_,by simp only[Af,if_pos h1,if_true],Gw.1 h2⟩
 case append es bytes a x=>
  simp only[JH]at h
  obtain⟨ys,cl,h1,h⟩:=Ug h
  split at h
  ·rename_i o g len hv
   split at h
   ·rename_i g' es' nn cl' elems ho
    obtain⟨h2,h3⟩:=h
    rw[EX]at h3
    exact⟨0,_,_,by simp only[Af,h1,hv,DL,ho,if_pos h2,Option.map_some],h3⟩
   ·cases h
  ·obtain⟨⟨v,s'⟩,h2,h3⟩:=h
   exact⟨0,_,_,by simp only[Af,h1,h2,Option.map_some],(Cj _ _ _).1 h3⟩
 case GX es bytes z len cap=>
  simp only[JH]at h
  split at h
  ·rename_i k l k' c hl hc
   obtain⟨h1,xs,rfl,h2⟩:=h
   exact⟨0,_,_,by simp only[Af,hl,hc,if_pos h1],Gw.1 h2⟩
  ·cases h
 case ext x i=>
  simp only[JH]at h
  split at h
  ·rename_i cs hv
   obtain⟨v,h1,h2⟩:=h
   exact⟨0,_,_,by simp only[Af,hv,ok,h1,Option.map_some],(Cj _ _ _).1 h2⟩
  ·cases h
 case call m f args=>exact OW h
 case Gt m x args=>
  simp only[JH]at h
  split at h
  ·rename_i f caps hv
   obtain⟨N,out,s',h1,h2⟩:=OW h
   exact⟨N,out,s',by simp only[Af,hv];exact h1,h2⟩
  ·cases h
 all_goals exact IC h
end AI
end Go.Proofs.YtjjhejbffgaabaaGreatDoor
namespace Go.Proofs.YtjjhejbffgaabaaGreatDoor
namespace AI
open Go.RowKit
variable {AP:Nat→Option Ji}
def Fa (g:Option (Nat×Bool)) (env:Env) (t e:Prop):Prop:=match g with
 |none=>t
 |some (r,b)=>match env.get r with
  | .bool b'=>JR (b'==b) t e
  | .undef=>e
  |_=>False
def AaM (k:Env→Ai→Prop) (d:Option Nat) (env:Env) (Q:A8→Env→Ai→Prop) (out:AA) (s:Ai):Prop:=match out with
 | .ok v=>k (put d v env) s
 | .D9 v=>Q (.D9 v) env s
def Vm (AP:Nat→Option Ji) (ops:List Ap):Env→Ai→(A8→Env→Ai→Prop)→Prop:=
 List.rec (motive:=fun _=>Env→Ai→(A8→Env→Ai→Prop)→Prop) (fun env s Q=>Q .normal env s)
    (fun o _ ih env s Q=>Fa o.guard env (JH AP o.op env s (AaM (fun env s=>ih env s Q) o.dst env Q)) (ih (put o.dst .undef env) s Q)) ops
theorem YW (o:Ap) (os:List Ap) (env:Env) (s:Ai) (Q:A8→Env→Ai→Prop):Vm AP (o::os) env s Q=Fa o.guard env
 (JH AP o.op env s (AaM (fun env s=>Vm AP os env s Q) o.dst env Q))
 (Vm AP os (put o.dst .undef env) s Q):=rfl
theorem JI:∀{os:List Ap} {env:Env} {s:Ai} {Q:A8→Env→Ai→Prop},Vm AP os env s Q→Ops AP os env s Q
 |[],env,s,Q,h=>⟨0,_,_,_,rfl,h⟩
 |o::os,env,s,Q,h=>by
  have KC:wanted o.guard env=some false→Vm AP os (put o.dst .undef env) s Q→Ops AP (o::os) env s Q:=by
   intro hw h
   obtain⟨N,e,env',s',h1,h2⟩:=JI h
   exact⟨N,e,env',s',by simp only[Dl,hw];exact h1,h2⟩
  have hdo:wanted o.guard env=some true→JH AP o.op env s (AaM (fun env s=>Vm AP os env s Q) o.dst env Q)→Ops AP (o::os) env s Q:=by
   intro hw h
   obtain⟨N,out,s1,h1,h2⟩:=Hq h
   cases out with
   |ok v=>
    obtain⟨N',e,env',s',h3,h4⟩:=JI h2
    refine⟨max N N',e,env',s',?_,h4⟩
    simp only[Dl,hw,BN (Bd (Nat.le_max_left N N')) h1]
    exact EC (Bd (Nat.le_max_right N N')) h3
   |D9 v=>exact⟨N,_,_,_,by simp only[Dl,hw,h1],h2⟩
  rw[YW]at h
  unfold Fa at h
  split at h
  ·rename_i hg
   exact hdo (by rw[hg];rfl) h
  ·rename_i r b hg
   split at h
   ·rename_i b' hb
    cases hbb:(b'==b)
    ·rw[hbb]at h
     exact KC (by rw[hg];simp only[wanted,hb,hbb]) h
    ·rw[hbb]at h
     exact hdo (by rw[hg];simp only[wanted,hb,hbb]) h
   ·rename_i hb
    exact KC (by rw[hg];simp only[wanted,hb]) h
   ·cases h
def JJ:List Nat→Env→(Env→Prop)→Prop
 |[],_,K=>K []
 |t::ts,env,K=>(env.get t).force fun v=>JJ ts env fun e=>K ((t,v)::e)
theorem DX:∀(ts:List Nat) (env:Env) (K:Env→Prop),JJ ts env K↔K (commit env ts)
 |[],_,_=>Iff.rfl
 |t::ts,env,K=>by
  simp only[JJ,force_eq,commit]
  exact DX ts env _
def Ro:List Nat→Env→Ai→(Env→Ai→Prop)→Prop
 |[],env,s,K=>K env s
 |t::ts,env,s,K=>match env.get t with
  | .own o g off len=>match nth s.σ o with
    |some (.arr g' _ nn cl elems)=>need (g=g'∧cl=true∧off+len≤elems.length) (eqK (sub elems off len) fun xs=>J9 s.σ o .dead fun σ=>Ro ts ((t,.sl nn xs)::env) ⟨σ,s.ctr⟩ K)
    |_=>False
  | .ref o g i off=>match nth s.σ o with
    |some (.arr g' _ nn cl elems)=>need (g=g'∧cl=true) (Ue elems i fun x=>J9 s.σ o .dead fun σ=>Ro ts ((t,.CP (x.cells.drop off))::env) ⟨σ,s.ctr⟩ K)
    |_=>False
  | .map o g=>match nth s.σ o with
    |some (.mp g' cl ents)=>need (g=g'∧cl=true∧UE ents=true) (J9 s.σ o .dead fun σ=>Ro ts ((t,.fmap ents)::env) ⟨σ,s.ctr⟩ K)
    |_=>False
  | .sl nn xs=>Ro ts ((t,.sl nn xs)::env) s K
  | .zc=>Ro ts ((t,.zc)::env) s K
  |_=>False
theorem EF:∀{ts:List Nat} {env:Env} {s:Ai} {K:Env→Ai→Prop},Ro ts env s K→∃env' s',Gu ts env s=some (env',s')∧K env' s'
 |[],env,s,K,h=>⟨env,s,rfl,h⟩
 |t::ts,env,s,K,h=>by
  simp only[Ro]at h
  split at h
  ·rename_i o g off len hv
   split at h
   ·rename_i g' es nn cl elems ho
    obtain⟨⟨rfl,rfl,hf⟩,xs,rfl,h⟩:=h
    rw[EX]at h
    obtain⟨env',s',h1,h2⟩:=EF h
    exact⟨env',s',by simp only[Gu,hv,ho,true_and,if_pos hf];exact h1,h2⟩
   ·cases h
  ·rename_i o g i off hv
   split at h
   ·rename_i g' es nn cl elems ho
    obtain⟨⟨rfl,rfl⟩,⟨x,hx,h⟩⟩:=h
    rw[EX]at h
    obtain⟨env',s',h1,h2⟩:=EF h
    exact⟨env',s',by simp only[Gu,hv,ho,if_pos,hx];exact h1,h2⟩
   ·cases h
  ·rename_i o g hv
   split at h
   ·rename_i g' cl ents ho
    obtain⟨⟨rfl,rfl,hk⟩,h⟩:=h
    rw[EX]at h
    obtain⟨env',s',h1,h2⟩:=EF h
    exact⟨env',s',by simp only[Gu,hv,ho,true_and,if_pos hk];exact h1,h2⟩
   ·cases h
  ·rename_i nn xs hv
   obtain⟨env',s',h1,h2⟩:=EF h
   exact⟨env',s',by simp only[Gu,hv];exact h1,h2⟩
  ·rename_i hv
   obtain⟨env',s',h1,h2⟩:=EF h
   exact⟨env',s',by simp only[Gu,hv];exact h1,h2⟩
  ·cases h
def SG {α:Type}:Nat→List α→(List α→Prop)→Prop
 |0,_,K=>K []
 |_+1,[],K=>K []
 |n+1,x::xs,K=>SG n xs fun ys=>K (x::ys)
theorem OA {α:Type}:∀(n:Nat) (l:List α) (K:List α→Prop),SG n l K↔K (l.take n)
 |0,_,_=>by simp[SG]
 |_+1,[],_=>by simp[SG]
 |n+1,x::xs,K=>OA n xs fun ys=>K (x::ys)
def AaN (tr:Option Nat) (s:Ai) (K:Ai→Prop):Prop:=match tr with
 |none=>K s
 |some k=>SG (kept k s.σ.length) s.σ fun σ=>K ⟨σ,s.ctr⟩
theorem Md (tr:Option Nat) (s:Ai) (K:Ai→Prop):AaN tr s K↔K (truncate tr s):=by
 cases tr with
 |none=>exact Iff.rfl
 |some k=>exact OA _ s.σ _
def AaO (live:List Nat) (tr:Option Nat) (Q:A8→Env→Ai→Prop) (e:A8) (env:Env) (s:Ai):Prop:=match e with
 | .normal=>JJ live env fun env=>AaN tr s fun s=>Q .normal env s
 |e=>Q e env s
def Ag3 (k:Env→Ai→Prop) (Q:A8→Env→Ai→Prop) (e:A8) (env:Env) (s:Ai):Prop:=match e with
 | .normal=>k env s
 |e=>Q e env s
def Afk (id:Nat) (Q:A8→Env→Ai→Prop) (e:A8) (env:Env) (s:Ai):Prop:=match e with
 | .exit j=>JR (Nat.beq j id) (Q .normal env s) (Q (.exit j) env s)
 |e=>Q e env s
def Ui (AP:Nat→Option Ji) (o:BR) (r g:Nat) (env:Env) (s:Ai) (K:AV→Option (Nat×Obj)→Nat→Prop):Prop:=
 JH AP o env s fun out s'=>match out with
    | .D9 _=>False
    | .ok v=>match o.cls with
      |some .e=>K v none 0
      |some .r=>K v none 0
      |some .w=>match o.writes r env with
       |[t]=>match nth s'.σ t with
        |some ob=>K v (some (t,ob)) 0
        |none=>False
       |_=>False
      |some .a=>match nth s'.σ v.idx with
       |some ob=>bif Nat.blt v.idx s.σ.length then K (v.moved v.idx g) (some (v.idx,ob.OI g)) 1
        else match nth s.σ r with
           |some .dead=>K (v.moved r g) (some (r,ob.OI g)) 1
           |_=>False
       |none=>False
      |none=>False
theorem Uj {o:BR} {r g:Nat} {env:Env} {s:Ai} {K:AV→Option (Nat×Obj)→Nat→Prop} (h:Ui AP o r g env s K):∃N v u b,H7 (run AP N) o r g env s=some (v,u,b)∧K v u b:=by
 obtain⟨N,out,s',h1,h2⟩:=Hq h
 cases out with
 |D9 v=>cases h2
 |ok v=>
  simp only at h2
  split at h2
  ·rename_i hc;exact⟨N,_,_,_,by simp only[H7,hc,h1],h2⟩
  ·rename_i hc;exact⟨N,_,_,_,by simp only[H7,hc,h1],h2⟩
  ·rename_i hc
   split at h2
   ·rename_i t ht
    split at h2
    ·rename_i ob hob;exact⟨N,_,_,_,by simp only[H7,hc,h1,ht,hob],h2⟩
    ·cases h2
   ·cases h2
  ·rename_i hc
   split at h2
   ·rename_i ob hob
    cases hb:Nat.blt v.idx s.σ.length
    ·rw[hb,cond_false]at h2
     have hlt:¬v.idx<s.σ.length:=fun hlt=>by
      have:=(show (Nat.blt v.idx s.σ.length=true) from Nat.blt_eq▸hlt)
      rw[hb]at this;cases this
     split at h2
     ·rename_i hd
      exact⟨N,_,_,_,by simp only[H7,hc,h1,hob,if_neg hlt,hd],h2⟩
     ·cases h2
    ·rw[hb,cond_true]at h2
     exact⟨N,_,_,_,by simp only[H7,hc,h1,hob,if_pos (show v.idx<s.σ.length from Nat.blt_eq▸hb)],h2⟩
   ·cases h2
  ·cases h2
def KZ (u:Option (Nat×Obj)) (b:Nat) (s:Ai) (K:Ai→Prop):Prop:=match u with
 |some (t,ob)=>J9 s.σ t ob fun σ=>K ⟨σ,s.ctr+b⟩
 |none=>K ⟨s.σ,s.ctr+b⟩
theorem OX (u:Option (Nat×Obj)) (b:Nat) (s:Ai) (K:Ai→Prop):KZ u b s K↔K (Eu u b s):=by
 unfold KZ Eu
 split
 ·exact EX _ _ _ _
 ·exact Iff.rfl
def Xc (AP:Nat→Option Ji) (ops:List Ap):Nat→Nat→Env→Ai→(List Eff→Prop)→Prop:=
 List.rec (motive:=fun _=>Nat→Nat→Env→Ai→(List Eff→Prop)→Prop) (fun _ _ _ _ K=>K [])
    (fun o _ ih r g env s K=>Fa o.guard env
      (Ui AP o.op r g env s fun v u b=>KZ u b s fun s'=>ih (r+rank o.op) (g+1) (put o.dst v env) s' fun es=>K (⟨o.dst,v,o.op.reads r env,o.op.writes r env,u,b⟩::es))
      (ih (r+rank o.op) (g+1) (put o.dst .undef env) s fun es=>K (⟨o.dst,.undef,[],[],none,0⟩::es))) ops
theorem YX (o:Ap) (os:List Ap) (r g:Nat) (env:Env) (s:Ai) (K:List Eff→Prop):Xc AP (o::os) r g env s K=Fa o.guard env
 (Ui AP o.op r g env s fun v u b=>KZ u b s fun s'=>Xc AP os (r+rank o.op) (g+1) (put o.dst v env) s' fun es=>K (⟨o.dst,v,o.op.reads r env,o.op.writes r env,u,b⟩::es))
 (Xc AP os (r+rank o.op) (g+1) (put o.dst .undef env) s fun es=>K (⟨o.dst,.undef,[],[],none,0⟩::es)):=rfl
theorem Me:∀{os:List Ap} {r g:Nat} {env:Env} {s:Ai} {K:List Eff→Prop},Xc AP os r g env s K→∃N es,GK (run AP N) os r g env s=some es∧K es
 |[],r,g,env,s,K,h=>⟨0,_,rfl,h⟩
 |o::os,r,g,env,s,K,h=>by
  have KC:wanted o.guard env=some false→(Xc AP os (r+rank o.op) (g+1) (put o.dst .undef env) s fun es=>K (⟨o.dst,.undef,[],[],none,0⟩::es))→∃N es,GK (run AP N) (o::os) r g env s=some es∧K es:=by
   intro hw h
   obtain⟨N,es,h1,h2⟩:=Me h
   exact⟨N,_,by simp only[GK,hw,h1],h2⟩
  have hdo:wanted o.guard env=some true→(Ui AP o.op r g env s fun v u b=>KZ u b s fun s'=>Xc AP os (r+rank o.op) (g+1) (put o.dst v env) s' fun es=>K (⟨o.dst,v,o.op.reads r env,o.op.writes r env,u,b⟩::es))→∃N es,GK (run AP N) (o::os) r g env s=some es∧K es:=by
   intro hw h
   obtain⟨N,v,u,b,h1,h2⟩:=Uj h
   rw[OX]at h2
   obtain⟨N',es,h3,h4⟩:=Me h2
   refine⟨max N N',_,?_,h4⟩
   simp only[GK,hw,QJ (Bd (Nat.le_max_left N N')) h1,Ic (Bd (AP:=AP) (Nat.le_max_right N N')) h3]
  rw[YX]at h
  unfold Fa at h
  split at h
  ·rename_i hg
   exact hdo (by rw[hg];rfl) h
  ·rename_i r' b hg
   split at h
   ·rename_i b' hb
    cases hbb:(b'==b)
    ·rw[hbb]at h
     exact KC (by rw[hg];simp only[wanted,hb,hbb]) h
    ·rw[hbb]at h
     exact hdo (by rw[hg];simp only[wanted,hb,hbb]) h
   ·rename_i hb
    exact KC (by rw[hg];simp only[wanted,hb]) h
   ·cases h
def AaP {α:Type}:List α→List α→(List α→Prop)→Prop
 |[],ys,K=>K ys
 |x::xs,ys,K=>AaP xs ys fun r=>K (x::r)
theorem SH {α:Type}:∀(xs ys:List α) (K:List α→Prop),AaP xs ys K↔K (xs++ys)
 |[],_,_=>Iff.rfl
 |x::xs,ys,K=>SH xs ys _
def PW:List Eff→Ai→(Ai→Prop)→Prop
 |[],s,K=>K s
 |e::es,s,K=>KZ e.upd e.bump s fun s=>PW es s K
theorem OY:∀(es:List Eff) (s:Ai) (K:Ai→Prop),PW es s K↔K (J6 es s)
 |[],_,_=>Iff.rfl
 |e::es,s,K=>by rw[PW,OX,J6];exact OY es _ K
def AdS (n:Nat) (σ:List Obj) (K:List Obj→Prop):Prop:=match n with
 |0=>K σ
 |n+1=>AaP σ (List.replicate (n+1) .dead) K
theorem AaQ (n:Nat) (σ:List Obj) (K:List Obj→Prop):AdS n σ K↔K (σ++List.replicate n .dead):=by
 cases n with
 |zero=>simp[AdS]
 |succ n=>exact SH _ _ _
def Vo {α:Type}:Nat→List α→(List α→Prop)→Prop
 |0,xs,K=>K xs
 |_+1,[],K=>K []
 |n+1,_::xs,K=>Vo n xs K
theorem SI {α:Type}:∀(n:Nat) (l:List α) (K:List α→Prop),Vo n l K↔K (l.drop n)
 |0,_,_=>by simp[Vo]
 |_+1,[],_=>by simp[Vo]
 |n+1,_::xs,K=>SI n xs K
def AaR (AP:Nat→Option Ji) (m:Nat) (un:List (Nat×Nat)) (ops:List Ap) (env:Env) (s:Ai) (K:Env→Ai→Prop):Prop:=
 SG m ops fun hd=>AdS (ranks hd) s.σ fun σ=>Xc AP hd s.σ.length s.ctr env ⟨σ,s.ctr+m⟩ fun es=>
    need (I5 es un=true) (PW es ⟨σ,s.ctr+m⟩ fun s1=>K (LQ es env) s1)
theorem Vp {m:Nat} {un:List (Nat×Nat)} {ops:List Ap} {env:Env} {s:Ai} {K:Env→Ai→Prop} (h:AaR AP m un ops env s K):∃N BG s1,J7 (run AP N) m un ops env s=some (BG,s1)∧K BG s1:=by
 unfold AaR at h
 rw[OA,AaQ]at h
 obtain⟨N,es,h1,h2,h3⟩:=Me h
 rw[OY]at h3
 exact⟨N,_,_,by simp only[J7,h1,if_pos h2],h3⟩
def AaS (AP:Nat→Option Ji) (op:BR) (env:Env) (v:AV):List Ai→Prop→Prop
 |[],T=>T
 |S::r,T=>JH AP op env S fun out _=>match out with
  | .ok u=>need (Gm u v=true) (AaS AP op env v r T)
  | .D9 _=>False
def AaT (AP:Nat→Option Ji) (S:Ai):List (BR×Env×AV)→Prop→Prop
 |[],T=>T
 |(op,env,v)::r,T=>JH AP op env S fun out _=>match out with
  | .ok u=>need (Gm u v=true) (AaT AP S r T)
  | .D9 _=>False
theorem OZ {op:BR} {env:Env} {v:AV}:∀{past:List Ai} {T:Prop},AaS AP op env v past T→(∃ N,Jt (run AP N) op env v past=true)∧T
 |[],T,h=>⟨⟨0,rfl⟩,h⟩
 |S::r,T,h=>by
  obtain⟨N,out,s',h1,h2⟩:=Hq h
  cases out with
  |D9 u=>exact h2.elim
  |ok u=>
   obtain⟨h3,h4⟩:=h2
   obtain⟨⟨N',h5⟩,h6⟩:=OZ h4
   refine⟨⟨max N N',?_⟩,h6⟩
   simp only[Jt,BN (Bd (Nat.le_max_left N N')) h1,h3,Iz (Bd (Nat.le_max_right N N')) h5,Bool.and_self]
theorem O1 {S:Ai}:∀{pend:List (BR×Env×AV)} {T:Prop},AaT AP S pend T→(∃ N,Ju (run AP N) S pend=true)∧T
 |[],T,h=>⟨⟨0,rfl⟩,h⟩
 |(op,env,v)::r,T,h=>by
  obtain⟨N,out,s',h1,h2⟩:=Hq h
  cases out with
  |D9 u=>exact h2.elim
  |ok u=>
   obtain⟨h3,h4⟩:=h2
   obtain⟨⟨N',h5⟩,h6⟩:=O1 h4
   refine⟨⟨max N N',?_⟩,h6⟩
   simp only[Ju,BN (Bd (Nat.le_max_left N N')) h1,h3,IB (Bd (Nat.le_max_right N N')) h5,Bool.and_self]
def KD (AP:Nat→Option Ji) (E:List Nat) (ops:List Ap):Nat→Env→Ai→Prop→Prop:=
 List.rec (motive:=fun _=>Nat→Env→Ai→Prop→Prop) (fun _ _ _ T=>T)
    (fun o _ ih i env s T=>bif Dv i E then Fa o.guard env
      (JH AP o.op env s fun out _=>match out with
        | .ok v=>bif flt o then ih (i+1) (put o.dst v env) s T else False
        | .D9 _=>False)
      (ih (i+1) (put o.dst .undef env) s T)
      else ih (i+1) env s T) ops
theorem Vq (E:List Nat) (o:Ap) (os:List Ap) (i:Nat) (env:Env) (s:Ai) (T:Prop):KD AP E (o::os) i env s T=bif Dv i E then Fa o.guard env
        (JH AP o.op env s fun out _=>match out with
          | .ok v=>bif flt o then KD AP E os (i+1) (put o.dst v env) s T else False
          | .D9 _=>False)
        (KD AP E os (i+1) (put o.dst .undef env) s T)
 else KD AP E os (i+1) env s T:=rfl
theorem He {E:List Nat}:∀{os:List Ap} {i:Nat} {env:Env} {s:Ai} {T:Prop},KD AP E os i env s T→(∃ N,DZ (run AP N) E os i env s=true)∧T
 |[],i,env,s,T,h=>⟨⟨0,rfl⟩,h⟩
 |o::os,i,env,s,T,h=>by
  rw[Vq]at h
  cases hm:Dv i E with
  |false=>
   rw[hm,cond_false]at h
   obtain⟨⟨N,h1⟩,h2⟩:=He h
   exact⟨⟨N,by simp only[DZ,hm,Bool.false_eq_true,if_false];exact h1⟩,h2⟩
  |true=>
   rw[hm,cond_true]at h
   have KC:wanted o.guard env=some false→KD AP E os (i+1) (put o.dst .undef env) s T→(∃ N,DZ (run AP N) E (o::os) i env s=true)∧T:=by
        intro hw h
        obtain⟨⟨N,h1⟩,h2⟩:=He h
        exact⟨⟨N,by simp only[DZ,hm,if_true,hw];exact h1⟩,h2⟩
   have hdo:wanted o.guard env=some true→(JH AP o.op env s fun out _=>match out with
    | .ok v=>bif flt o then KD AP E os (i+1) (put o.dst v env) s T else False
    | .D9 _=>False)→(∃ N,DZ (run AP N) E (o::os) i env s=true)∧T:=by
        intro hw h
        obtain⟨N,out,s1,h1,h2⟩:=Hq h
        cases out with
        |D9 v=>exact h2.elim
        |ok v=>
         dsimp only at h2
         cases hf:flt o with
         |false=>rw[hf]at h2;exact h2.elim
         |true=>
          rw[hf,cond_true]at h2
          obtain⟨⟨N',h3⟩,h4⟩:=He h2
          refine⟨⟨max N N',?_⟩,h4⟩
          simp only[DZ,hm,if_true,hw,BN (Bd (AP:=AP) (Nat.le_max_left N N')) h1,hf,EL (Bd (AP:=AP) (Nat.le_max_right N N')) h3,Bool.and_self]
   unfold Fa at h
   split at h
   ·rename_i hg
    exact hdo (by rw[hg];rfl) h
   ·rename_i r b hg
    split at h
    ·rename_i b' hb
     cases hbb:(b'==b)
     ·rw[hbb]at h
      exact KC (by rw[hg];simp only[wanted,hb,hbb]) h
     ·rw[hbb]at h
      exact hdo (by rw[hg];simp only[wanted,hb,hbb]) h
    ·rename_i hb
     exact KC (by rw[hg];simp only[wanted,hb]) h
    ·cases h
def Vr (AP:Nat→Option Ji) (m:Nat) (W pc:List Nat) (o:Ap) (os:List Ap) (i:Nat) (k:Env→Ai→List (BR×Env×AV)→List Ai→Prop) (Q:A8→Env→Ai→Prop) (env:Env) (s:Ai) (pend:List (BR×Env×AV)) (past:List Ai) (out:AA) (s1:Ai):Prop:=match out with
 | .D9 v=>match pc with
   |p::E=>bif Nat.beq i p&&!(Dv i W||(flt o||Nat.blt i m))then KD AP E os (i+1) env s (Q (.D9 v) [] s1)else False
   |[]=>False
 | .ok v=>bif Dv i W then bif o.op.ER then AaS AP o.op env v past (k (put o.dst v env) s ((o.op,env,v)::pend) past)else False
   else bif flt o||Nat.blt i m then k (put o.dst v env) s pend past
   else AaT AP s1 pend (k (put o.dst v env) s1 pend (s::past))
def Xd (AP:Nat→Option Ji) (m:Nat) (W pc:List Nat) (ops:List Ap):Nat→Env→Ai→List (BR×Env×AV)→List Ai→(A8→Env→Ai→Prop)→Prop:=
 List.rec (motive:=fun _=>Nat→Env→Ai→List (BR×Env×AV)→List Ai→(A8→Env→Ai→Prop)→Prop) (fun _ env s _ _ K=>K .normal env s)
    (fun o os ih i env s pend past K=>Fa o.guard env (JH AP o.op env s (Vr AP m W pc o os i (fun env s pend past=>ih (i+1) env s pend past K) K env s pend past))
      (ih (i+1) (put o.dst .undef env) s pend past K)) ops
theorem YZ (m:Nat) (W pc:List Nat) (o:Ap) (os:List Ap) (i:Nat) (env:Env) (s:Ai) (pend:List (BR×Env×AV)) (past:List Ai) (K:A8→Env→Ai→Prop):Xd AP m W pc (o::os) i env s pend past K=Fa o.guard env
 (JH AP o.op env s (Vr AP m W pc o os i (fun env s pend past=>Xd AP m W pc os (i+1) env s pend past K) K env s pend past))
 (Xd AP m W pc os (i+1) (put o.dst .undef env) s pend past K):=rfl
theorem Ie {m:Nat} {W pc:List Nat}:∀{os:List Ap} {i:Nat} {env:Env} {s:Ai} {pend:List (BR×Env×AV)} {past:List Ai} {K:A8→Env→Ai→Prop},Xd AP m W pc os i env s pend past K→∃N x env' s',Fq (run AP N) m W pc os i env s pend past=some (x,env',s')∧K x env' s'
 |[],i,env,s,pend,past,K,h=>⟨0,_,_,_,rfl,h⟩
 |o::os,i,env,s,pend,past,K,h=>by
  have KC:wanted o.guard env=some false→Xd AP m W pc os (i+1) (put o.dst .undef env) s pend past K→∃N x env' s',Fq (run AP N) m W pc (o::os) i env s pend past=some (x,env',s')∧K x env' s':=by
   intro hw h
   obtain⟨N,x,env',s',h1,h2⟩:=Ie h
   exact⟨N,x,env',s',by simp only[Fq,hw];exact h1,h2⟩
  have hdo:wanted o.guard env=some true→JH AP o.op env s (Vr AP m W pc o os i (fun env s pend past=>Xd AP m W pc os (i+1) env s pend past K) K env s pend past)→∃N x env' s',Fq (run AP N) m W pc (o::os) i env s pend past=some (x,env',s')∧K x env' s':=by
   intro hw h
   obtain⟨N,out,s1,h1,h2⟩:=Hq h
   cases out with
   |D9 v=>
    simp only[Vr]at h2
    cases pc with
    |nil=>exact h2.elim
    |cons p E=>
     dsimp only at h2
     cases hc:(Nat.beq i p&&!(Dv i W||(flt o||Nat.blt i m)))with
     |false=>rw[hc]at h2;exact h2.elim
     |true=>
      rw[hc,cond_true]at h2
      obtain⟨⟨N1,h3⟩,h4⟩:=He h2
      refine⟨max N N1,_,_,_,?_,h4⟩
      simp only[Fq,hw,BN (Bd (AP:=AP) (Nat.le_max_left N N1)) h1,hc,EL (Bd (AP:=AP) (Nat.le_max_right N N1)) h3,Bool.and_self,if_true]
   |ok v=>
    simp only[Vr]at h2
    cases hm:Dv i W with
    |true=>
     rw[hm,cond_true]at h2
     cases hp:o.op.ER with
     |false=>rw[hp]at h2;exact h2.elim
     |true=>
      rw[hp,cond_true]at h2
      obtain⟨⟨N1,h3⟩,h4⟩:=OZ h2
      obtain⟨N2,x,env',s',h5,h6⟩:=Ie h4
      refine⟨max N (max N1 N2),x,env',s',?_,h6⟩
      simp only[Fq,hw,BN (Bd (AP:=AP) (Nat.le_max_left N (max N1 N2))) h1,hm,hp,Iz (Bd (AP:=AP) (show N1≤max N (max N1 N2) by omega)) h3,Bool.and_self,if_true]
      exact D7 (Bd (show N2≤max N (max N1 N2) by omega)) h5
    |false=>
     rw[hm,cond_false]at h2
     cases hf:(flt o||Nat.blt i m)with
     |true=>
      rw[hf,cond_true]at h2
      obtain⟨N2,x,env',s',h5,h6⟩:=Ie h2
      refine⟨max N N2,x,env',s',?_,h6⟩
      simp only[Fq,hw,BN (Bd (AP:=AP) (Nat.le_max_left N N2)) h1,hm,hf,if_true,Bool.false_eq_true,if_false]
      exact D7 (Bd (Nat.le_max_right N N2)) h5
     |false=>
      rw[hf,cond_false]at h2
      obtain⟨⟨N1,h3⟩,h4⟩:=O1 h2
      obtain⟨N2,x,env',s',h5,h6⟩:=Ie h4
      refine⟨max N (max N1 N2),x,env',s',?_,h6⟩
      simp only[Fq,hw,BN (Bd (AP:=AP) (Nat.le_max_left N (max N1 N2))) h1,hm,hf,IB (Bd (AP:=AP) (show N1≤max N (max N1 N2) by omega)) h3,if_true,Bool.false_eq_true,if_false]
      exact D7 (Bd (show N2≤max N (max N1 N2) by omega)) h5
  rw[YZ]at h
  unfold Fa at h
  split at h
  ·rename_i hg
   exact hdo (by rw[hg];rfl) h
  ·rename_i r b hg
   split at h
   ·rename_i b' hb
    cases hbb:(b'==b)
    ·rw[hbb]at h
     exact KC (by rw[hg];simp only[wanted,hb,hbb]) h
    ·rw[hbb]at h
     exact hdo (by rw[hg];simp only[wanted,hb,hbb]) h
   ·rename_i hb
    exact KC (by rw[hg];simp only[wanted,hb]) h
   ·cases h
def AaU (v:AV) (A B:Prop):Prop:=match v with
 | .bool c=>JR c A B
 |_=>False
def vC (AP:Nat→Option Ji) (c:CW):Env→Ai→(A8→Env→Ai→Prop)→Prop:=
 CW.rec (motive:=fun _=>Env→Ai→(A8→Env→Ai→Prop)→Prop)
    (fun env s Q=>Q .normal env s)
    (fun _ Jk ops live tr env s Q=>Ro Jk env s fun env s=>Vm AP ops env s (AaO live tr Q))
    (fun m un Jk ops live tr env s Q=>Ro Jk env s fun env s=>AaR AP m un ops env s fun BG s1=>Vo m ops fun tl=>Vm AP tl BG s1 (AaO live tr Q))
    (fun m W pc Jk ops live tr env s Q=>Ro Jk env s fun env s=>Xd AP m W pc ops 0 env s [] [] (AaO live tr Q))
    (fun _ _ iha ihb env s Q=>iha env s (Ag3 (fun env s=>ihb env s Q) Q))
    (fun c _ _ iha ihb env s Q=>AaU (c.val env) (iha env s Q) (ihb env s Q))
    (fun id _ iha env s Q=>iha env s (Afk id Q))
    (fun live a _ env s Q=>JJ live env fun env=>Run AP (.loop live a) env s Q)
    (fun id env s Q=>Q (.exit id) env s)
    (fun env s Q=>Q .ret env s) c
theorem QV {env:Env} {t:Nat}:∀{ts:List Nat},t∈ts→(commit env ts).get t=env.get t
 |[],h=>by simp at h
 |t'::ts,h=>by
  simp only[commit,Env.get]
  cases hb:Nat.beq t' t
  ·have hne:t≠t':=fun e=>by subst e;simp at hb
   rw[cond_false]
   exact QV ((List.mem_cons.1 h).resolve_left hne)
  ·rw[cond_true,Nat.eq_of_beq_eq_true hb]
theorem NT {env env':Env}:∀{ts:List Nat},(∀ t∈ts,env.get t=env'.get t)→commit env ts=commit env' ts
 |[],_=>rfl
 |t::ts,h=>by simp only[commit];rw[h t (by simp),NT fun t' h'=>h t' (by simp[h'])]
theorem Rq (env:Env) (ts:List Nat):commit (commit env ts) ts=commit env ts:=NT fun _ h=>QV h
theorem KE {live:List Nat} {a:CW} {env:Env} {s:Ai} {Q:A8→Env→Ai→Prop} (h:Run AP (.loop live a) (commit env live) s Q):Run AP (.loop live a) env s Q:=by
 obtain⟨N,e,env',s',h1,h2⟩:=h
 refine⟨N,e,env',s',?_,h2⟩
 simp only[Ei]at h1 ⊢
 cases N with
 |zero=>simp[iter]at h1
 |succ N=>
  simp only[iter,Rq]at h1 ⊢
  exact h1
theorem NU:∀{c:CW} {env:Env} {s:Ai} {Q:A8→Env→Ai→Prop},vC AP c env s Q→Run AP c env s Q:=by
 intro c
 induction c with
 |skip=>intro env s Q h;exact⟨0,_,_,_,rfl,h⟩
 |exit id=>intro env s Q h;exact⟨0,_,_,_,rfl,h⟩
 |ret=>intro env s Q h;exact⟨0,_,_,_,rfl,h⟩
 |region hd Jk ops live tr=>
  intro env s Q h
  obtain⟨BG,s1,h1,h2⟩:=EF h
  obtain⟨N,e,Dp,s2,h3,h4⟩:=JI h2
  cases e with
  |normal=>exact⟨N,_,_,_,by simp only[Ei,h1,h3],(Md _ _ _).1 ((DX _ _ _).1 h4)⟩
  |exit id=>exact⟨N,_,_,_,by simp only[Ei,h1,h3],h4⟩
  |ret=>exact⟨N,_,_,_,by simp only[Ei,h1,h3],h4⟩
  |D9 v=>exact⟨N,_,_,_,by simp only[Ei,h1,h3],h4⟩
 |mix m W pc Jk ops live tr=>
  intro env s Q h
  obtain⟨BG,s1,h1,h2⟩:=EF h
  obtain⟨N,e,Dp,s2,h3,h4⟩:=Ie h2
  cases e with
  |normal=>exact⟨N,_,_,_,by simp only[Ei,h1,h3],(Md _ _ _).1 ((DX _ _ _).1 h4)⟩
  |exit id=>exact⟨N,_,_,_,by simp only[Ei,h1,h3],h4⟩
  |ret=>exact⟨N,_,_,_,by simp only[Ei,h1,h3],h4⟩
  |D9 v=>exact⟨N,_,_,_,by simp only[Ei,h1,h3],h4⟩
 |par m un Jk ops live tr=>
  intro env s Q h
  obtain⟨BG,s1,h1,h2⟩:=EF h
  obtain⟨N',Afl,s1',hh,h2⟩:=Vp h2
  rw[SI]at h2
  obtain⟨N,e,Dp,s2,h3,h4⟩:=JI h2
  have hh':J7 (run AP (max N N')) m un ops BG s1=some (Afl,s1'):=by
   unfold J7 at hh ⊢
   split at hh
   ·rename_i es hes
    rw[Ic (Bd (Nat.le_max_right N N')) hes]
    exact hh
   ·cases hh
  have h3':=EC (Bd (AP:=AP) (Nat.le_max_left N N')) h3
  cases e with
  |normal=>exact⟨max N N',_,_,_,by simp only[Ei,h1,hh',h3'],(Md _ _ _).1 ((DX _ _ _).1 h4)⟩
  |exit id=>exact⟨max N N',_,_,_,by simp only[Ei,h1,hh',h3'],h4⟩
  |ret=>exact⟨max N N',_,_,_,by simp only[Ei,h1,hh',h3'],h4⟩
  |D9 v=>exact⟨max N N',_,_,_,by simp only[Ei,h1,hh',h3'],h4⟩
 |seq a b iha ihb=>
  intro env s Q h
  obtain⟨N,e,BG,s1,h1,h2⟩:=iha h
  cases e with
  |normal=>
   obtain⟨N',e',Dp,s2,h3,h4⟩:=ihb h2
   have h1':=Dt (Bd (AP:=AP) (Nat.le_max_left N N')) (Nat.le_max_left N N') h1
   have h3':=Dt (Bd (AP:=AP) (Nat.le_max_right N N')) (Nat.le_max_right N N') h3
   exact⟨max N N',e',Dp,s2,by simp only[Ei,h1',h3'],h4⟩
  |exit id=>exact⟨N,_,_,_,by simp only[Ei,h1],h2⟩
  |ret=>exact⟨N,_,_,_,by simp only[Ei,h1],h2⟩
  |D9 v=>exact⟨N,_,_,_,by simp only[Ei,h1],h2⟩
 |cond c a b iha ihb=>
  intro env s Q h
  change AaU (c.val env) (vC AP a env s Q) (vC AP b env s Q)at h
  unfold AaU at h
  split at h
  ·rename_i c' hc
   cases c'
   ·obtain⟨N,e,BG,s1,h1,h2⟩:=ihb h
    exact⟨N,e,BG,s1,by simp only[Ei,hc,h1],h2⟩
   ·obtain⟨N,e,BG,s1,h1,h2⟩:=iha h
    exact⟨N,e,BG,s1,by simp only[Ei,hc,h1],h2⟩
  ·cases h
 |block id a iha=>
  intro env s Q h
  obtain⟨N,e,BG,s1,h1,h2⟩:=iha h
  cases e with
  |normal=>exact⟨N,_,_,_,by simp only[Ei,h1],h2⟩
  |exit j=>
   simp only[Afk]at h2
   cases hb:Nat.beq j id
   ·rw[hb]at h2
    have hne:j≠id:=fun e=>by subst e;simp at hb
    exact⟨N,_,_,_,by simp only[Ei,h1,if_neg hne],h2⟩
   ·rw[hb]at h2
    exact⟨N,_,_,_,by simp only[Ei,h1,if_pos (Nat.eq_of_beq_eq_true hb)],h2⟩
  |ret=>exact⟨N,_,_,_,by simp only[Ei,h1],h2⟩
  |D9 v=>exact⟨N,_,_,_,by simp only[Ei,h1],h2⟩
 |loop live a iha=>
  intro env s Q h
  exact KE ((DX _ _ _).1 h)
def Xe (AP:Nat→Option Ji) (live:List Nat) (a:CW) (Q:A8→Env→Ai→Prop) (e:A8) (env:Env) (s:Ai):Prop:=match e with
 | .normal=>JJ live env fun env=>Run AP (.loop live a) env s Q
 |e=>Q e env s
theorem RX {live:List Nat} {a:CW} {env:Env} {s:Ai} {Q:A8→Env→Ai→Prop} (h:vC AP a env s (Xe AP live a Q)) (hc:commit env live=env):Run AP (.loop live a) env s Q:=by
 obtain⟨N,e,BG,s1,h1,h2⟩:=NU h
 cases e with
 |normal=>
  obtain⟨N',e',Dp,s2,h3,h4⟩:=KE ((DX _ _ _).1 h2)
  refine⟨max N N'+1,e',Dp,s2,?_,h4⟩
  have h1':=Dt (Bd (AP:=AP) (show N≤max N N'+1 by omega)) (show N≤max N N'+1 by omega) h1
  simp only[Ei]at h3 ⊢
  rw[iter.eq_2]
  rw[hc,h1']
  exact KY (fun env s r hr=>Dt (Bd (by omega)) (by omega) hr) (by omega) h3
 |exit id=>exact⟨N+1,_,_,_,by simp only[Ei,iter.eq_2,hc,Dt (Bd (AP:=AP) (Nat.le_succ N)) (Nat.le_succ N) h1],h2⟩
 |ret=>exact⟨N+1,_,_,_,by simp only[Ei,iter.eq_2,hc,Dt (Bd (AP:=AP) (Nat.le_succ N)) (Nat.le_succ N) h1],h2⟩
 |D9 v=>exact⟨N+1,_,_,_,by simp only[Ei,iter.eq_2,hc,Dt (Bd (AP:=AP) (Nat.le_succ N)) (Nat.le_succ N) h1],h2⟩
def AdT (fn:GL) (K:AA→Ai→Prop) (e:A8) (env:Env) (s:Ai):Prop:=match e with
 | .normal=>KA (F7 env s fn.results) fun vs=>K (.ok (H8 vs)) s
 | .ret=>KA (F7 env s fn.results) fun vs=>K (.ok (H8 vs)) s
 | .D9 v=>K (.D9 v) s
 | .exit _=>False
theorem Vs {f:Nat} {fn:GL} {args:List AV} {s:Ai} {K:AA→Ai→Prop} (hf:AP f=some (.code fn)) (hl:args.length=fn.np) (h:Run AP fn.body (params args 0) s (AdT fn K)):BL AP f args s K:=by
 obtain⟨N,e,env,s',h1,h2⟩:=h
 cases e with
 |normal=>
  obtain⟨vs,h3,h4⟩:=h2
  exact⟨N+1,_,_,by simp only[run,hf,if_pos hl,evF,h1,h3,Option.map_some],h4⟩
 |ret=>
  obtain⟨vs,h3,h4⟩:=h2
  exact⟨N+1,_,_,by simp only[run,hf,if_pos hl,evF,h1,h3,Option.map_some],h4⟩
 |D9 v=>exact⟨N+1,_,_,by simp only[run,hf,if_pos hl,evF,h1],h2⟩
 |exit id=>cases h2
end AI
end Go.Proofs.YtjjhejbffgaabaaGreatDoor
namespace Go.Proofs.YtjjhejbffgaabaaGreatDoor
namespace AI
open Go.RowKit
variable {AP:Nat→Option Ji}
def Afm (live:List Nat) (I:Env→Ai→Prop) (Q:A8→Env→Ai→Prop) (e:A8) (env:Env) (s:Ai):Prop:=match e with
 | .normal=>JJ live env fun env=>I env s
 |e=>Q e env s
structure again (I:Nat→Env→Ai→Prop) (m:Nat) (env:Env) (s:Ai):Prop where
 mk::(h:∃m',m'<m∧I m' env s)
theorem Ah {live:List Nat} {a:CW} {Q:A8→Env→Ai→Prop} (I:Nat→Env→Ai→Prop)
 (hI:∀m env s,I m env s→commit env live=env∧vC AP a env s (Afm live (again I m) Q)):
 ∀m env s,I m env s→Run AP (.loop live a) env s Q:=by
 intro m
 induction m using Nat.strongRecOn with
 |ind m ih=>
  intro env s h
  obtain⟨hc,h1⟩:=hI m env s h
  obtain⟨N,e,BG,s1,h2,h3⟩:=NU h1
  have hr:Run AP a env s (Xe AP live a Q):=by
   refine⟨N,e,BG,s1,h2,?_⟩
   cases e with
   |normal=>
    simp only[Afm,Xe,DX]at h3 ⊢
    obtain⟨m',hm,h4⟩:=h3
    exact ih m' hm _ _ h4
   |exit id=>exact h3
   |ret=>exact h3
   |D9 v=>exact h3
  obtain⟨N,e,BG,s1,h1,h2⟩:=hr
  cases e with
  |normal=>
   obtain⟨N',e',Dp,s2,h3,h4⟩:=KE ((DX _ _ _).1 h2)
   refine⟨max N N'+1,e',Dp,s2,?_,h4⟩
   have h1':=Dt (Bd (AP:=AP) (show N≤max N N'+1 by omega)) (show N≤max N N'+1 by omega) h1
   simp only[Ei]at h3 ⊢
   rw[iter.eq_2]
   rw[hc,h1']
   exact KY (fun env s r hr=>Dt (Bd (by omega)) (by omega) hr) (by omega) h3
  |exit id=>exact⟨N+1,_,_,_,by simp only[Ei,iter.eq_2,hc,Dt (Bd (AP:=AP) (Nat.le_succ N)) (Nat.le_succ N) h1],h2⟩
  |ret=>exact⟨N+1,_,_,_,by simp only[Ei,iter.eq_2,hc,Dt (Bd (AP:=AP) (Nat.le_succ N)) (Nat.le_succ N) h1],h2⟩
  |D9 v=>exact⟨N+1,_,_,_,by simp only[Ei,iter.eq_2,hc,Dt (Bd (AP:=AP) (Nat.le_succ N)) (Nat.le_succ N) h1],h2⟩
structure Ar (AP:Nat→Option Ji) (f:Nat) (args:List AV) (R:AV→Prop):Prop where
 mk::(h:∃v,Pure AP f args v∧R v)
def AdU (R:AV→Prop) (out:AA) (s:Ai):Prop:=match out with
 | .ok r=>XW s.σ Hg r R
 | .D9 _=>False
theorem Ad {f:Nat} {fn:GL} {args:List AV} {R:AV→Prop} (hf:AP f=some (.code fn)) (hl:args.length=fn.np) (h:vC AP fn.body (params args 0) ⟨[],0⟩ (AdT fn (AdU R))):Ar AP f args R:=by
 obtain⟨N,out,s',h1,h2⟩:=Vs hf hl (NU h)
 cases out with
 |ok r=>
  have h2:XW s'.σ Hg r R:=h2
  obtain⟨v,h3,h4⟩:=Vj h2
  exact⟨v,⟨N,by simp only[Es,h1];exact h3⟩,h4⟩
 |D9 r=>cases h2
theorem Aa {f:Nat} {args:List AV} {R:AV→Prop} {K:AV→Prop} (h:Ar AP f args R) (h2:∀v,R v→K v):XR AP f args K:=by
 obtain⟨v,h3,h4⟩:=h
 exact⟨v,h3,h2 v h4⟩
theorem Dk {f:Nat} {args:List AV} {p:Prop} [Decidable p] {K:AV→Prop} (h:Ar AP f args (· =.bool (decide p))) (h1:p→K (.bool true)) (h2:¬p→K (.bool false)):XR AP f args K:=by
 refine Aa h ?_
 rintro _ rfl
 by_cases hp:p
 ·rw[decide_eq_true hp];exact h1 hp
 ·rw[decide_eq_false hp];exact h2 hp
theorem BL.mono {f:Nat} {args:List AV} {s:Ai} {K K':AA→Ai→Prop} (h:BL AP f args s K) (hk:∀out s,K out s→K' out s):BL AP f args s K':=by
 obtain⟨N,out,s',h1,h2⟩:=h
 exact⟨N,out,s',h1,hk _ _ h2⟩
theorem Ce {p:Prop} [Decidable p] (h:p):AV.bool true=AV.bool (decide p):=by rw[decide_eq_true h]
theorem Bf {p:Prop} [Decidable p] (h:¬p):AV.bool false=AV.bool (decide p):=by rw[decide_eq_false h]
theorem Ar.mono {f:Nat} {args:List AV} {R R':AV→Prop} (h:Ar AP f args R) (h2:∀v,R v→R' v):Ar AP f args R':=by
 obtain⟨v,h3,h4⟩:=h
 exact⟨v,h3,h2 v h4⟩
theorem BI {f:Nat} {fn:GL} {args:List AV} {s:Ai} {K:AA→Ai→Prop} (hf:AP f=some (.code fn)) (hl:args.length=fn.np) (h:vC AP fn.body (params args 0) s (AdT fn K)):BL AP f args s K:=
 Vs hf hl (NU h)
end AI
end Go.Proofs.YtjjhejbffgaabaaGreatDoor
namespace Go.Proofs.YtjjhejbffgaabaaGreatDoor
namespace AI
def ints (l:List Int):List AV:=l.map (.int .i64)
@[simp] theorem lI (l:List Int):(ints l).length=l.length:=by simp[ints]
theorem AaV {l:List Int} {i:Nat} {x:Int} (h:l[i]?=some x):nth (ints l) i=some (.int .i64 x):=by simp[ints,Aw,h]
theorem nI {l:List Int} {i:Nat} (h:i<l.length):nth (ints l) i=some (.int .i64 l[i]):=AaV (List.getElem?_eq_getElem h)
theorem wrap_i64 {z:Int} (h:-2^63≤z) (h2:z<2^63):IntKind.i64.wrap z=z:=by
 rw[IntKind.wrap_i64];omega
theorem nIN {l:List Int} {i:Nat} (h:i<l.length):nth (ints l) (Int.toNat (Nat.cast i))=some (.int .i64 l[i]):=nI h
theorem UA {es:Nat} {x:AV} (h:x.cells.length=es):AZ es [x]:=by intro y hy;simp at hy;exact hy▸h
theorem JZ {b n:Nat} (h:n*b≤2 ^ 46):roomy b n:=Nat.le_trans h (by decide)
def iss (E:List (Bool×List Int)):List AV:=E.map fun p=>.sl p.1 (ints p.2)
@[simp] theorem lS (E:List (Bool×List Int)):(iss E).length=E.length:=by simp[iss]
theorem nS {E:List (Bool×List Int)} {i:Nat} (h:i<E.length):nth (iss E) i=some (.sl E[i].1 (ints E[i].2)):=by simp[iss,Aw,h]
theorem nSN {E:List (Bool×List Int)} {i:Nat} (h:i<E.length):nth (iss E) (Int.toNat (Nat.cast i))=some (.sl E[i].1 (ints E[i].2)):=nS h
theorem CZ {α:Type} {l:List α} {i:Nat} (h:¬(i:Int)<(l.length:Int)):l.take i=l:=List.take_of_length_le (by omega)
theorem Bo {α:Type} {p:α→Prop} {l:List α} {i:Nat} (h:i<l.length) (h1:∀x∈l.take i,p x) (h2:p l[i]):∀x∈l.take (i+1),p x:=by
 intro x hx
 rw[List.take_succ_eq_append_getElem h,List.mem_append,List.mem_singleton]at hx
 rcases hx with hx|rfl
 ·exact h1 x hx
 ·exact h2
theorem tIN {l:List Int} {i:Nat} {x y:Int}:(ints l).set (Int.toNat (Nat.cast i)) (Bz (.int .i64 x) 0 (.int .i64 y))=ints (l.set i y):=by
 simp[ints,Bz,AV.cells,List.map_set]
theorem tI {l:List Int} {i:Nat} {x y:Int}:(ints l).set i (Bz (.int .i64 x) 0 (.int .i64 y))=ints (l.set i y):=tIN
theorem uI {l:List Int}:sub (ints l) 0 l.length=ints l:=by
 unfold sub;rw[List.drop_zero,List.take_of_length_le (by simp)]
theorem uS {l:List (Bool×List Int)}:sub (iss l) 0 l.length=iss l:=by
 unfold sub;rw[List.drop_zero,List.take_of_length_le (by simp)]
theorem uIS {l:List Int} {x:Int}:sub (ints (l++[x])) 0 (l.length+1)=ints (l++[x]):=by
 have:=uI (l:=l++[x]);rwa [List.length_append]at this
theorem uSS {l:List (Bool×List Int)} {x:Bool×List Int}:sub (iss (l++[x])) 0 (l.length+1)=iss (l++[x]):=by
 have:=uS (l:=l++[x]);rwa [List.length_append]at this
theorem rIN (n:Nat) (z:Int):List.replicate (Int.toNat (Nat.cast n)) (AV.int .i64 z)=ints (List.replicate n z):=by simp[ints]
theorem rI (n:Nat) (z:Int):List.replicate n (AV.int .i64 z)=ints (List.replicate n z):=by simp[ints]
theorem nY {l:List UInt8} {i:Nat} (h:i<l.length):nth l i=some l[i]:=by simp[Aw,h]
theorem nYN {l:List UInt8} {i:Nat} (h:i<l.length):nth l (Int.toNat (Nat.cast i))=some l[i]:=nY h
def bools (l:List Bool):List AV:=l.map .bool
@[simp] theorem lB (l:List Bool):(bools l).length=l.length:=by simp[bools]
theorem nB {l:List Bool} {i:Nat} (h:i<l.length):nth (bools l) i=some (.bool l[i]):=by simp[bools,Aw,h]
theorem nBN {l:List Bool} {i:Nat} (h:i<l.length):nth (bools l) (Int.toNat (Nat.cast i))=some (.bool l[i]):=nB h
theorem tBN {l:List Bool} {i:Nat} {x y:Bool}:(bools l).set (Int.toNat (Nat.cast i)) (Bz (.bool x) 0 (.bool y))=bools (l.set i y):=by
 simp[bools,Bz,AV.cells,List.map_set]
theorem tB {l:List Bool} {i:Nat} {x y:Bool}:(bools l).set i (Bz (.bool x) 0 (.bool y))=bools (l.set i y):=tBN
theorem uB {l:List Bool}:sub (bools l) 0 l.length=bools l:=by
 unfold sub;rw[List.drop_zero,List.take_of_length_le (by simp)]
theorem rBN (n:Nat) (z:Bool):List.replicate (Int.toNat (Nat.cast n)) (AV.bool z)=bools (List.replicate n z):=by simp[bools]
section
variable {α β:Type} [DecidableEq α] {fk:α→AV} {fv:β→AV} {t:Jj}
def FM (fk:α→AV) (fv:β→AV) (M:List (α×β)):List (AV×AV):=M.map fun p=>(fk p.1,fv p.2)
def Ba:List (α×β)→α→Option β
 |[],_=>none
 |(k',v)::M,k=>if k=k' then some v else Ba M k
def BJ:List (α×β)→α→β→List (α×β)
 |[],k,v=>[(k,v)]
 |(k',v')::M,k,v=>if k=k' then(k,v)::M else(k',v')::BJ M k v
theorem CX (M:List (α×β)) (k k':α) (v:β):Ba (BJ M k v) k'=if k'=k then some v else Ba M k':=by
 induction M with
 |nil=>simp[BJ,Ba]
 |cons p M ih=>
  obtain⟨a,b⟩:=p
  simp only[BJ]
  by_cases h:k=a
  ·subst h;simp only[if_pos,Ba];split<;>simp_all
  ·rw[if_neg h]
   simp only[Ba,ih]
   by_cases h1:k'=a
   ·subst h1;rw[if_pos rfl,if_neg (fun e=>h e.symm),if_pos rfl]
   ·rw[if_neg h1,if_neg h1]
theorem JK (hk:∀a b,BX t (fk a) (fk b)=some (decide (a=b))) (k:α):∀(M:List (α×β)) (i:Nat),
 (Ba M k=none∧findKey t (fk k) (FM fk fv M) i=some none∧BJ M k=fun v=>M++[(k,v)])∨
 ∃j v,Ba M k=some v∧findKey t (fk k) (FM fk fv M) i=some (some (i+j,fv v))∧BJ M k=fun v=>M.set j (k,v)
 |[],i=>.inl ⟨rfl,rfl,rfl⟩
 |(a,b)::M,i=>by
  by_cases h:k=a
  ·subst h
   refine .inr ⟨0,b,by simp[Ba],?_,by funext v;simp[BJ]⟩
   simp only[FM,List.map_cons,findKey,hk,decide_true,Nat.add_zero]
  ·rcases JK hk k M (i+1)with⟨h1,h2,h3⟩|⟨j,v,h1,h2,h3⟩
   ·refine .inl ⟨by simp[Ba,h,h1],?_,by funext v;simp[BJ,h,h3]⟩
    simp only[FM,List.map_cons,findKey,hk,decide_eq_false h]at h2 ⊢
    exact h2
   ·refine .inr ⟨j+1,v,by simp[Ba,h,h1],?_,by funext v;simp[BJ,h,h3]⟩
    simp only[FM,List.map_cons,findKey,hk,decide_eq_false h]at h2 ⊢
    rw[h2];congr 3;omega
theorem LK (hk:∀a b,BX t (fk a) (fk b)=some (decide (a=b))) {M:List (α×β)} {k:α} {K:Option (Nat×AV)→Prop}
 (h1:Ba M k=none→K none) (h2:∀i v,Ba M k=some v→K (some (i,fv v))):Hy t (fk k) (FM fk fv M) K:=by
 rcases JK (fv:=fv) hk k M 0 with⟨g1,g2,_⟩|⟨j,v,g1,g2,_⟩
 ·exact⟨_,g2,h1 g1⟩
 ·exact⟨_,g2,h2 _ _ g1⟩
theorem LU (hk:∀a b,BX t (fk a) (fk b)=some (decide (a=b))) {M:List (α×β)} {k:α} {v:β} {K:List (AV×AV)→Prop}
 (h:K (FM fk fv (BJ M k v))):MW t (fk k) (fv v) (FM fk fv M) K:=by
 rcases JK (fv:=fv) hk k M 0 with⟨g1,g2,g3⟩|⟨j,w,g1,g2,g3⟩
 ·refine⟨_,g2,?_⟩
  rw[g3]at h
  simpa[AaL,FM]using h
 ·refine⟨_,g2,?_⟩
  rw[g3]at h
  simpa[AaL,FM,List.map_set]using h
end
theorem Fe (a b:Int):BX .int (.int .i64 a) (.int .i64 b)=some (decide (a=b)):=by
 simp only[BX,if_true];rfl
abbrev Bq (M:List (Int×Int)):List (AV×AV):=FM (.int .i64) (.int .i64) M
theorem fkI {M:List (Int×Int)} {k:Int} {K:Option (Nat×AV)→Prop}
 (h1:Ba M k=none→K none) (h2:∀i v,Ba M k=some v→K (some (i,.int .i64 v))):Hy .int (.int .i64 k) (Bq M) K:=LK Fe h1 h2
theorem Za {M:List (Int×Int)} {k v:Int} {K:List (AV×AV)→Prop} (h:K (Bq (BJ M k v))):MW .int (.int .i64 k) (.int .i64 v) (Bq M) K:=LU Fe h
end AI
end Go.Proofs.YtjjhejbffgaabaaGreatDoor
