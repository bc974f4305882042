/- The evaluator, step by step on symbols: what must hold for it to end in 'Q'. The evaluator, step by step on symbols: operations. The evaluator, step by step on symbols: regions, code, loops, functions. Loops by an invariant; what a function answers, as a predicate. Lists of numbers as abstract values; small facts that the steps need. -/
import Derived.Test.YtjjhejbffgaabaaGreatDoorQSe
set_option linter.unusedVariables false
set_option maxRecDepth 4000
namespace Go.Proofs.YtjjhejbffgaabaaGreatDoor
namespace AI
open Go.RowKit
variable {AP:Nat→Option IZ}
structure Run (AP:Nat→Option IZ) (c:CP) (env:Env) (s:Af) (Q:AY→Env→Af→Prop):Prop where
 mk::(h:∃N e env' s',Ep (run AP N) N c env s=some (e,env',s')∧Q e env' s')
def Op1 (AP:Nat→Option IZ) (o:BJ) (env:Env) (s:Af) (K:Ar→Af→Prop):Prop:=
 ∃N out s',Ac (run AP N) o env s=some (out,s')∧K out s'
def Ops (AP:Nat→Option IZ) (os:List Aj) (env:Env) (s:Af) (Q:AY→Env→Af→Prop):Prop:=
 ∃N e env' s',CY (run AP N) os env s=some (e,env',s')∧Q e env' s'
structure Pure (AP:Nat→Option IZ) (f:Nat) (args:List AV) (v:AV):Prop where
 mk::(h:∃N,Eb (run AP N) f args=some v)
structure CJ (AP:Nat→Option IZ) (f:Nat) (args:List AV) (s:Af) (K:Ar→Af→Prop):Prop where
 mk::(h:∃N out s',run AP N f args s=some (out,s')∧K out s')
theorem Bq {n n':Nat} (h:n≤n'):EC (run AP n) (run AP n'):=Pv h
theorem Run.mono {c:CP} {env:Env} {s:Af} {Q Q':AY→Env→Af→Prop} (h:Run AP c env s Q) (hq:∀e env s,Q e env s→Q' e env s):Run AP c env s Q':=by
 obtain⟨N,e,env',s',h1,h2⟩:=h
 exact⟨N,e,env',s',h1,hq _ _ _ h2⟩
def AV.force {R:Sort _} (v:AV) (f:AV→R):R:=
 match v with
 | .bool b=>f (.bool b)
 | .int k n=>f (.int k n)
 | .str s=>f (.str s)
 | .sl nn xs=>f (.sl nn xs)
 | .zc=>f .zc
 | .own o g a b=>f (.own o g a b)
 | .agg cs=>f (.agg cs)
 | .E5 cs=>f (.E5 cs)
 | .ref o g i a=>f (.ref o g i a)
 | .BP cs=>f (.BP cs)
 | .fn g cs=>f (.fn g cs)
 | .map o g=>f (.map o g)
 | .fmap es=>f (.fmap es)
 | .iface t v=>f (.iface t v)
 | .Ii=>f .Ii
 | .CW=>f .CW
 | .EO=>f .EO
 | .F6=>f .F6
 | .undef=>f .undef
 | .junk=>f .junk
theorem force_eq {R:Sort _} (v:AV) (f:AV→R):v.force f=f v:=by cases v<;>rfl
def JA (b:Bool) (t e:Prop):Prop:=match b with
 |true=>t
 |false=>e
theorem TV {b:Bool} {t e:Prop} (h1:b=true→t) (h2:b=false→e):JA b t e:=by
 cases b
 ·exact h2 rfl
 ·exact h1 rfl
structure MR (p t e:Prop):Prop where
 mk::(yes:p→t) (no:¬p→e)
structure need (p t:Prop):Prop where
 mk::(l:p) (r:t)
theorem PY {p t:Prop} (h1:p) (h2:t):need p t:=⟨h1,h2⟩
structure Jz (k:IntKind) (z:Int) (K:AV→Prop):Prop where
 mk::(h:∃y,k.wrap z=y∧K (.int k y))
theorem Dz {k:IntKind} {z y:Int} {K:AV→Prop} (h:k.wrap z=y) (h2:K (.int k y)):Jz k z K:=⟨y,h,h2⟩
structure RU {α:Type} (xs:List α) (i:Nat) (K:α→Prop):Prop where
 mk::(h:∃x,nth xs i=some x∧K x)
theorem Az {α:Type} {xs:List α} {i:Nat} {K:α→Prop} {x:α} (h:nth xs i=some x) (h2:K x):RU xs i K:=⟨x,h,h2⟩
structure JX {α:Type} (o:Option α) (K:α→Prop):Prop where
 mk::(h:∃x,o=some x∧K x)
theorem BH {α:Type} {o:Option α} {K:α→Prop} {x:α} (h:o=some x) (h2:K x):JX o K:=⟨x,h,h2⟩
structure Wx (AP:Nat→Option IZ) (f:Nat) (args:List AV) (K:AV→Prop):Prop where
 mk::(h:∃v,Pure AP f args v∧K v)
def settle (v:AV) (K:AV→Prop):Prop:=match v with
 | .bool b=>JA b (K (.bool true)) (K (.bool false))
 |v=>v.force K
theorem Qc (v:AV) (K:AV→Prop):settle v K↔K v:=by
 cases v<;>first|exact Iff.rfl|skip
 rename_i b
 cases b<;>exact Iff.rfl
def I4 {α:Type}:List α→Nat→α→(List α→Prop)→Prop
 |[],_,_,K=>K []
 |_::xs,0,y,K=>K (y::xs)
 |x::xs,n+1,y,K=>I4 xs n y fun ys=>K (x::ys)
theorem DU {α:Type}:∀(l:List α) (n:Nat) (y:α) (K:List α→Prop),I4 l n y K↔K (l.set n y)
 |[],_,_,_=>Iff.rfl
 |_::_,0,_,_=>Iff.rfl
 |x::xs,n+1,y,K=>DU xs n y fun ys=>K (x::ys)
def VN {α:Type}:List α→α→(List α→Prop)→Prop
 |[],y,K=>K [y]
 |x::xs,y,K=>VN xs y fun ys=>K (x::ys)
theorem Nr {α:Type}:∀(l:List α) (y:α) (K:List α→Prop),VN l y K↔K (l++[y])
 |[],_,_=>Iff.rfl
 |x::xs,y,K=>Nr xs y fun ys=>K (x::ys)
def Sr (s:Af) (mk:Nat→Nat→AV) (ob:Nat→Obj) (K:Ar→Af→Prop):Prop:=
 VN s.σ (ob s.ctr) fun σ=>K (.ok (mk s.σ.length s.ctr)) ⟨σ,s.ctr+1⟩
structure eqK {α:Type} (a:α) (K:α→Prop):Prop where
 mk::(h:∃b,a=b∧K b)
theorem EU {α:Type} {a b:α} {K:α→Prop} (h1:a=b) (h:K b):eqK a K:=⟨_,h1,h⟩
def Wy (op:BinOp) (k:IntKind) (a b:Int) (K:AV→Prop):Prop:=
 match op with
 | .add=>Jz k (a+b) K
 | .sub=>Jz k (a-b) K
 | .mul=>Jz k (a*b) K
 | .quo=>need (b≠0) (Jz k (a.tdiv b) K)
 | .rem=>need (b≠0) (K (.int k (a.tmod b)))
 | .eql=>MR (a=b) (K (.bool true)) (K (.bool false))
 | .neq=>MR (a=b) (K (.bool false)) (K (.bool true))
 | .lss=>MR (a<b) (K (.bool true)) (K (.bool false))
 | .leq=>MR (a≤b) (K (.bool true)) (K (.bool false))
 | .gtr=>MR (b<a) (K (.bool true)) (K (.bool false))
 | .geq=>MR (b≤a) (K (.bool true)) (K (.bool false))
 | .and=>eqK (k.wrap (BitVec.ofInt k.bits a &&& BitVec.ofInt k.bits b).toNat) fun z=>K (.int k z)
 | .or=>eqK (k.wrap (BitVec.ofInt k.bits a ||| BitVec.ofInt k.bits b).toNat) fun z=>K (.int k z)
 | .xor=>eqK (k.wrap (BitVec.ofInt k.bits a ^^^ BitVec.ofInt k.bits b).toNat) fun z=>K (.int k z)
 | .shl=>need (0≤b) (Jz k (a*2 ^ (min b.toNat k.bits)) K)
 | .shr=>need (0≤b) (eqK (a.fdiv (2 ^ (min b.toNat k.bits))) fun z=>K (.int k z))
 |_=>False
def WA (op:BinOp) (a b:List UInt8) (K:AV→Prop):Prop:=
 match op with
 | .eql=>MR (a=b) (K (.bool true)) (K (.bool false))
 | .neq=>MR (a=b) (K (.bool false)) (K (.bool true))
 | .lss=>JA (Op.bytesLess a b) (K (.bool true)) (K (.bool false))
 | .leq=>JA (Op.bytesLess a b||a==b) (K (.bool true)) (K (.bool false))
 | .gtr=>JA (Op.bytesLess a b||a==b) (K (.bool false)) (K (.bool true))
 | .geq=>JA (Op.bytesLess a b) (K (.bool false)) (K (.bool true))
 | .add=>need (a.length+b.length<2 ^ 63) (K (.str (a++b)))
 |_=>False
def Zx (op:BinOp) (k k':IntKind) (t:Prop):Prop:=match op with
 | .shl=>t
 | .shr=>t
 |_=>need (k=k') t
theorem XI {op:BinOp} {k k':IntKind} {t:Prop} (h:Zx op k k' t):(k=k'∨op=.shl∨op=.shr)∧t:=by
 unfold Zx at h
 split at h
 ·exact⟨.inr (.inl rfl),h⟩
 ·exact⟨.inr (.inr rfl),h⟩
 ·exact⟨.inl h.1,h.2⟩
theorem Aa3 {op:BinOp} {k k':IntKind} {t:IV} {a b:Int} (h:k=k'∨op=.shl∨op=.shr):bin op t (.int k a) (.int k' b)=Il op k a b:=by
 simp only[bin]
 split
 ·rfl
 ·rename_i hk
  rcases h with h|rfl|rfl
  ·exact absurd h hk
  ·rfl
  ·rfl
def Acw (op:BinOp) (t:IV) (x y:AV) (K:AV→Prop):Prop:=
 match x,y with
 | .int k a,.int k' b=>Zx op k k' (Wy op k a b K)
 | .str a,.str b=>WA op a b K
 |x,y=>JX (bin op t x y) fun v=>settle v K
theorem Vw {op:BinOp} {t:IV} {x y:AV} {K:AV→Prop} (h:Acw op t x y K):∃v,bin op t x y=some v∧K v:=by
 unfold Acw at h
 split at h
 ·rename_i k a k' b
  obtain⟨hk,h⟩:=XI h
  rw[Aa3 hk]
  unfold Wy at h
  cases op<;>simp only at h
  case add=>obtain⟨y,h1,h2⟩:=h;exact⟨_,rfl,by rw[h1];exact h2⟩
  case sub=>obtain⟨y,h1,h2⟩:=h;exact⟨_,rfl,by rw[h1];exact h2⟩
  case mul=>obtain⟨y,h1,h2⟩:=h;exact⟨_,rfl,by rw[h1];exact h2⟩
  case quo=>obtain⟨h0,y,h1,h2⟩:=h;exact⟨_,by simp only[Il,if_neg h0];rfl,by rw[h1];exact h2⟩
  case rem=>obtain⟨h0,h2⟩:=h;exact⟨_,by simp only[Il,if_neg h0],h2⟩
  case and=>obtain⟨z,rfl,h2⟩:=h;exact⟨_,rfl,h2⟩
  case or=>obtain⟨z,rfl,h2⟩:=h;exact⟨_,rfl,h2⟩
  case xor=>obtain⟨z,rfl,h2⟩:=h;exact⟨_,rfl,h2⟩
  case shl=>obtain⟨h0,y,h1,h2⟩:=h;exact⟨_,by simp only[Il,if_neg (Int.not_lt.2 h0)];rfl,by rw[h1];exact h2⟩
  case shr=>obtain⟨h0,z,rfl,h2⟩:=h;exact⟨_,by simp only[Il,if_neg (Int.not_lt.2 h0)],h2⟩
  case eql=>
   by_cases c:a=b
   ·exact⟨_,rfl,by have:=h.1 c;simpa only[c,beq_self_eq_true,bne_self_eq_false,Bool.not_true]using this⟩
   ·exact⟨_,rfl,by have:=h.2 c;simpa only[bne,beq_false_of_ne c,Bool.not_false]using this⟩
  case neq=>
   by_cases c:a=b
   ·exact⟨_,rfl,by have:=h.1 c;simpa only[c,beq_self_eq_true,bne_self_eq_false,Bool.not_true]using this⟩
   ·exact⟨_,rfl,by have:=h.2 c;simpa only[bne,beq_false_of_ne c,Bool.not_false]using this⟩
  case lss=>
   by_cases c:a<b
   ·exact⟨_,rfl,by simpa[c]using h.1 c⟩
   ·exact⟨_,rfl,by simpa[c]using h.2 c⟩
  case leq=>
   by_cases c:a≤b
   ·exact⟨_,rfl,by simpa[c]using h.1 c⟩
   ·exact⟨_,rfl,by simpa[c]using h.2 c⟩
  case gtr=>
   by_cases c:b<a
   ·exact⟨_,rfl,by simpa[c]using h.1 c⟩
   ·exact⟨_,rfl,by simpa[c]using h.2 c⟩
  case geq=>
   by_cases c:b≤a
   ·exact⟨_,rfl,by simpa[c]using h.1 c⟩
   ·exact⟨_,rfl,by simpa[c]using h.2 c⟩
 ·rename_i a b
  simp only[bin]
  unfold WA at h
  cases op<;>simp only at h
  case add=>obtain⟨h0,h2⟩:=h;exact⟨_,by simp only[UH,if_pos h0],h2⟩
  case eql=>
   by_cases c:a=b
   ·exact⟨_,rfl,by have:=h.1 c;simpa only[c,beq_self_eq_true,bne_self_eq_false,Bool.not_true]using this⟩
   ·exact⟨_,rfl,by have:=h.2 c;simpa only[bne,beq_false_of_ne c,Bool.not_false]using this⟩
  case neq=>
   by_cases c:a=b
   ·exact⟨_,rfl,by have:=h.1 c;simpa only[c,beq_self_eq_true,bne_self_eq_false,Bool.not_true]using this⟩
   ·exact⟨_,rfl,by have:=h.2 c;simpa only[bne,beq_false_of_ne c,Bool.not_false]using this⟩
  case lss=>cases c:Op.bytesLess a b<;>rw[c]at h<;>exact⟨_,rfl,by rw[c];exact h⟩
  case leq=>cases c:(Op.bytesLess a b||a==b)<;>rw[c]at h<;>exact⟨_,rfl,by rw[c];exact h⟩
  case gtr=>cases c:(Op.bytesLess a b||a==b)<;>rw[c]at h<;>exact⟨_,rfl,by rw[c];exact h⟩
  case geq=>cases c:Op.bytesLess a b<;>rw[c]at h<;>exact⟨_,rfl,by rw[c];exact h⟩
 ·obtain⟨v,h1,h2⟩:=h
  exact⟨v,h1,(Qc v K).1 h2⟩
end AI
end Go.Proofs.YtjjhejbffgaabaaGreatDoor
namespace Go.Proofs.YtjjhejbffgaabaaGreatDoor
namespace AI
open Go.RowKit
variable {AP:Nat→Option IZ}
def done (v:AV) (s:Af) (K:Ar→Af→Prop):Prop:=settle v fun v=>K (.ok v) s
def U9:Ak:=fun _ _ _=>none
def Uf (o:BJ) (env:Env) (s:Af) (K:Ar→Af→Prop):Prop:=
 JX (Ac U9 o env s) fun r=>match r with
    |(.ok v,s')=>done v s' K
    |(.DX v,s')=>K (.DX v) s'
def WB (σ:List Obj) (n:Nat) (r:AV) (R:AV→Prop):Prop:=match r with
 | .own o g off len=>match n with
   |0=>False
   |n+1=>match nth σ o with
    |some (.arr g' _ nn cl elems)=>match cl with
     |true=>need (g=g'∧off+len≤elems.length) (eqK (sub elems off len) fun xs=>R (.sl nn xs))
     |false=>JX (snap σ (n+1) (.own o g off len)) R
    |_=>False
 |r=>JX (snap σ n r) R
theorem Oh {σ:List Obj} {n:Nat} {r:AV} {R:AV→Prop} (h:WB σ n r R):∃v,snap σ n r=some v∧R v:=by
 unfold WB at h
 split at h
 ·rename_i o g off len
  split at h
  ·cases h
  ·split at h
   ·rename_i g' es nn cl elems ho
    split at h
    ·obtain⟨h1,xs,rfl,h2⟩:=h
     refine⟨_,?_,h2⟩
     simp only[snap,ho,if_pos h1,if_true]
    ·obtain⟨v,h1,h2⟩:=h;exact⟨v,h1,h2⟩
   ·cases h
 ·obtain⟨v,h1,h2⟩:=h;exact⟨v,h1,h2⟩
def Qd (σ:List Obj):Nat→List AV→(List AV→Prop)→Prop
 |_,[],K=>K []
 |0,_::_,_=>False
 |n+1,v::vs,K=>WB σ n v fun a=>Qd σ n vs fun r=>K (a::r)
theorem GK {σ:List Obj}:∀{n:Nat} {vs:List AV} {K:List AV→Prop},Qd σ n vs K→∃r,G9 σ n vs=some r∧K r
 |n,[],K,h=>⟨[],by cases n<;>rfl,by cases n<;>exact h⟩
 |0,_::_,_,h=>by cases h
 |n+1,v::vs,K,h=>by
  obtain⟨a,h1,h2⟩:=Oh h
  obtain⟨r,h3,h4⟩:=GK h2
  exact⟨_,by simp only[G9,h1,h3],h4⟩
def WC (σ:List Obj) (n:Nat) (r:AV) (R:AV→Prop):Prop:=match r with
 | .E5 cs=>match n with
   |0=>False
   |n+1=>Qd σ n cs fun vs=>R (.E5 vs)
 | .agg cs=>match n with
   |0=>False
   |n+1=>Qd σ n cs fun vs=>R (.agg vs)
 |r=>WB σ n r R
theorem Ug {σ:List Obj} {n:Nat} {r:AV} {R:AV→Prop} (h:WC σ n r R):∃v,snap σ n r=some v∧R v:=by
 unfold WC at h
 split at h
 ·split at h
  ·cases h
  ·obtain⟨vs,h1,h2⟩:=GK h
   exact⟨_,by simp only[snap,h1,Option.map_some],h2⟩
 ·split at h
  ·cases h
  ·obtain⟨vs,h1,h2⟩:=GK h
   exact⟨_,by simp only[snap,h1,Option.map_some],h2⟩
 ·exact Oh h
def Zy (AP:Nat→Option IZ) (m:Mode) (f:Nat) (args:List AV) (s:Af) (K:Ar→Af→Prop):Prop:=
 match m with
 | .pure=>need (Dp args=true) (Wx AP f args fun v=>done v s K)
 | .borrow=>Qd s.σ GX args fun args'=>Wx AP f args' fun v=>need (v.scalar=true) (done v s K)
 | .share=>CJ AP f args s fun out s'=>match out with
   | .ok r=>JX (compact s.σ.length r s') fun r=>done r.1 r.2 K
   | .DX v=>need (v.closed=true) (K (.DX v) ⟨s'.σ.take s.σ.length,s'.ctr⟩)
 | .own=>∃N r s',Aw (run AP N) .own f args s=some (.ok r,s')∧done r s' K
 | .keep=>CJ AP f args s fun out s'=>match out with
   | .ok r=>done r s' K
   | .DX v=>K (.DX v) s'
structure LJ (g g' es es' len:Nat) (nn cl c:Bool) (elems ys:List AV) (bytes:Nat) (K:Nat→Bool→Bool→List AV→Prop):Prop where
 mk::(h:(g=g'∧es=es'∧len≤elems.length∧A8 es ys∧roomy bytes (len+ys.length))∧K (len+ys.length) (nn||!ys.isEmpty) (cl&&c) (elems.take len++ys))
def Acx (a b:Bool) (K:Bool→Prop):Prop:=match b with
 |true=>K a
 |false=>K false
theorem Uh (a b:Bool) (K:Bool→Prop):Acx a b K↔K (a&&b):=by cases a<;>cases b<;>exact Iff.rfl
def Zz (b:Bool) (K:Bool→Prop):Prop:=match b with
 |true=>K true
 |false=>K false
theorem Vx (b:Bool) (K:Bool→Prop):Zz b K↔K b:=by cases b<;>exact Iff.rfl
def WE (env:Env):List (Nat×AO)→(List (Nat×AV)→Prop)→Prop
 |[],K=>K []
 |(j,x)::ps,K=>(x.val env).force fun v=>WE env ps fun r=>K ((j,v)::r)
theorem Q5 (env:Env):∀(ps:List (Nat×AO)) (K:List (Nat×AV)→Prop),WE env ps K↔K (Nv env ps)
 |[],_=>Iff.rfl
 |(j,x)::ps,K=>by simp only[WE,force_eq,Nv];exact Q5 env ps _
def EW (z:AV):Nat→List (Nat×AV)→Nat→(List AV→Prop)→Prop
 |0,_,_,K=>K []
 |n+1,[],i,K=>EW z n [] (i+1) fun r=>K (z::r)
 |n+1,(j,v)::ps,i,K=>bif Nat.beq i j then EW z n ps (i+1) fun r=>K (v::r)else EW z n ((j,v)::ps) (i+1) fun r=>K (z::r)
theorem FY (z:AV):∀(n:Nat) (ps:List (Nat×AV)) (i:Nat) (K:List AV→Prop),EW z n ps i K↔K (Bf z n ps i)
 |0,_,_,_=>by simp only[EW,Bf]
 |n+1,[],i,K=>by simp only[EW,Bf];exact FY z n [] (i+1) _
 |n+1,(j,v)::ps,i,K=>by
  simp only[EW,Bf]
  cases Nat.beq i j
  ·exact FY z n _ (i+1) _
  ·exact FY z n _ (i+1) _
def Vy (es:Nat) (v:AV) (s:Af) (K:List AV→Bool→Prop):Prop:=match v with
 | .sl _ xs=>K xs true
 | .zc=>K [] true
 |v=>JX (elemsOf s es v) fun r=>K r.1 r.2
theorem Sv {es:Nat} {v:AV} {s:Af} {K:List AV→Bool→Prop} (h:Vy es v s K):∃ys c,elemsOf s es v=some (ys,c)∧K ys c:=by
 unfold Vy at h
 split at h
 ·exact⟨_,_,rfl,h⟩
 ·exact⟨_,_,rfl,h⟩
 ·obtain⟨⟨ys,c⟩,h1,h2⟩:=h
  exact⟨ys,c,h1,h2⟩
def Aa4 (off j:Nat) (K:Nat→Prop):Prop:=match off with
 |0=>K j
 |n+1=>K (n+1+j)
theorem Ui (off j:Nat) (K:Nat→Prop):Aa4 off j K↔K (off+j):=by
 cases off with
 |zero=>simp[Aa4]
 |succ n=>exact Iff.rfl
structure H7 (t:IV) (k:AV) (ents:List (AV×AV)) (K:Option (Nat×AV)→Prop):Prop where
 mk::(h:∃r,findKey t k ents 0=some r∧K r)
def ZB (k v:AV) (ents:List (AV×AV)) (r:Option (Nat×AV)):List (AV×AV):=match r with
 |some (i,_)=>ents.set i (k,v)
 |none=>ents++[(k,v)]
structure NV (t:IV) (k v:AV) (ents:List (AV×AV)) (K:List (AV×AV)→Prop):Prop where
 mk::(h:∃r,findKey t k ents 0=some r∧K (ZB k v ents r))
def Sz (env:Env) (d:Nat) (x:Option AO) (K:Nat→Prop):Prop:=match x with
 |none=>K d
 |some x=>match x.val env with
  | .int _ n=>need (0≤n) (K n.toNat)
  |_=>False
def OL (env:Env) (len:Nat) (lo hi:Option AO) (K:Nat→Nat→Prop):Prop:=
 Sz env len hi fun h=>Sz env 0 lo fun l=>need (l≤h∧h≤len) (K l h)
theorem Nh {env:Env} {d:Nat} {x:Option AO} {K:Nat→Prop} (h:Sz env d x K):∃n,(match x with|none=>some d|some x=>bound (x.val env))=some n∧K n:=by
 unfold Sz at h
 split at h
 ·exact⟨d,rfl,h⟩
 ·rename_i x
  split at h
  ·rename_i k n hv
   exact⟨n.toNat,by simp only[hv,bound,if_pos h.1],h.2⟩
  ·cases h
theorem Ir {env:Env} {len:Nat} {lo hi:Option AO} {K:Nat→Nat→Prop} (h:OL env len lo hi K):∃l u,bounds env len lo hi=some (l,u)∧K l u:=by
 obtain⟨u,h1,h2⟩:=Nh h
 obtain⟨l,h3,h4,h5⟩:=Nh h2
 refine⟨l,u,?_,h5⟩
 unfold bounds
 cases hi<;>cases lo<;>simp_all
def Jq (AP:Nat→Option IZ) (o:BJ) (env:Env) (s:Af) (K:Ar→Af→Prop):Prop:=
 match o with
 | .WU x=>done (x.val env) s K
 | .Ij es=>Sr s (fun o g=>.own o g 0 0) (fun g=>.arr g es false true []) K
 | .I8 off e2 es cs=>match nth cs off with
   |some (.sl false [])=>need (0<e2) (Sr s (fun o g=>.own o g 0 0) (fun g=>.arr g e2 false true []) fun out s1=>match out with
        | .ok v=>Sr s1 (fun o g=>.ref o g 0 0) (fun g=>.arr g es true (AV.agg (cs.set off v)).closed [.agg (cs.set off v)]) K
        | .DX _=>False)
   |_=>False
 | .pick c a b=>match c.val env with
   | .bool c=>JA c (done (a.val env) s K) (done (b.val env) s K)
   |_=>False
 | .alloc es z=>Sr s (fun o g=>.ref o g 0 0) (fun g=>.arr g es true z.closed [z]) K
 | .box es x=>(x.val env).force fun v=>need ((v.storable&&v.cells.length==es)=true) (Sr s (fun o g=>.ref o g 0 0) (fun g=>.arr g es true v.closed [v]) K)
 | .build z parts=>JX (DI z (I9 env parts)) fun cs=>K (.ok (.agg cs)) s
 | .load sz a=>match a.val env with
   | .BP cs=>JX (loadCells cs sz) fun v=>done v s K
   | .ref o g i off=>match nth s.σ o with
     |some (.arr g' _ _ _ elems)=>need (g=g') (RU elems i fun x=>JX (loadCells (x.cells.drop off) sz) fun v=>done v s K)
     |_=>False
   |_=>False
 | .store sz a x=>match a.val env with
   | .ref o g i off=>match nth s.σ o with
     |some (.arr g' es nn cl elems)=>need (g=g') (RU elems i fun y=>(x.val env).force fun v=>need ((v.storable&&v.cells.length==sz&&off+sz≤es)=true)
       (Acx cl v.closed fun cl'=>eqK (elems.set i (Bv y off v)) fun es'=>I4 s.σ o (.arr g' es nn cl' es') fun σ=>K (.ok .undef) ⟨σ,s.ctr⟩))
     |_=>False
   |_=>False
 | .Nu x=>match x.val env with
   | .ref o g i off=>K (.ok (.ref o g i off)) s
   | .BP cs=>K (.ok (.BP cs)) s
   | .fn f cs=>K (.ok (.fn f cs)) s
   |_=>False
 | .bin op t x y=>Acw op t (x.val env) (y.val env) fun v=>K (.ok v) s
 | .un op x=>match op,x.val env with
   | .not,.bool b=>JA b (K (.ok (.bool false)) s) (K (.ok (.bool true)) s)
   | .neg,.int k n=>Jz k (0-n) fun v=>K (.ok v) s
   |_,_=>False
 | .conv k x=>match x.val env with
   | .int _ n=>Jz k n fun v=>K (.ok v) s
   |_=>False
 | .field off sz x=>match x.val env with
   | .agg cs=>JX (loadCells (cs.drop off) sz) fun v=>done v s K
   |_=>False
 | .OW off x=>match x.val env with
   | .BP cs=>K (.ok (.BP (cs.drop off))) s
   | .ref o g i off'=>K (.ok (.ref o g i (off'+off))) s
   |_=>False
 | .OX es x i=>match x.val env,i.val env with
   | .sl _ xs,.int _ i=>need (0≤i) (RU xs i.toNat fun v=>need (v.cells.length=es) (K (.ok (.BP v.cells)) s))
   | .own o g off len,.int _ i=>match nth s.σ o with
     |some (.arr g' es' _ _ _)=>need (g=g'∧es=es'∧0≤i∧i<len) (Aa4 off i.toNat fun j=>K (.ok (.ref o g j 0)) s)
     |_=>False
   |_,_=>False
 | .len k x=>match k,x.val env with
   | .slice,.sl _ xs=>eqK xs.length fun n=>K (.ok (.int .i64 n)) s
   | .slice,.own _ _ _ n=>K (.ok (.int .i64 n)) s
   | .str,.str bs=>K (.ok (.int .i64 bs.length)) s
   | .map,.map o g=>match nth s.σ o with
     |some (.mp g' _ ents)=>need (g=g') (K (.ok (.int .i64 ents.length)) s)
     |_=>False
   | .map,.fmap ents=>K (.ok (.int .i64 ents.length)) s
   |_,_=>Uf (.len k x) env s K
 | .LK=>Sr s (fun o g=>.map o g) (fun g=>.mp g true []) K
 | .lookup t z OD m k=>match m.val env with
   | .map o g=>match nth s.σ o with
     |some (.mp g' _ ents)=>need (g=g'∧H8 t (k.val env)=true) (H7 t (k.val env) ents fun r=>match r with
      |some (_,v)=>bif OD then K (.ok (.E5 [v,.bool true])) s else done v s K
      |none=>bif OD then K (.ok (.E5 [z,.bool false])) s else done z s K)
     |_=>False
   | .fmap ents=>need (H8 t (k.val env)=true) (H7 t (k.val env) ents fun r=>match r with
        |some (_,v)=>bif OD then K (.ok (.E5 [v,.bool true])) s else done v s K
        |none=>bif OD then K (.ok (.E5 [z,.bool false])) s else done z s K)
   |_=>Uf (.lookup t z OD m k) env s K
 | .mapset t m k v=>match m.val env with
   | .map o g=>match nth s.σ o with
     |some (.mp g' cl ents)=>(v.val env).force fun vv=>need (g=g'∧H8 t (k.val env)=true∧vv.storable=true)
       (Acx cl vv.closed fun cl'=>NV t (k.val env) vv ents fun Wu=>I4 s.σ o (.mp g' cl' Wu) fun σ=>K (.ok .undef) ⟨σ,s.ctr⟩)
     |_=>False
   |_=>False
 | .delete t m k=>match m.val env with
   | .map o g=>match nth s.σ o with
     |some (.mp g' cl ents)=>need (g=g'∧H8 t (k.val env)=true) (H7 t (k.val env) ents fun r=>match r with
      |some (i,_)=>I4 s.σ o (.mp g' cl (ents.eraseIdx i)) fun σ=>K (.ok .undef) ⟨σ,s.ctr⟩
      |none=>K (.ok .undef) s)
     |_=>False
   |_=>False
 | .lit own es z len parts=>WE env parts fun ps=>need (OZ es len ps 0=true) (EW z len ps 0 fun xs=>
    bif own then Zz (Gv ps) fun c=>Sr s (fun o g=>.own o g 0 len) (fun g=>.arr g es true c xs) K
    else bif Nat.beq len 0 then K (.ok .zc) s else need (Gv ps=true) (K (.ok (.sl true xs)) s))
 | .UG x i=>match x.val env,i.val env with
   | .str bs,.int _ i=>need (0≤i) (RU bs i.toNat fun b=>K (.ok (.int .u8 b.toNat)) s)
   |_,_=>False
 | .slice es x lo hi=>match x.val env with
   | .sl nn xs=>OL env xs.length lo hi fun l h=>need (A8 es xs) (eqK (sub xs l (h-l)) fun ys=>K (.ok (.sl nn ys)) s)
   | .own o g off len=>match nth s.σ o with
     |some (.arr g' es' _ _ _)=>need (g=g'∧es=es') (OL env len lo hi fun l h=>Aa4 off l fun j=>K (.ok (.own o g j (h-l))) s)
     |_=>False
   |_=>Uf (.slice es x lo hi) env s K
 | .JG x lo hi=>match x.val env with
   | .str bs=>OL env bs.length lo hi fun l h=>eqK ((bs.drop l).take (h-l)) fun r=>K (.ok (.str r)) s
   |_=>False
 | .append es bytes a x=>Vy es (x.val env) s fun ys c=>match a.val env with
   | .own o g 0 len=>match nth s.σ o with
     |some (.arr g' es' nn cl' elems)=>LJ g g' es es' len nn cl' c elems ys bytes fun n nn cl es'=>I4 s.σ o (.arr s.ctr es nn cl es') fun σ=>K (.ok (.own o s.ctr 0 n)) ⟨σ,s.ctr+1⟩
     |_=>False
   |v=>JX (Dt es bytes s v ys c) fun r=>done r.1 r.2 K
 | .Gu es bytes z len cap=>match len.val env,cap.val env with
   | .int _ l,.int _ c=>need (0≤l∧l≤c∧roomy bytes c.toNat) (eqK (List.replicate l.toNat z) fun xs=>Sr s (fun o g=>.own o g 0 l.toNat) (fun g=>.arr g es true z.closed xs) K)
   |_,_=>False
 | .ext x i=>match x.val env with
   | .E5 cs=>JX (nth cs i) fun v=>done v s K
   |_=>False
 | .call m f args=>Zy AP m f (vals env args) s K
 | .F7 m x args=>match x.val env with
   | .fn f caps=>Zy AP m f (vals env args++caps) s K
   |_=>False
 |o=>Uf o env s K
theorem XJ (C:Ak):EC U9 C:=fun _ _ _ _ h=>by cases h
theorem BR (v:AV) (s:Af) (K:Ar→Af→Prop):done v s K↔K (.ok v) s:=Qc v _
theorem Ih {o:BJ} {env:Env} {s:Af} {K:Ar→Af→Prop} (h:Uf o env s K):Op1 AP o env s K:=by
 obtain⟨⟨out,s'⟩,h1,h2⟩:=h
 refine⟨0,out,s',BF (XJ _) h1,?_⟩
 cases out with
 |ok v=>exact(BR v s' K).1 h2
 |DX v=>exact h2
theorem Oi {m:Mode} {f:Nat} {args:List AV} {s:Af} {K:Ar→Af→Prop} (h:Zy AP m f args s K):∃N out s',Aw (run AP N) m f args s=some (out,s')∧K out s':=by
 cases m with
 |pure=>
  obtain⟨hc,v,⟨N,hp⟩,hk⟩:=h
  exact⟨N,.ok v,s,by simp only[Aw,if_pos hc,hp,Option.map_some],(BR v s K).1 hk⟩
 |borrow=>
  obtain⟨args',ha,v,⟨N,hp⟩,hs,hk⟩:=GK h
  exact⟨N,.ok v,s,by simp only[Aw,ha,hp,if_pos hs],(BR v s K).1 hk⟩
 |share=>
  obtain⟨N,out,s',hr,hk⟩:=h
  cases out with
  |ok r=>
   obtain⟨⟨r',s''⟩,h1,h2⟩:=hk
   exact⟨N,.ok r',s'',by simp only[Aw,hr,h1,Option.map_some],(BR r' s'' K).1 h2⟩
  |DX v=>
   obtain⟨h1,h2⟩:=hk
   exact⟨N,.DX v,_,by simp only[Aw,hr,if_pos h1],h2⟩
 |own=>
  obtain⟨N,r,s',h1,h2⟩:=h
  exact⟨N,.ok r,s',h1,(BR r s' K).1 h2⟩
 |keep=>
  obtain⟨N,out,s',hr,hk⟩:=h
  cases out with
  |ok r=>exact⟨N,.ok r,s',hr,(BR r s' K).1 hk⟩
  |DX v=>exact⟨N,.DX v,s',hr,hk⟩
theorem Gh {s:Af} {mk:Nat→Nat→AV} {ob:Nat→Obj} {K:Ar→Af→Prop}:Sr s mk ob K↔K (.ok (mk s.σ.length s.ctr)) (push s (ob s.ctr)):=Nr _ _ _
theorem GZ {o:BJ} {env:Env} {s:Af} {K:Ar→Af→Prop} (h:Jq AP o env s K):Op1 AP o env s K:=by
 cases o
 case WU x=>exact⟨0,_,_,rfl,(BR _ _ _).1 h⟩
 case Ij es=>simp only[Jq]at h;exact⟨0,_,_,rfl,Gh.1 h⟩
 case I8 off e2 es cs=>
  simp only[Jq]at h
  split at h
  case h_2=>cases h
  rename_i hoff
  obtain⟨he,h⟩:=h
  have h:=Gh.1 h
  have h:=Gh.1 h
  refine⟨0,_,_,?_,h⟩
  simp only[Ac,hoff,if_pos he]
  simp[push]
 case pick c a b=>
  simp only[Jq]at h
  split at h
  ·rename_i c' hc
   cases c'
   ·exact⟨0,_,_,by simp only[Ac,hc],(BR _ _ _).1 h⟩
   ·exact⟨0,_,_,by simp only[Ac,hc],(BR _ _ _).1 h⟩
  ·cases h
 case alloc es z=>simp only[Jq]at h;exact⟨0,_,_,rfl,Gh.1 h⟩
 case box es x=>
  simp only[Jq,force_eq]at h
  obtain⟨h1,h2⟩:=h
  exact⟨0,_,_,by simp only[Ac,if_pos h1],Gh.1 h2⟩
 case build z ps=>
  obtain⟨cs,h1,h2⟩:=h
  exact⟨0,_,_,by simp only[Ac,h1,Option.map_some],h2⟩
 case load sz a=>
  simp only[Jq]at h
  split at h
  ·rename_i cs hv
   obtain⟨v,h1,h2⟩:=h
   exact⟨0,_,_,by simp only[Ac,hv,ok,h1,Option.map_some],(BR _ _ _).1 h2⟩
  ·rename_i o g i off hv
   split at h
   ·rename_i g' es nn cl elems ho
    obtain⟨hg,x,hx,v,h1,h2⟩:=h
    exact⟨0,_,_,by simp only[Ac,hv,ho,if_pos hg,hx,ok,h1,Option.map_some],(BR _ _ _).1 h2⟩
   ·cases h
  ·cases h
 case store sz a x=>
  simp only[Jq]at h
  split at h
  ·rename_i o g i off hv
   split at h
   ·rename_i g' es nn cl elems ho
    obtain⟨hg,y,hy,h⟩:=h
    rw[force_eq]at h
    obtain⟨h1,h2⟩:=h
    rw[Uh]at h2
    obtain⟨es',rfl,h2⟩:=h2
    rw[DU]at h2
    exact⟨0,_,_,by simp only[Ac,hv,ho,if_pos hg,hy,h1,if_true],h2⟩
   ·cases h
  ·cases h
 case Nu x=>
  simp only[Jq]at h
  split at h
  ·rename_i hv;exact⟨0,_,_,by simp only[Ac,hv],h⟩
  ·rename_i hv;exact⟨0,_,_,by simp only[Ac,hv],h⟩
  ·rename_i hv;exact⟨0,_,_,by simp only[Ac,hv],h⟩
  ·cases h
 case bin op t x y=>
  obtain⟨v,h1,h2⟩:=Vw h
  exact⟨0,_,_,by simp only[Ac,ok,h1,Option.map_some],h2⟩
 case un op x=>
  simp only[Jq]at h
  split at h
  ·rename_i b hv
   cases b
   ·exact⟨0,_,_,by simp only[Ac,hv,Bool.not_false],h⟩
   ·exact⟨0,_,_,by simp only[Ac,hv,Bool.not_true],h⟩
  ·rename_i k n hv
   obtain⟨y,h1,h2⟩:=h
   exact⟨0,_,_,by simp only[Ac,hv,h1],h2⟩
  ·cases h
 case conv k x=>
  simp only[Jq]at h
  split at h
  ·rename_i k' n hv
   obtain⟨y,h1,h2⟩:=h
   exact⟨0,_,_,by simp only[Ac,hv,h1],h2⟩
  ·cases h
 case field off sz x=>
  simp only[Jq]at h
  split at h
  ·rename_i cs hv
   obtain⟨v,h1,h2⟩:=h
   exact⟨0,_,_,by simp only[Ac,hv,ok,h1,Option.map_some],(BR _ _ _).1 h2⟩
  ·cases h
 case OW off x=>
  simp only[Jq]at h
  split at h
  ·rename_i hv;exact⟨0,_,_,by simp only[Ac,hv],h⟩
  ·rename_i hv;exact⟨0,_,_,by simp only[Ac,hv],h⟩
  ·cases h
 case OX es x i=>
  simp only[Jq]at h
  split at h
  ·rename_i nn xs k n hx hi
   obtain⟨h0,v,h1,h2,h3⟩:=h
   exact⟨0,_,_,by simp only[Ac,hx,hi,if_pos h0,h1,if_pos h2],h3⟩
  ·rename_i o g off len k n hx hi
   split at h
   ·rename_i g' es' nn cl elems ho
    obtain⟨h1,h2⟩:=h
    rw[Ui]at h2
    exact⟨0,_,_,by simp only[Ac,hx,hi,ho,if_pos h1],h2⟩
   ·cases h
  ·cases h
 case len k x=>
  simp only[Jq]at h
  split at h
  ·rename_i hv
   obtain⟨n,rfl,h⟩:=h
   exact⟨0,_,_,by simp only[Ac,hv],h⟩
  ·rename_i hv;exact⟨0,_,_,by simp only[Ac,hv],h⟩
  ·rename_i hv;exact⟨0,_,_,by simp only[Ac,hv],h⟩
  ·rename_i o g hv
   split at h
   ·rename_i g' cl ents ho
    obtain⟨h1,h2⟩:=h
    exact⟨0,_,_,by simp only[Ac,hv,ho,if_pos h1],h2⟩
   ·cases h
  ·rename_i hv;exact⟨0,_,_,by simp only[Ac,hv],h⟩
  ·exact Ih h
 case UG x i=>
  simp only[Jq]at h
  split at h
  ·rename_i bs k n hx hi
   obtain⟨h1,b,h2,h3⟩:=h
   exact⟨0,_,_,by simp only[Ac,hx,hi,if_pos h1,h2],h3⟩
  ·cases h
 case slice es x lo hi=>
  simp only[Jq]at h
  split at h
  ·rename_i nn xs hx
   obtain⟨l,u,h1,h2,ys,rfl,h3⟩:=Ir h
   exact⟨0,_,_,by simp only[Ac,hx,h1,if_pos h2],h3⟩
  ·rename_i o g off len hx
   split at h
   ·rename_i g' es' nn cl elems ho
    obtain⟨hg,h⟩:=h
    obtain⟨l,u,h1,h2⟩:=Ir h
    rw[Ui]at h2
    exact⟨0,_,_,by simp only[Ac,hx,ho,if_pos hg,h1],h2⟩
   ·cases h
  ·exact Ih h
 case JG x lo hi=>
  simp only[Jq]at h
  split at h
  ·rename_i bs hx
   obtain⟨l,u,h1,r,rfl,h2⟩:=Ir h
   exact⟨0,_,_,by simp only[Ac,hx,h1],h2⟩
  ·cases h
 case LK=>simp only[Jq]at h;exact⟨0,_,_,rfl,Gh.1 h⟩
 case lookup t z OD m k=>
  simp only[Jq]at h
  split at h
  ·rename_i o g hv
   split at h
   ·rename_i g' cl ents ho
    obtain⟨h1,r,h2,h3⟩:=h
    cases r with
    |none=>
     cases OD
     ·exact⟨0,_,_,by simp only[Ac,hv,ho,if_pos h1,h2];rfl,(BR _ _ _).1 h3⟩
     ·exact⟨0,_,_,by simp only[Ac,hv,ho,if_pos h1,h2];rfl,h3⟩
    |some p=>
     cases OD
     ·exact⟨0,_,_,by simp only[Ac,hv,ho,if_pos h1,h2];rfl,(BR _ _ _).1 h3⟩
     ·exact⟨0,_,_,by simp only[Ac,hv,ho,if_pos h1,h2];rfl,h3⟩
   ·cases h
  ·rename_i ents hv
   obtain⟨h1,r,h2,h3⟩:=h
   cases r with
   |none=>
    cases OD
    ·exact⟨0,_,_,by simp only[Ac,hv,if_pos h1,h2];rfl,(BR _ _ _).1 h3⟩
    ·exact⟨0,_,_,by simp only[Ac,hv,if_pos h1,h2];rfl,h3⟩
   |some p=>
    cases OD
    ·exact⟨0,_,_,by simp only[Ac,hv,if_pos h1,h2];rfl,(BR _ _ _).1 h3⟩
    ·exact⟨0,_,_,by simp only[Ac,hv,if_pos h1,h2];rfl,h3⟩
  ·exact Ih h
 case mapset t m k v=>
  simp only[Jq]at h
  split at h
  ·rename_i o g hv
   split at h
   ·rename_i g' cl ents ho
    rw[force_eq]at h
    obtain⟨h1,h2⟩:=h
    rw[Uh]at h2
    obtain⟨r,h2,h3⟩:=h2
    rw[DU]at h3
    cases r with
    |none=>exact⟨0,_,_,by simp only[Ac,hv,ho,if_pos h1,h2];rfl,h3⟩
    |some p=>exact⟨0,_,_,by simp only[Ac,hv,ho,if_pos h1,h2];rfl,h3⟩
   ·cases h
  ·cases h
 case delete t m k=>
  simp only[Jq]at h
  split at h
  ·rename_i o g hv
   split at h
   ·rename_i g' cl ents ho
    obtain⟨h1,r,h2,h3⟩:=h
    cases r with
    |none=>exact⟨0,_,_,by simp only[Ac,hv,ho,if_pos h1,h2],h3⟩
    |some p=>
     simp only at h3
     rw[DU]at h3
     exact⟨0,_,_,by simp only[Ac,hv,ho,if_pos h1,h2],h3⟩
   ·cases h
  ·cases h
 case lit own es z len parts=>
  simp only[Jq,Q5]at h
  obtain⟨h1,h2⟩:=h
  rw[FY]at h2
  cases own
  ·rw[cond_false]at h2
   cases hb:Nat.beq len 0
   ·rw[hb,cond_false]at h2
    have hne:len≠0:=fun e=>by subst e;simp at hb
    exact⟨0,_,_,by simp only[Ac,if_pos h1,if_neg hne,if_pos h2.1];rfl,h2.2⟩
   ·rw[hb,cond_true]at h2
    have he:len=0:=Nat.eq_of_beq_eq_true hb
    exact⟨0,_,_,by simp only[Ac,if_pos h1,if_pos he];rfl,h2⟩
  ·rw[cond_true,Vx]at h2
   exact⟨0,_,_,by simp only[Ac,if_pos h1,if_true],Gh.1 h2⟩
 case append es bytes a x=>
  simp only[Jq]at h
  obtain⟨ys,cl,h1,h⟩:=Sv h
  split at h
  ·rename_i o g len hv
   split at h
   ·rename_i g' es' nn cl' elems ho
    obtain⟨h2,h3⟩:=h
    rw[DU]at h3
    exact⟨0,_,_,by simp only[Ac,h1,hv,Dt,ho,if_pos h2,Option.map_some],h3⟩
   ·cases h
  ·obtain⟨⟨v,s'⟩,h2,h3⟩:=h
   exact⟨0,_,_,by simp only[Ac,h1,h2,Option.map_some],(BR _ _ _).1 h3⟩
 case Gu es bytes z len cap=>
  simp only[Jq]at h
  split at h
  ·rename_i k l k' c hl hc
   obtain⟨h1,xs,rfl,h2⟩:=h
   exact⟨0,_,_,by simp only[Ac,hl,hc,if_pos h1],Gh.1 h2⟩
  ·cases h
 case ext x i=>
  simp only[Jq]at h
  split at h
  ·rename_i cs hv
   obtain⟨v,h1,h2⟩:=h
   exact⟨0,_,_,by simp only[Ac,hv,ok,h1,Option.map_some],(BR _ _ _).1 h2⟩
  ·cases h
 case call m f args=>exact Oi h
 case F7 m x args=>
  simp only[Jq]at h
  split at h
  ·rename_i f caps hv
   obtain⟨N,out,s',h1,h2⟩:=Oi h
   exact⟨N,out,s',by simp only[Ac,hv];exact h1,h2⟩
  ·cases h
 all_goals exact Ih h
end AI
end Go.Proofs.YtjjhejbffgaabaaGreatDoor
namespace Go.Proofs.YtjjhejbffgaabaaGreatDoor
namespace AI
open Go.RowKit
variable {AP:Nat→Option IZ}
def EJ (g:Option (Nat×Bool)) (env:Env) (t e:Prop):Prop:=match g with
 |none=>t
 |some (r,b)=>match env.get r with
  | .bool b'=>JA (b'==b) t e
  | .undef=>e
  |_=>False
def ZC (k:Env→Af→Prop) (d:Option Nat) (env:Env) (Q:AY→Env→Af→Prop) (out:Ar) (s:Af):Prop:=match out with
 | .ok v=>k (put d v env) s
 | .DX v=>Q (.DX v) env s
def Uj (AP:Nat→Option IZ) (ops:List Aj):Env→Af→(AY→Env→Af→Prop)→Prop:=
 List.rec (motive:=fun _=>Env→Af→(AY→Env→Af→Prop)→Prop) (fun env s Q=>Q .normal env s)
    (fun o _ ih env s Q=>EJ o.guard env (Jq AP o.op env s (ZC (fun env s=>ih env s Q) o.dst env Q)) (ih (put o.dst .undef env) s Q)) ops
theorem XK (o:Aj) (os:List Aj) (env:Env) (s:Af) (Q:AY→Env→Af→Prop):Uj AP (o::os) env s Q=EJ o.guard env
 (Jq AP o.op env s (ZC (fun env s=>Uj AP os env s Q) o.dst env Q))
 (Uj AP os (put o.dst .undef env) s Q):=rfl
theorem Jr:∀{os:List Aj} {env:Env} {s:Af} {Q:AY→Env→Af→Prop},Uj AP os env s Q→Ops AP os env s Q
 |[],env,s,Q,h=>⟨0,_,_,_,rfl,h⟩
 |o::os,env,s,Q,h=>by
  have J5:wanted o.guard env=some false→Uj AP os (put o.dst .undef env) s Q→Ops AP (o::os) env s Q:=by
   intro hw h
   obtain⟨N,e,env',s',h1,h2⟩:=Jr h
   exact⟨N,e,env',s',by simp only[CY,hw];exact h1,h2⟩
  have hdo:wanted o.guard env=some true→Jq AP o.op env s (ZC (fun env s=>Uj AP os env s Q) o.dst env Q)→Ops AP (o::os) env s Q:=by
   intro hw h
   obtain⟨N,out,s1,h1,h2⟩:=GZ h
   cases out with
   |ok v=>
    obtain⟨N',e,env',s',h3,h4⟩:=Jr h2
    refine⟨max N N',e,env',s',?_,h4⟩
    simp only[CY,hw,BF (Bq (Nat.le_max_left N N')) h1]
    exact Ef (Bq (Nat.le_max_right N N')) h3
   |DX v=>exact⟨N,_,_,_,by simp only[CY,hw,h1],h2⟩
  rw[XK]at h
  unfold EJ at h
  split at h
  ·rename_i hg
   exact hdo (by rw[hg];rfl) h
  ·rename_i r b hg
   split at h
   ·rename_i b' hb
    cases hbb:(b'==b)
    ·rw[hbb]at h
     exact J5 (by rw[hg];simp only[wanted,hb,hbb]) h
    ·rw[hbb]at h
     exact hdo (by rw[hg];simp only[wanted,hb,hbb]) h
   ·rename_i hb
    exact J5 (by rw[hg];simp only[wanted,hb]) h
   ·cases h
def Jt:List Nat→Env→(Env→Prop)→Prop
 |[],_,K=>K []
 |t::ts,env,K=>(env.get t).force fun v=>Jt ts env fun e=>K ((t,v)::e)
theorem Eo:∀(ts:List Nat) (env:Env) (K:Env→Prop),Jt ts env K↔K (commit env ts)
 |[],_,_=>Iff.rfl
 |t::ts,env,K=>by
  simp only[Jt,force_eq,commit]
  exact Eo ts env _
def Qe:List Nat→Env→Af→(Env→Af→Prop)→Prop
 |[],env,s,K=>K env s
 |t::ts,env,s,K=>match env.get t with
  | .own o g off len=>match nth s.σ o with
    |some (.arr g' _ nn cl elems)=>need (g=g'∧cl=true∧off+len≤elems.length) (eqK (sub elems off len) fun xs=>I4 s.σ o .dead fun σ=>Qe ts ((t,.sl nn xs)::env) ⟨σ,s.ctr⟩ K)
    |_=>False
  | .ref o g i off=>match nth s.σ o with
    |some (.arr g' _ nn cl elems)=>match cl,elems with
     |false,[x]=>match Kq x.cells 0 with
      |some (k,o2,g2,a2,n2)=>match nth s.σ o2 with
       |some (.arr g3 _ nn3 cl3 He)=>need ((g=g'∧i=0∧off=0∧g2=g3∧o2≠o∧a2+n2≤He.length∧cl3=true)∧Dp (x.cells.set k (.sl nn3 (sub He a2 n2)))=true) (eqK (sub He a2 n2) fun xs=>I4 s.σ o2 .dead fun σ1=>I4 σ1 o .dead fun σ2=>Qe ts ((t,.BP (x.cells.set k (.sl nn3 xs)))::env) ⟨σ2,s.ctr⟩ K)
       |_=>False
      |none=>False
     |cl,elems=>need (g=g'∧cl=true) (RU elems i fun x=>I4 s.σ o .dead fun σ=>Qe ts ((t,.BP (x.cells.drop off))::env) ⟨σ,s.ctr⟩ K)
    |_=>False
  | .map o g=>match nth s.σ o with
    |some (.mp g' cl ents)=>need (g=g'∧cl=true∧SY ents=true) (I4 s.σ o .dead fun σ=>Qe ts ((t,.fmap ents)::env) ⟨σ,s.ctr⟩ K)
    |_=>False
  | .sl nn xs=>Qe ts ((t,.sl nn xs)::env) s K
  | .zc=>Qe ts ((t,.zc)::env) s K
  |_=>False
theorem DR:∀{ts:List Nat} {env:Env} {s:Af} {K:Env→Af→Prop},Qe ts env s K→∃env' s',E8 ts env s=some (env',s')∧K env' s'
 |[],env,s,K,h=>⟨env,s,rfl,h⟩
 |t::ts,env,s,K,h=>by
  simp only[Qe]at h
  split at h
  ·rename_i o g off len hv
   split at h
   ·rename_i g' es nn cl elems ho
    obtain⟨⟨rfl,rfl,hf⟩,xs,rfl,h⟩:=h
    rw[DU]at h
    obtain⟨env',s',h1,h2⟩:=DR h
    exact⟨env',s',by simp only[E8,hv,ho,true_and,if_pos hf];exact h1,h2⟩
   ·cases h
  ·rename_i o g i off hv
   split at h
   ·rename_i g' es nn cl elems ho
    split at h
    ·rename_i x
     split at h
     ·rename_i k o2 g2 a2 n2 hoc
      split at h
      ·rename_i g3 es3 nn3 cl3 He ho2
       obtain⟨⟨⟨hq1,hq2,hq3,hq4,hq5,hq6,rfl⟩,hcl⟩,xs,rfl,h⟩:=h
       rw[DU,DU]at h
       obtain⟨env',s',h1,h2⟩:=DR h
       refine⟨env',s',?_,h2⟩
       simp only[E8,hv,ho,hoc,ho2]
       rw[if_pos ⟨hq1,hq2,hq3,hq4,hq5,hq6,hcl⟩]
       exact h1
      ·cases h
     ·cases h
    ·obtain⟨⟨rfl,rfl⟩,⟨x,hx,h⟩⟩:=h
     rw[DU]at h
     obtain⟨env',s',h1,h2⟩:=DR h
     exact⟨env',s',by simp only[E8,hv,ho,if_pos,hx];exact h1,h2⟩
   ·cases h
  ·rename_i o g hv
   split at h
   ·rename_i g' cl ents ho
    obtain⟨⟨rfl,rfl,hk⟩,h⟩:=h
    rw[DU]at h
    obtain⟨env',s',h1,h2⟩:=DR h
    exact⟨env',s',by simp only[E8,hv,ho,true_and,if_pos hk];exact h1,h2⟩
   ·cases h
  ·rename_i nn xs hv
   obtain⟨env',s',h1,h2⟩:=DR h
   exact⟨env',s',by simp only[E8,hv];exact h1,h2⟩
  ·rename_i hv
   obtain⟨env',s',h1,h2⟩:=DR h
   exact⟨env',s',by simp only[E8,hv];exact h1,h2⟩
  ·cases h
def Q7 {α:Type}:Nat→List α→(List α→Prop)→Prop
 |0,_,K=>K []
 |_+1,[],K=>K []
 |n+1,x::xs,K=>Q7 n xs fun ys=>K (x::ys)
theorem NR {α:Type}:∀(n:Nat) (l:List α) (K:List α→Prop),Q7 n l K↔K (l.take n)
 |0,_,_=>by simp[Q7]
 |_+1,[],_=>by simp[Q7]
 |n+1,x::xs,K=>NR n xs fun ys=>K (x::ys)
def ZE (tr:Option Nat) (s:Af) (K:Af→Prop):Prop:=match tr with
 |none=>K s
 |some k=>Q7 (kept k s.σ.length) s.σ fun σ=>K ⟨σ,s.ctr⟩
theorem Ll (tr:Option Nat) (s:Af) (K:Af→Prop):ZE tr s K↔K (truncate tr s):=by
 cases tr with
 |none=>exact Iff.rfl
 |some k=>exact NR _ s.σ _
def ZF (live:List Nat) (tr:Option Nat) (Q:AY→Env→Af→Prop) (e:AY) (env:Env) (s:Af):Prop:=match e with
 | .normal=>Jt live env fun env=>ZE tr s fun s=>Q .normal env s
 |e=>Q e env s
def Aft (k:Env→Af→Prop) (Q:AY→Env→Af→Prop) (e:AY) (env:Env) (s:Af):Prop:=match e with
 | .normal=>k env s
 |e=>Q e env s
def AdX (id:Nat) (Q:AY→Env→Af→Prop) (e:AY) (env:Env) (s:Af):Prop:=match e with
 | .exit j=>JA (Nat.beq j id) (Q .normal env s) (Q (.exit j) env s)
 |e=>Q e env s
def SA (AP:Nat→Option IZ) (o:BJ) (r g:Nat) (env:Env) (s:Af) (K:AV→Option (Nat×Obj)→Nat→Prop):Prop:=
 Jq AP o env s fun out s'=>match out with
    | .DX _=>False
    | .ok v=>match o.cls with
      |some .e=>K v none 0
      |some .r=>K v none 0
      |some .w=>match o.writes r env with
       |[t]=>match nth s'.σ t with
        |some ob=>K v (some (t,ob)) 0
        |none=>False
       |_=>False
      |some .a=>match nth s'.σ v.idx with
       |some ob=>bif Nat.blt v.idx s.σ.length then K (v.moved v.idx g) (some (v.idx,ob.NW g)) 1
        else match nth s.σ r with
           |some .dead=>K (v.moved r g) (some (r,ob.NW g)) 1
           |_=>False
       |none=>False
      |none=>False
theorem SB {o:BJ} {r g:Nat} {env:Env} {s:Af} {K:AV→Option (Nat×Obj)→Nat→Prop} (h:SA AP o r g env s K):∃N v u b,Hf (run AP N) o r g env s=some (v,u,b)∧K v u b:=by
 obtain⟨N,out,s',h1,h2⟩:=GZ h
 cases out with
 |DX v=>cases h2
 |ok v=>
  simp only at h2
  split at h2
  ·rename_i hc;exact⟨N,_,_,_,by simp only[Hf,hc,h1],h2⟩
  ·rename_i hc;exact⟨N,_,_,_,by simp only[Hf,hc,h1],h2⟩
  ·rename_i hc
   split at h2
   ·rename_i t ht
    split at h2
    ·rename_i ob hob;exact⟨N,_,_,_,by simp only[Hf,hc,h1,ht,hob],h2⟩
    ·cases h2
   ·cases h2
  ·rename_i hc
   split at h2
   ·rename_i ob hob
    cases hb:Nat.blt v.idx s.σ.length
    ·rw[hb,cond_false]at h2
     have hlt:¬v.idx<s.σ.length:=fun hlt=>by
      have:=(show (Nat.blt v.idx s.σ.length=true) from Nat.blt_eq▸hlt)
      rw[hb]at this;cases this
     split at h2
     ·rename_i hd
      exact⟨N,_,_,_,by simp only[Hf,hc,h1,hob,if_neg hlt,hd],h2⟩
     ·cases h2
    ·rw[hb,cond_true]at h2
     exact⟨N,_,_,_,by simp only[Hf,hc,h1,hob,if_pos (show v.idx<s.σ.length from Nat.blt_eq▸hb)],h2⟩
   ·cases h2
  ·cases h2
def KC (u:Option (Nat×Obj)) (b:Nat) (s:Af) (K:Af→Prop):Prop:=match u with
 |some (t,ob)=>I4 s.σ t ob fun σ=>K ⟨σ,s.ctr+b⟩
 |none=>K ⟨s.σ,s.ctr+b⟩
theorem Oj (u:Option (Nat×Obj)) (b:Nat) (s:Af) (K:Af→Prop):KC u b s K↔K (Ed u b s):=by
 unfold KC Ed
 split
 ·exact DU _ _ _ _
 ·exact Iff.rfl
def Vz (AP:Nat→Option IZ) (ops:List Aj):Nat→Nat→Env→Af→(List Eff→Prop)→Prop:=
 List.rec (motive:=fun _=>Nat→Nat→Env→Af→(List Eff→Prop)→Prop) (fun _ _ _ _ K=>K [])
    (fun o _ ih r g env s K=>EJ o.guard env
      (SA AP o.op r g env s fun v u b=>KC u b s fun s'=>ih (r+rank o.op) (g+1) (put o.dst v env) s' fun es=>K (⟨o.dst,v,o.op.reads r env,o.op.writes r env,u,b⟩::es))
      (ih (r+rank o.op) (g+1) (put o.dst .undef env) s fun es=>K (⟨o.dst,.undef,[],[],none,0⟩::es))) ops
theorem XL (o:Aj) (os:List Aj) (r g:Nat) (env:Env) (s:Af) (K:List Eff→Prop):Vz AP (o::os) r g env s K=EJ o.guard env
 (SA AP o.op r g env s fun v u b=>KC u b s fun s'=>Vz AP os (r+rank o.op) (g+1) (put o.dst v env) s' fun es=>K (⟨o.dst,v,o.op.reads r env,o.op.writes r env,u,b⟩::es))
 (Vz AP os (r+rank o.op) (g+1) (put o.dst .undef env) s fun es=>K (⟨o.dst,.undef,[],[],none,0⟩::es)):=rfl
theorem Lm:∀{os:List Aj} {r g:Nat} {env:Env} {s:Af} {K:List Eff→Prop},Vz AP os r g env s K→∃N es,Gs (run AP N) os r g env s=some es∧K es
 |[],r,g,env,s,K,h=>⟨0,_,rfl,h⟩
 |o::os,r,g,env,s,K,h=>by
  have J5:wanted o.guard env=some false→(Vz AP os (r+rank o.op) (g+1) (put o.dst .undef env) s fun es=>K (⟨o.dst,.undef,[],[],none,0⟩::es))→∃N es,Gs (run AP N) (o::os) r g env s=some es∧K es:=by
   intro hw h
   obtain⟨N,es,h1,h2⟩:=Lm h
   exact⟨N,_,by simp only[Gs,hw,h1],h2⟩
  have hdo:wanted o.guard env=some true→(SA AP o.op r g env s fun v u b=>KC u b s fun s'=>Vz AP os (r+rank o.op) (g+1) (put o.dst v env) s' fun es=>K (⟨o.dst,v,o.op.reads r env,o.op.writes r env,u,b⟩::es))→∃N es,Gs (run AP N) (o::os) r g env s=some es∧K es:=by
   intro hw h
   obtain⟨N,v,u,b,h1,h2⟩:=SB h
   rw[Oj]at h2
   obtain⟨N',es,h3,h4⟩:=Lm h2
   refine⟨max N N',_,?_,h4⟩
   simp only[Gs,hw,Pq (Bq (Nat.le_max_left N N')) h1,Hq (Bq (AP:=AP) (Nat.le_max_right N N')) h3]
  rw[XL]at h
  unfold EJ at h
  split at h
  ·rename_i hg
   exact hdo (by rw[hg];rfl) h
  ·rename_i r' b hg
   split at h
   ·rename_i b' hb
    cases hbb:(b'==b)
    ·rw[hbb]at h
     exact J5 (by rw[hg];simp only[wanted,hb,hbb]) h
    ·rw[hbb]at h
     exact hdo (by rw[hg];simp only[wanted,hb,hbb]) h
   ·rename_i hb
    exact J5 (by rw[hg];simp only[wanted,hb]) h
   ·cases h
def ZG {α:Type}:List α→List α→(List α→Prop)→Prop
 |[],ys,K=>K ys
 |x::xs,ys,K=>ZG xs ys fun r=>K (x::r)
theorem Q8 {α:Type}:∀(xs ys:List α) (K:List α→Prop),ZG xs ys K↔K (xs++ys)
 |[],_,_=>Iff.rfl
 |x::xs,ys,K=>Q8 xs ys _
def OM:List Eff→Af→(Af→Prop)→Prop
 |[],s,K=>K s
 |e::es,s,K=>KC e.upd e.bump s fun s=>OM es s K
theorem Ol:∀(es:List Eff) (s:Af) (K:Af→Prop),OM es s K↔K (JH es s)
 |[],_,_=>Iff.rfl
 |e::es,s,K=>by rw[OM,Oj,JH];exact Ol es _ K
def Acy (n:Nat) (σ:List Obj) (K:List Obj→Prop):Prop:=match n with
 |0=>K σ
 |n+1=>ZG σ (List.replicate (n+1) .dead) K
theorem ZH (n:Nat) (σ:List Obj) (K:List Obj→Prop):Acy n σ K↔K (σ++List.replicate n .dead):=by
 cases n with
 |zero=>simp[Acy]
 |succ n=>exact Q8 _ _ _
def Uk {α:Type}:Nat→List α→(List α→Prop)→Prop
 |0,xs,K=>K xs
 |_+1,[],K=>K []
 |n+1,_::xs,K=>Uk n xs K
theorem Q9 {α:Type}:∀(n:Nat) (l:List α) (K:List α→Prop),Uk n l K↔K (l.drop n)
 |0,_,_=>by simp[Uk]
 |_+1,[],_=>by simp[Uk]
 |n+1,_::xs,K=>Q9 n xs K
def ZI (AP:Nat→Option IZ) (m:Nat) (un:List (Nat×Nat)) (ops:List Aj) (env:Env) (s:Af) (K:Env→Af→Prop):Prop:=
 Q7 m ops fun hd=>Acy (ranks hd) s.σ fun σ=>Vz AP hd s.σ.length s.ctr env ⟨σ,s.ctr+m⟩ fun es=>
    need (Iy es un=true) (OM es ⟨σ,s.ctr+m⟩ fun s1=>K (KO es env) s1)
theorem Ul {m:Nat} {un:List (Nat×Nat)} {ops:List Aj} {env:Env} {s:Af} {K:Env→Af→Prop} (h:ZI AP m un ops env s K):∃N Bo s1,JI (run AP N) m un ops env s=some (Bo,s1)∧K Bo s1:=by
 unfold ZI at h
 rw[NR,ZH]at h
 obtain⟨N,es,h1,h2,h3⟩:=Lm h
 rw[Ol]at h3
 exact⟨N,_,_,by simp only[JI,h1,if_pos h2],h3⟩
def ZJ (AP:Nat→Option IZ) (op:BJ) (env:Env) (v:AV):List Af→Prop→Prop
 |[],T=>T
 |S::r,T=>Jq AP op env S fun out _=>match out with
  | .ok u=>need (FU u v=true) (ZJ AP op env v r T)
  | .DX _=>False
def ZK (AP:Nat→Option IZ) (S:Af):List (BJ×Env×AV)→Prop→Prop
 |[],T=>T
 |(op,env,v)::r,T=>Jq AP op env S fun out _=>match out with
  | .ok u=>need (FU u v=true) (ZK AP S r T)
  | .DX _=>False
theorem Om {op:BJ} {env:Env} {v:AV}:∀{past:List Af} {T:Prop},ZJ AP op env v past T→(∃ N,Ja (run AP N) op env v past=true)∧T
 |[],T,h=>⟨⟨0,rfl⟩,h⟩
 |S::r,T,h=>by
  obtain⟨N,out,s',h1,h2⟩:=GZ h
  cases out with
  |DX u=>exact h2.elim
  |ok u=>
   obtain⟨h3,h4⟩:=h2
   obtain⟨⟨N',h5⟩,h6⟩:=Om h4
   refine⟨⟨max N N',?_⟩,h6⟩
   simp only[Ja,BF (Bq (Nat.le_max_left N N')) h1,h3,Ic (Bq (Nat.le_max_right N N')) h5,Bool.and_self]
theorem Oo {S:Af}:∀{pend:List (BJ×Env×AV)} {T:Prop},ZK AP S pend T→(∃ N,Jb (run AP N) S pend=true)∧T
 |[],T,h=>⟨⟨0,rfl⟩,h⟩
 |(op,env,v)::r,T,h=>by
  obtain⟨N,out,s',h1,h2⟩:=GZ h
  cases out with
  |DX u=>exact h2.elim
  |ok u=>
   obtain⟨h3,h4⟩:=h2
   obtain⟨⟨N',h5⟩,h6⟩:=Oo h4
   refine⟨⟨max N N',?_⟩,h6⟩
   simp only[Jb,BF (Bq (Nat.le_max_left N N')) h1,h3,Ie (Bq (Nat.le_max_right N N')) h5,Bool.and_self]
def J6 (AP:Nat→Option IZ) (E:List Nat) (ops:List Aj):Nat→Env→Af→Prop→Prop:=
 List.rec (motive:=fun _=>Nat→Env→Af→Prop→Prop) (fun _ _ _ T=>T)
    (fun o _ ih i env s T=>bif Df i E then EJ o.guard env
      (Jq AP o.op env s fun out _=>match out with
        | .ok v=>bif flt o then ih (i+1) (put o.dst v env) s T else False
        | .DX _=>False)
      (ih (i+1) (put o.dst .undef env) s T)
      else ih (i+1) env s T) ops
theorem Um (E:List Nat) (o:Aj) (os:List Aj) (i:Nat) (env:Env) (s:Af) (T:Prop):J6 AP E (o::os) i env s T=bif Df i E then EJ o.guard env
        (Jq AP o.op env s fun out _=>match out with
          | .ok v=>bif flt o then J6 AP E os (i+1) (put o.dst v env) s T else False
          | .DX _=>False)
        (J6 AP E os (i+1) (put o.dst .undef env) s T)
 else J6 AP E os (i+1) env s T:=rfl
theorem GL {E:List Nat}:∀{os:List Aj} {i:Nat} {env:Env} {s:Af} {T:Prop},J6 AP E os i env s T→(∃ N,DJ (run AP N) E os i env s=true)∧T
 |[],i,env,s,T,h=>⟨⟨0,rfl⟩,h⟩
 |o::os,i,env,s,T,h=>by
  rw[Um]at h
  cases hm:Df i E with
  |false=>
   rw[hm,cond_false]at h
   obtain⟨⟨N,h1⟩,h2⟩:=GL h
   exact⟨⟨N,by simp only[DJ,hm,Bool.false_eq_true,if_false];exact h1⟩,h2⟩
  |true=>
   rw[hm,cond_true]at h
   have J5:wanted o.guard env=some false→J6 AP E os (i+1) (put o.dst .undef env) s T→(∃ N,DJ (run AP N) E (o::os) i env s=true)∧T:=by
        intro hw h
        obtain⟨⟨N,h1⟩,h2⟩:=GL h
        exact⟨⟨N,by simp only[DJ,hm,if_true,hw];exact h1⟩,h2⟩
   have hdo:wanted o.guard env=some true→(Jq AP o.op env s fun out _=>match out with
    | .ok v=>bif flt o then J6 AP E os (i+1) (put o.dst v env) s T else False
    | .DX _=>False)→(∃ N,DJ (run AP N) E (o::os) i env s=true)∧T:=by
        intro hw h
        obtain⟨N,out,s1,h1,h2⟩:=GZ h
        cases out with
        |DX v=>exact h2.elim
        |ok v=>
         dsimp only at h2
         cases hf:flt o with
         |false=>rw[hf]at h2;exact h2.elim
         |true=>
          rw[hf,cond_true]at h2
          obtain⟨⟨N',h3⟩,h4⟩:=GL h2
          refine⟨⟨max N N',?_⟩,h4⟩
          simp only[DJ,hm,if_true,hw,BF (Bq (AP:=AP) (Nat.le_max_left N N')) h1,hf,Es (Bq (AP:=AP) (Nat.le_max_right N N')) h3,Bool.and_self]
   unfold EJ at h
   split at h
   ·rename_i hg
    exact hdo (by rw[hg];rfl) h
   ·rename_i r b hg
    split at h
    ·rename_i b' hb
     cases hbb:(b'==b)
     ·rw[hbb]at h
      exact J5 (by rw[hg];simp only[wanted,hb,hbb]) h
     ·rw[hbb]at h
      exact hdo (by rw[hg];simp only[wanted,hb,hbb]) h
    ·rename_i hb
     exact J5 (by rw[hg];simp only[wanted,hb]) h
    ·cases h
def Un (AP:Nat→Option IZ) (m:Nat) (W pc:List Nat) (o:Aj) (os:List Aj) (i:Nat) (k:Env→Af→List (BJ×Env×AV)→List Af→Prop) (Q:AY→Env→Af→Prop) (env:Env) (s:Af) (pend:List (BJ×Env×AV)) (past:List Af) (out:Ar) (s1:Af):Prop:=match out with
 | .DX v=>match pc with
   |p::E=>bif Nat.beq i p&&!(Df i W||(flt o||Nat.blt i m))then J6 AP E os (i+1) env s (Q (.DX v) [] s1)else False
   |[]=>False
 | .ok v=>bif Df i W then bif o.op.Ez then ZJ AP o.op env v past (k (put o.dst v env) s ((o.op,env,v)::pend) past)else False
   else bif flt o||Nat.blt i m then k (put o.dst v env) s pend past
   else ZK AP s1 pend (k (put o.dst v env) s1 pend (s::past))
def VA (AP:Nat→Option IZ) (m:Nat) (W pc:List Nat) (ops:List Aj):Nat→Env→Af→List (BJ×Env×AV)→List Af→(AY→Env→Af→Prop)→Prop:=
 List.rec (motive:=fun _=>Nat→Env→Af→List (BJ×Env×AV)→List Af→(AY→Env→Af→Prop)→Prop) (fun _ env s _ _ K=>K .normal env s)
    (fun o os ih i env s pend past K=>EJ o.guard env (Jq AP o.op env s (Un AP m W pc o os i (fun env s pend past=>ih (i+1) env s pend past K) K env s pend past))
      (ih (i+1) (put o.dst .undef env) s pend past K)) ops
theorem XM (m:Nat) (W pc:List Nat) (o:Aj) (os:List Aj) (i:Nat) (env:Env) (s:Af) (pend:List (BJ×Env×AV)) (past:List Af) (K:AY→Env→Af→Prop):VA AP m W pc (o::os) i env s pend past K=EJ o.guard env
 (Jq AP o.op env s (Un AP m W pc o os i (fun env s pend past=>VA AP m W pc os (i+1) env s pend past K) K env s pend past))
 (VA AP m W pc os (i+1) (put o.dst .undef env) s pend past K):=rfl
theorem Hu {m:Nat} {W pc:List Nat}:∀{os:List Aj} {i:Nat} {env:Env} {s:Af} {pend:List (BJ×Env×AV)} {past:List Af} {K:AY→Env→Af→Prop},VA AP m W pc os i env s pend past K→∃N x env' s',EP (run AP N) m W pc os i env s pend past=some (x,env',s')∧K x env' s'
 |[],i,env,s,pend,past,K,h=>⟨0,_,_,_,rfl,h⟩
 |o::os,i,env,s,pend,past,K,h=>by
  have J5:wanted o.guard env=some false→VA AP m W pc os (i+1) (put o.dst .undef env) s pend past K→∃N x env' s',EP (run AP N) m W pc (o::os) i env s pend past=some (x,env',s')∧K x env' s':=by
   intro hw h
   obtain⟨N,x,env',s',h1,h2⟩:=Hu h
   exact⟨N,x,env',s',by simp only[EP,hw];exact h1,h2⟩
  have hdo:wanted o.guard env=some true→Jq AP o.op env s (Un AP m W pc o os i (fun env s pend past=>VA AP m W pc os (i+1) env s pend past K) K env s pend past)→∃N x env' s',EP (run AP N) m W pc (o::os) i env s pend past=some (x,env',s')∧K x env' s':=by
   intro hw h
   obtain⟨N,out,s1,h1,h2⟩:=GZ h
   cases out with
   |DX v=>
    simp only[Un]at h2
    cases pc with
    |nil=>exact h2.elim
    |cons p E=>
     dsimp only at h2
     cases hc:(Nat.beq i p&&!(Df i W||(flt o||Nat.blt i m)))with
     |false=>rw[hc]at h2;exact h2.elim
     |true=>
      rw[hc,cond_true]at h2
      obtain⟨⟨N1,h3⟩,h4⟩:=GL h2
      refine⟨max N N1,_,_,_,?_,h4⟩
      simp only[EP,hw,BF (Bq (AP:=AP) (Nat.le_max_left N N1)) h1,hc,Es (Bq (AP:=AP) (Nat.le_max_right N N1)) h3,Bool.and_self,if_true]
   |ok v=>
    simp only[Un]at h2
    cases hm:Df i W with
    |true=>
     rw[hm,cond_true]at h2
     cases hp:o.op.Ez with
     |false=>rw[hp]at h2;exact h2.elim
     |true=>
      rw[hp,cond_true]at h2
      obtain⟨⟨N1,h3⟩,h4⟩:=Om h2
      obtain⟨N2,x,env',s',h5,h6⟩:=Hu h4
      refine⟨max N (max N1 N2),x,env',s',?_,h6⟩
      simp only[EP,hw,BF (Bq (AP:=AP) (Nat.le_max_left N (max N1 N2))) h1,hm,hp,Ic (Bq (AP:=AP) (show N1≤max N (max N1 N2) by omega)) h3,Bool.and_self,if_true]
      exact DL (Bq (show N2≤max N (max N1 N2) by omega)) h5
    |false=>
     rw[hm,cond_false]at h2
     cases hf:(flt o||Nat.blt i m)with
     |true=>
      rw[hf,cond_true]at h2
      obtain⟨N2,x,env',s',h5,h6⟩:=Hu h2
      refine⟨max N N2,x,env',s',?_,h6⟩
      simp only[EP,hw,BF (Bq (AP:=AP) (Nat.le_max_left N N2)) h1,hm,hf,if_true,Bool.false_eq_true,if_false]
      exact DL (Bq (Nat.le_max_right N N2)) h5
     |false=>
      rw[hf,cond_false]at h2
      obtain⟨⟨N1,h3⟩,h4⟩:=Oo h2
      obtain⟨N2,x,env',s',h5,h6⟩:=Hu h4
      refine⟨max N (max N1 N2),x,env',s',?_,h6⟩
      simp only[EP,hw,BF (Bq (AP:=AP) (Nat.le_max_left N (max N1 N2))) h1,hm,hf,Ie (Bq (AP:=AP) (show N1≤max N (max N1 N2) by omega)) h3,if_true,Bool.false_eq_true,if_false]
      exact DL (Bq (show N2≤max N (max N1 N2) by omega)) h5
  rw[XM]at h
  unfold EJ at h
  split at h
  ·rename_i hg
   exact hdo (by rw[hg];rfl) h
  ·rename_i r b hg
   split at h
   ·rename_i b' hb
    cases hbb:(b'==b)
    ·rw[hbb]at h
     exact J5 (by rw[hg];simp only[wanted,hb,hbb]) h
    ·rw[hbb]at h
     exact hdo (by rw[hg];simp only[wanted,hb,hbb]) h
   ·rename_i hb
    exact J5 (by rw[hg];simp only[wanted,hb]) h
   ·cases h
def ZL (v:AV) (A B:Prop):Prop:=match v with
 | .bool c=>JA c A B
 |_=>False
def vC (AP:Nat→Option IZ) (c:CP):Env→Af→(AY→Env→Af→Prop)→Prop:=
 CP.rec (motive:=fun _=>Env→Af→(AY→Env→Af→Prop)→Prop)
    (fun env s Q=>Q .normal env s)
    (fun _ IW ops live tr env s Q=>Qe IW env s fun env s=>Uj AP ops env s (ZF live tr Q))
    (fun m un IW ops live tr env s Q=>Qe IW env s fun env s=>ZI AP m un ops env s fun Bo s1=>Uk m ops fun tl=>Uj AP tl Bo s1 (ZF live tr Q))
    (fun m W pc IW ops live tr env s Q=>Qe IW env s fun env s=>VA AP m W pc ops 0 env s [] [] (ZF live tr Q))
    (fun _ _ iha ihb env s Q=>iha env s (Aft (fun env s=>ihb env s Q) Q))
    (fun c _ _ iha ihb env s Q=>ZL (c.val env) (iha env s Q) (ihb env s Q))
    (fun id _ iha env s Q=>iha env s (AdX id Q))
    (fun live a _ env s Q=>Jt live env fun env=>Run AP (.loop live a) env s Q)
    (fun id env s Q=>Q (.exit id) env s)
    (fun env s Q=>Q .ret env s) c
theorem Qg {env:Env} {t:Nat}:∀{ts:List Nat},t∈ts→(commit env ts).get t=env.get t
 |[],h=>by simp at h
 |t'::ts,h=>by
  simp only[commit,Env.get]
  cases hb:Nat.beq t' t
  ·have hne:t≠t':=fun e=>by subst e;simp at hb
   rw[cond_false]
   exact Qg ((List.mem_cons.1 h).resolve_left hne)
  ·rw[cond_true,Nat.eq_of_beq_eq_true hb]
theorem Nj {env env':Env}:∀{ts:List Nat},(∀ t∈ts,env.get t=env'.get t)→commit env ts=commit env' ts
 |[],_=>rfl
 |t::ts,h=>by simp only[commit];rw[h t (by simp),Nj fun t' h'=>h t' (by simp[h'])]
theorem QA (env:Env) (ts:List Nat):commit (commit env ts) ts=commit env ts:=Nj fun _ h=>Qg h
theorem Oq {live:List Nat} {a:CP} {env:Env} {s:Af} {Q:AY→Env→Af→Prop} (h:Run AP (.loop live a) (commit env live) s Q):Run AP (.loop live a) env s Q:=by
 obtain⟨N,e,env',s',h1,h2⟩:=h
 refine⟨N,e,env',s',?_,h2⟩
 simp only[Ep]at h1 ⊢
 cases N with
 |zero=>simp[iter]at h1
 |succ N=>
  simp only[iter,QA]at h1 ⊢
  exact h1
theorem Qh:∀{c:CP} {env:Env} {s:Af} {Q:AY→Env→Af→Prop},vC AP c env s Q→Run AP c env s Q:=by
 intro c
 induction c with
 |skip=>intro env s Q h;exact⟨0,_,_,_,rfl,h⟩
 |exit id=>intro env s Q h;exact⟨0,_,_,_,rfl,h⟩
 |ret=>intro env s Q h;exact⟨0,_,_,_,rfl,h⟩
 |region hd IW ops live tr=>
  intro env s Q h
  obtain⟨Bo,s1,h1,h2⟩:=DR h
  obtain⟨N,e,Dh,s2,h3,h4⟩:=Jr h2
  cases e with
  |normal=>exact⟨N,_,_,_,by simp only[Ep,h1,h3],(Ll _ _ _).1 ((Eo _ _ _).1 h4)⟩
  |exit id=>exact⟨N,_,_,_,by simp only[Ep,h1,h3],h4⟩
  |ret=>exact⟨N,_,_,_,by simp only[Ep,h1,h3],h4⟩
  |DX v=>exact⟨N,_,_,_,by simp only[Ep,h1,h3],h4⟩
 |mix m W pc IW ops live tr=>
  intro env s Q h
  obtain⟨Bo,s1,h1,h2⟩:=DR h
  obtain⟨N,e,Dh,s2,h3,h4⟩:=Hu h2
  cases e with
  |normal=>exact⟨N,_,_,_,by simp only[Ep,h1,h3],(Ll _ _ _).1 ((Eo _ _ _).1 h4)⟩
  |exit id=>exact⟨N,_,_,_,by simp only[Ep,h1,h3],h4⟩
  |ret=>exact⟨N,_,_,_,by simp only[Ep,h1,h3],h4⟩
  |DX v=>exact⟨N,_,_,_,by simp only[Ep,h1,h3],h4⟩
 |par m un IW ops live tr=>
  intro env s Q h
  obtain⟨Bo,s1,h1,h2⟩:=DR h
  obtain⟨N',AdY,s1',hh,h2⟩:=Ul h2
  rw[Q9]at h2
  obtain⟨N,e,Dh,s2,h3,h4⟩:=Jr h2
  have hh':JI (run AP (max N N')) m un ops Bo s1=some (AdY,s1'):=by
   unfold JI at hh ⊢
   split at hh
   ·rename_i es hes
    rw[Hq (Bq (Nat.le_max_right N N')) hes]
    exact hh
   ·cases hh
  have h3':=Ef (Bq (AP:=AP) (Nat.le_max_left N N')) h3
  cases e with
  |normal=>exact⟨max N N',_,_,_,by simp only[Ep,h1,hh',h3'],(Ll _ _ _).1 ((Eo _ _ _).1 h4)⟩
  |exit id=>exact⟨max N N',_,_,_,by simp only[Ep,h1,hh',h3'],h4⟩
  |ret=>exact⟨max N N',_,_,_,by simp only[Ep,h1,hh',h3'],h4⟩
  |DX v=>exact⟨max N N',_,_,_,by simp only[Ep,h1,hh',h3'],h4⟩
 |seq a b iha ihb=>
  intro env s Q h
  obtain⟨N,e,Bo,s1,h1,h2⟩:=iha h
  cases e with
  |normal=>
   obtain⟨N',e',Dh,s2,h3,h4⟩:=ihb h2
   have h1':=ED (Bq (AP:=AP) (Nat.le_max_left N N')) (Nat.le_max_left N N') h1
   have h3':=ED (Bq (AP:=AP) (Nat.le_max_right N N')) (Nat.le_max_right N N') h3
   exact⟨max N N',e',Dh,s2,by simp only[Ep,h1',h3'],h4⟩
  |exit id=>exact⟨N,_,_,_,by simp only[Ep,h1],h2⟩
  |ret=>exact⟨N,_,_,_,by simp only[Ep,h1],h2⟩
  |DX v=>exact⟨N,_,_,_,by simp only[Ep,h1],h2⟩
 |cond c a b iha ihb=>
  intro env s Q h
  change ZL (c.val env) (vC AP a env s Q) (vC AP b env s Q)at h
  unfold ZL at h
  split at h
  ·rename_i c' hc
   cases c'
   ·obtain⟨N,e,Bo,s1,h1,h2⟩:=ihb h
    exact⟨N,e,Bo,s1,by simp only[Ep,hc,h1],h2⟩
   ·obtain⟨N,e,Bo,s1,h1,h2⟩:=iha h
    exact⟨N,e,Bo,s1,by simp only[Ep,hc,h1],h2⟩
  ·cases h
 |block id a iha=>
  intro env s Q h
  obtain⟨N,e,Bo,s1,h1,h2⟩:=iha h
  cases e with
  |normal=>exact⟨N,_,_,_,by simp only[Ep,h1],h2⟩
  |exit j=>
   simp only[AdX]at h2
   cases hb:Nat.beq j id
   ·rw[hb]at h2
    have hne:j≠id:=fun e=>by subst e;simp at hb
    exact⟨N,_,_,_,by simp only[Ep,h1,if_neg hne],h2⟩
   ·rw[hb]at h2
    exact⟨N,_,_,_,by simp only[Ep,h1,if_pos (Nat.eq_of_beq_eq_true hb)],h2⟩
  |ret=>exact⟨N,_,_,_,by simp only[Ep,h1],h2⟩
  |DX v=>exact⟨N,_,_,_,by simp only[Ep,h1],h2⟩
 |loop live a iha=>
  intro env s Q h
  exact Oq ((Eo _ _ _).1 h)
def ZM (AP:Nat→Option IZ) (live:List Nat) (a:CP) (Q:AY→Env→Af→Prop) (e:AY) (env:Env) (s:Af):Prop:=match e with
 | .normal=>Jt live env fun env=>Run AP (.loop live a) env s Q
 |e=>Q e env s
def Acz (fn:Gt) (K:Ar→Af→Prop) (e:AY) (env:Env) (s:Af):Prop:=match e with
 | .normal=>JX (FD env s fn.results) fun vs=>K (.ok (Hg vs)) s
 | .ret=>JX (FD env s fn.results) fun vs=>K (.ok (Hg vs)) s
 | .DX v=>K (.DX v) s
 | .exit _=>False
theorem Uo {f:Nat} {fn:Gt} {args:List AV} {s:Af} {K:Ar→Af→Prop} (hf:AP f=some (.code fn)) (hl:args.length=fn.np) (h:Run AP fn.body (params args 0) s (Acz fn K)):CJ AP f args s K:=by
 obtain⟨N,e,env,s',h1,h2⟩:=h
 cases e with
 |normal=>
  obtain⟨vs,h3,h4⟩:=h2
  exact⟨N+1,_,_,by simp only[run,hf,if_pos hl,evF,h1,h3,Option.map_some],h4⟩
 |ret=>
  obtain⟨vs,h3,h4⟩:=h2
  exact⟨N+1,_,_,by simp only[run,hf,if_pos hl,evF,h1,h3,Option.map_some],h4⟩
 |DX v=>exact⟨N+1,_,_,by simp only[run,hf,if_pos hl,evF,h1],h2⟩
 |exit id=>cases h2
end AI
end Go.Proofs.YtjjhejbffgaabaaGreatDoor
namespace Go.Proofs.YtjjhejbffgaabaaGreatDoor
namespace AI
open Go.RowKit
variable {AP:Nat→Option IZ}
def AdZ (live:List Nat) (I:Env→Af→Prop) (Q:AY→Env→Af→Prop) (e:AY) (env:Env) (s:Af):Prop:=match e with
 | .normal=>Jt live env fun env=>I env s
 |e=>Q e env s
structure again (I:Nat→Env→Af→Prop) (m:Nat) (env:Env) (s:Af):Prop where
 mk::(h:∃m',m'<m∧I m' env s)
theorem Au {live:List Nat} {a:CP} {Q:AY→Env→Af→Prop} (I:Nat→Env→Af→Prop)
 (hI:∀m env s,I m env s→commit env live=env∧vC AP a env s (AdZ live (again I m) Q)):
 ∀m env s,I m env s→Run AP (.loop live a) env s Q:=by
 intro m
 induction m using Nat.strongRecOn with
 |ind m ih=>
  intro env s h
  obtain⟨hc,h1⟩:=hI m env s h
  obtain⟨N,e,Bo,s1,h2,h3⟩:=Qh h1
  have hr:Run AP a env s (ZM AP live a Q):=by
   refine⟨N,e,Bo,s1,h2,?_⟩
   cases e with
   |normal=>
    simp only[AdZ,ZM,Eo]at h3 ⊢
    obtain⟨m',hm,h4⟩:=h3
    exact ih m' hm _ _ h4
   |exit id=>exact h3
   |ret=>exact h3
   |DX v=>exact h3
  obtain⟨N,e,Bo,s1,h1,h2⟩:=hr
  cases e with
  |normal=>
   obtain⟨N',e',Dh,s2,h3,h4⟩:=Oq ((Eo _ _ _).1 h2)
   refine⟨max N N'+1,e',Dh,s2,?_,h4⟩
   have h1':=ED (Bq (AP:=AP) (show N≤max N N'+1 by omega)) (show N≤max N N'+1 by omega) h1
   simp only[Ep]at h3 ⊢
   rw[iter.eq_2]
   rw[hc,h1']
   exact NH (fun env s r hr=>ED (Bq (by omega)) (by omega) hr) (by omega) h3
  |exit id=>exact⟨N+1,_,_,_,by simp only[Ep,iter.eq_2,hc,ED (Bq (AP:=AP) (Nat.le_succ N)) (Nat.le_succ N) h1],h2⟩
  |ret=>exact⟨N+1,_,_,_,by simp only[Ep,iter.eq_2,hc,ED (Bq (AP:=AP) (Nat.le_succ N)) (Nat.le_succ N) h1],h2⟩
  |DX v=>exact⟨N+1,_,_,_,by simp only[Ep,iter.eq_2,hc,ED (Bq (AP:=AP) (Nat.le_succ N)) (Nat.le_succ N) h1],h2⟩
structure AX (AP:Nat→Option IZ) (f:Nat) (args:List AV) (R:AV→Prop):Prop where
 mk::(h:∃v,Pure AP f args v∧R v)
def AcA (R:AV→Prop) (out:Ar) (s:Af):Prop:=match out with
 | .ok r=>WC s.σ GX r R
 | .DX _=>False
theorem Ai {f:Nat} {fn:Gt} {args:List AV} {R:AV→Prop} (hf:AP f=some (.code fn)) (hl:args.length=fn.np) (h:vC AP fn.body (params args 0) ⟨[],0⟩ (Acz fn (AcA R))):AX AP f args R:=by
 obtain⟨N,out,s',h1,h2⟩:=Uo hf hl (Qh h)
 cases out with
 |ok r=>
  have h2:WC s'.σ GX r R:=h2
  obtain⟨v,h3,h4⟩:=Ug h2
  exact⟨v,⟨N,by simp only[Eb,h1];exact h3⟩,h4⟩
 |DX r=>cases h2
theorem Ae {f:Nat} {args:List AV} {R:AV→Prop} {K:AV→Prop} (h:AX AP f args R) (h2:∀v,R v→K v):Wx AP f args K:=by
 obtain⟨v,h3,h4⟩:=h
 exact⟨v,h3,h2 v h4⟩
theorem Gn {f:Nat} {args:List AV} {p:Prop} [Decidable p] {K:AV→Prop} (h:AX AP f args (· =.bool (decide p))) (h1:p→K (.bool true)) (h2:¬p→K (.bool false)):Wx AP f args K:=by
 refine Ae h ?_
 rintro _ rfl
 by_cases hp:p
 ·rw[decide_eq_true hp];exact h1 hp
 ·rw[decide_eq_false hp];exact h2 hp
theorem CJ.mono {f:Nat} {args:List AV} {s:Af} {K K':Ar→Af→Prop} (h:CJ AP f args s K) (hk:∀out s,K out s→K' out s):CJ AP f args s K':=by
 obtain⟨N,out,s',h1,h2⟩:=h
 exact⟨N,out,s',h1,hk _ _ h2⟩
theorem FC {p:Prop} [Decidable p] (h:p):AV.bool true=AV.bool (decide p):=by rw[decide_eq_true h]
theorem DF {p:Prop} [Decidable p] (h:¬p):AV.bool false=AV.bool (decide p):=by rw[decide_eq_false h]
theorem AX.mono {f:Nat} {args:List AV} {R R':AV→Prop} (h:AX AP f args R) (h2:∀v,R v→R' v):AX AP f args R':=by
 obtain⟨v,h3,h4⟩:=h
 exact⟨v,h3,h2 v h4⟩
theorem CB {f:Nat} {fn:Gt} {args:List AV} {s:Af} {K:Ar→Af→Prop} (hf:AP f=some (.code fn)) (hl:args.length=fn.np) (h:vC AP fn.body (params args 0) s (Acz fn K)):CJ AP f args s K:=
 Uo hf hl (Qh h)
end AI
end Go.Proofs.YtjjhejbffgaabaaGreatDoor
namespace Go.Proofs.YtjjhejbffgaabaaGreatDoor
namespace AI
def ints (l:List Int):List AV:=l.map (.int .i64)
@[simp] theorem lI (l:List Int):(ints l).length=l.length:=by simp[ints]
theorem ZN {l:List Int} {i:Nat} {x:Int} (h:l[i]?=some x):nth (ints l) i=some (.int .i64 x):=by simp[ints,Am,h]
theorem nI {l:List Int} {i:Nat} (h:i<l.length):nth (ints l) i=some (.int .i64 l[i]):=ZN (List.getElem?_eq_getElem h)
theorem wrap_i64 {z:Int} (h:-2^63≤z) (h2:z<2^63):IntKind.i64.wrap z=z:=by
 rw[IntKind.wrap_i64];omega
theorem nIN {l:List Int} {i:Nat} (h:i<l.length):nth (ints l) (Int.toNat (Nat.cast i))=some (.int .i64 l[i]):=nI h
theorem TI {es:Nat} {x:AV} (h:x.cells.length=es):A8 es [x]:=by intro y hy;simp at hy;exact hy▸h
theorem JF {b n:Nat} (h:n*b≤2 ^ 46):roomy b n:=Nat.le_trans h (by decide)
def iss (E:List (Bool×List Int)):List AV:=E.map fun p=>.sl p.1 (ints p.2)
@[simp] theorem lS (E:List (Bool×List Int)):(iss E).length=E.length:=by simp[iss]
theorem nS {E:List (Bool×List Int)} {i:Nat} (h:i<E.length):nth (iss E) i=some (.sl E[i].1 (ints E[i].2)):=by simp[iss,Am,h]
theorem nSN {E:List (Bool×List Int)} {i:Nat} (h:i<E.length):nth (iss E) (Int.toNat (Nat.cast i))=some (.sl E[i].1 (ints E[i].2)):=nS h
theorem Ei {α:Type} {l:List α} {i:Nat} (h:¬(i:Int)<(l.length:Int)):l.take i=l:=List.take_of_length_le (by omega)
theorem BZ {α:Type} {p:α→Prop} {l:List α} {i:Nat} (h:i<l.length) (h1:∀x∈l.take i,p x) (h2:p l[i]):∀x∈l.take (i+1),p x:=by
 intro x hx
 rw[List.take_succ_eq_append_getElem h,List.mem_append,List.mem_singleton]at hx
 rcases hx with hx|rfl
 ·exact h1 x hx
 ·exact h2
theorem tIN {l:List Int} {i:Nat} {x y:Int}:(ints l).set (Int.toNat (Nat.cast i)) (Bv (.int .i64 x) 0 (.int .i64 y))=ints (l.set i y):=by
 simp[ints,Bv,AV.cells,List.map_set]
theorem tI {l:List Int} {i:Nat} {x y:Int}:(ints l).set i (Bv (.int .i64 x) 0 (.int .i64 y))=ints (l.set i y):=tIN
theorem uI {l:List Int}:sub (ints l) 0 l.length=ints l:=by
 unfold sub;rw[List.drop_zero,List.take_of_length_le (by simp)]
theorem uS {l:List (Bool×List Int)}:sub (iss l) 0 l.length=iss l:=by
 unfold sub;rw[List.drop_zero,List.take_of_length_le (by simp)]
theorem uIS {l:List Int} {x:Int}:sub (ints (l++[x])) 0 (l.length+1)=ints (l++[x]):=by
 have:=uI (l:=l++[x]);rwa [List.length_append]at this
theorem uSS {l:List (Bool×List Int)} {x:Bool×List Int}:sub (iss (l++[x])) 0 (l.length+1)=iss (l++[x]):=by
 have:=uS (l:=l++[x]);rwa [List.length_append]at this
theorem rIN (n:Nat) (z:Int):List.replicate (Int.toNat (Nat.cast n)) (AV.int .i64 z)=ints (List.replicate n z):=by simp[ints]
theorem rI (n:Nat) (z:Int):List.replicate n (AV.int .i64 z)=ints (List.replicate n z):=by simp[ints]
theorem nY {l:List UInt8} {i:Nat} (h:i<l.length):nth l i=some l[i]:=by simp[Am,h]
theorem nYN {l:List UInt8} {i:Nat} (h:i<l.length):nth l (Int.toNat (Nat.cast i))=some l[i]:=nY h
def bools (l:List Bool):List AV:=l.map .bool
@[simp] theorem lB (l:List Bool):(bools l).length=l.length:=by simp[bools]
theorem nB {l:List Bool} {i:Nat} (h:i<l.length):nth (bools l) i=some (.bool l[i]):=by simp[bools,Am,h]
theorem nBN {l:List Bool} {i:Nat} (h:i<l.length):nth (bools l) (Int.toNat (Nat.cast i))=some (.bool l[i]):=nB h
theorem tBN {l:List Bool} {i:Nat} {x y:Bool}:(bools l).set (Int.toNat (Nat.cast i)) (Bv (.bool x) 0 (.bool y))=bools (l.set i y):=by
 simp[bools,Bv,AV.cells,List.map_set]
theorem tB {l:List Bool} {i:Nat} {x y:Bool}:(bools l).set i (Bv (.bool x) 0 (.bool y))=bools (l.set i y):=tBN
theorem uB {l:List Bool}:sub (bools l) 0 l.length=bools l:=by
 unfold sub;rw[List.drop_zero,List.take_of_length_le (by simp)]
theorem rBN (n:Nat) (z:Bool):List.replicate (Int.toNat (Nat.cast n)) (AV.bool z)=bools (List.replicate n z):=by simp[bools]
section
variable {α β:Type} [DecidableEq α] {fk:α→AV} {fv:β→AV} {t:IV}
def Gm (fk:α→AV) (fv:β→AV) (M:List (α×β)):List (AV×AV):=M.map fun p=>(fk p.1,fv p.2)
def AZ:List (α×β)→α→Option β
 |[],_=>none
 |(k',v)::M,k=>if k=k' then some v else AZ M k
def Bz:List (α×β)→α→β→List (α×β)
 |[],k,v=>[(k,v)]
 |(k',v')::M,k,v=>if k=k' then(k,v)::M else(k',v')::Bz M k v
theorem Cj (M:List (α×β)) (k k':α) (v:β):AZ (Bz M k v) k'=if k'=k then some v else AZ M k':=by
 induction M with
 |nil=>simp[Bz,AZ]
 |cons p M ih=>
  obtain⟨a,b⟩:=p
  simp only[Bz]
  by_cases h:k=a
  ·subst h;simp only[if_pos,AZ];split<;>simp_all
  ·rw[if_neg h]
   simp only[AZ,ih]
   by_cases h1:k'=a
   ·subst h1;rw[if_pos rfl,if_neg (fun e=>h e.symm),if_pos rfl]
   ·rw[if_neg h1,if_neg h1]
theorem Ju (hk:∀a b,BU t (fk a) (fk b)=some (decide (a=b))) (k:α):∀(M:List (α×β)) (i:Nat),
 (AZ M k=none∧findKey t (fk k) (Gm fk fv M) i=some none∧Bz M k=fun v=>M++[(k,v)])∨
 ∃j v,AZ M k=some v∧findKey t (fk k) (Gm fk fv M) i=some (some (i+j,fv v))∧Bz M k=fun v=>M.set j (k,v)
 |[],i=>.inl ⟨rfl,rfl,rfl⟩
 |(a,b)::M,i=>by
  by_cases h:k=a
  ·subst h
   refine .inr ⟨0,b,by simp[AZ],?_,by funext v;simp[Bz]⟩
   simp only[Gm,List.map_cons,findKey,hk,decide_true,Nat.add_zero]
  ·rcases Ju hk k M (i+1)with⟨h1,h2,h3⟩|⟨j,v,h1,h2,h3⟩
   ·refine .inl ⟨by simp[AZ,h,h1],?_,by funext v;simp[Bz,h,h3]⟩
    simp only[Gm,List.map_cons,findKey,hk,decide_eq_false h]at h2 ⊢
    exact h2
   ·refine .inr ⟨j+1,v,by simp[AZ,h,h1],?_,by funext v;simp[Bz,h,h3]⟩
    simp only[Gm,List.map_cons,findKey,hk,decide_eq_false h]at h2 ⊢
    rw[h2];congr 3;omega
theorem Lj (hk:∀a b,BU t (fk a) (fk b)=some (decide (a=b))) {M:List (α×β)} {k:α} {K:Option (Nat×AV)→Prop}
 (h1:AZ M k=none→K none) (h2:∀i v,AZ M k=some v→K (some (i,fv v))):H7 t (fk k) (Gm fk fv M) K:=by
 rcases Ju (fv:=fv) hk k M 0 with⟨g1,g2,_⟩|⟨j,v,g1,g2,_⟩
 ·exact⟨_,g2,h1 g1⟩
 ·exact⟨_,g2,h2 _ _ g1⟩
theorem KT (hk:∀a b,BU t (fk a) (fk b)=some (decide (a=b))) {M:List (α×β)} {k:α} {v:β} {K:List (AV×AV)→Prop}
 (h:K (Gm fk fv (Bz M k v))):NV t (fk k) (fv v) (Gm fk fv M) K:=by
 rcases Ju (fv:=fv) hk k M 0 with⟨g1,g2,g3⟩|⟨j,w,g1,g2,g3⟩
 ·refine⟨_,g2,?_⟩
  rw[g3]at h
  simpa[ZB,Gm]using h
 ·refine⟨_,g2,?_⟩
  rw[g3]at h
  simpa[ZB,Gm,List.map_set]using h
end
theorem EL (a b:Int):BU .int (.int .i64 a) (.int .i64 b)=some (decide (a=b)):=by
 simp only[BU,if_true];rfl
abbrev Ec (M:List (Int×Int)):List (AV×AV):=Gm (.int .i64) (.int .i64) M
theorem fkI {M:List (Int×Int)} {k:Int} {K:Option (Nat×AV)→Prop}
 (h1:AZ M k=none→K none) (h2:∀i v,AZ M k=some v→K (some (i,.int .i64 v))):H7 .int (.int .i64 k) (Ec M) K:=Lj EL h1 h2
theorem Yc {M:List (Int×Int)} {k v:Int} {K:List (AV×AV)→Prop} (h:K (Ec (Bz M k v))):NV .int (.int .i64 k) (.int .i64 v) (Ec M) K:=KT EL h
end AI
end Go.Proofs.YtjjhejbffgaabaaGreatDoor
