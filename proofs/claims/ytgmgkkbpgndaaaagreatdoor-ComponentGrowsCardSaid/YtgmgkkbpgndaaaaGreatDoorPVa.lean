/- The evaluator, step by step on symbols: what must hold for it to end in 'Q'. The evaluator, step by step on symbols: operations. The evaluator, step by step on symbols: regions, code, loops, functions. Loops by an invariant; what a function answers, as a predicate. Lists of numbers as abstract values; small facts that the steps need. -/
import Derived.Test.YtgmgkkbpgndaaaaGreatDoorPSe
set_option linter.unusedVariables false
set_option maxRecDepth 4000
namespace Go.Proofs.YtgmgkkbpgndaaaaGreatDoor
namespace AI
open Go.RowKit
variable {AP:Nat→Option H7}
structure Run (AP:Nat→Option H7) (c:CS) (env:Env) (s:Ap) (Q:Bd→Env→Ap→Prop):Prop where
 mk::(h:∃N e env' s',Fa (run AP N) N c env s=some (e,env',s')∧Q e env' s')
def Op1 (AP:Nat→Option H7) (o:CJ) (env:Env) (s:Ap) (K:AA→Ap→Prop):Prop:=
 ∃N out s',Ag (run AP N) o env s=some (out,s')∧K out s'
def Ops (AP:Nat→Option H7) (os:List Az) (env:Env) (s:Ap) (Q:Bd→Env→Ap→Prop):Prop:=
 ∃N e env' s',Dz (run AP N) os env s=some (e,env',s')∧Q e env' s'
structure Pure (AP:Nat→Option H7) (f:Nat) (args:List AV) (v:AV):Prop where
 mk::(h:∃N,Ew (run AP N) f args=some v)
structure AQ (AP:Nat→Option H7) (f:Nat) (args:List AV) (s:Ap) (K:AA→Ap→Prop):Prop where
 mk::(h:∃N out s',run AP N f args s=some (out,s')∧K out s')
theorem BA {n n':Nat} (h:n≤n'):FB (run AP n) (run AP n'):=RJ h
theorem Run.mono {c:CS} {env:Env} {s:Ap} {Q Q':Bd→Env→Ap→Prop} (h:Run AP c env s Q) (hq:∀e env s,Q e env s→Q' e env s):Run AP c env s Q':=by
 obtain⟨N,e,env',s',h1,h2⟩:=h
 exact⟨N,e,env',s',h1,hq _ _ _ h2⟩
def AV.force {R:Sort _} (v:AV) (f:AV→R):R:=
 match v with
 | .bool b=>f (.bool b)
 | .int k n=>f (.int k n)
 | .str s=>f (.str s)
 | .sl nn xs=>f (.sl nn xs)
 | .zc=>f .zc
 | .own o g a b=>f (.own o g a b)
 | .agg cs=>f (.agg cs)
 | .Cc cs=>f (.Cc cs)
 | .ref o g i a=>f (.ref o g i a)
 | .Ci cs=>f (.Ci cs)
 | .fn g cs=>f (.fn g cs)
 | .map o g=>f (.map o g)
 | .fmap es=>f (.fmap es)
 | .iface t v=>f (.iface t v)
 | .Je=>f .Je
 | .Du=>f .Du
 | .Gg=>f .Gg
 | .Hl=>f .Hl
 | .undef=>f .undef
 | .junk=>f .junk
theorem force_eq {R:Sort _} (v:AV) (f:AV→R):v.force f=f v:=by cases v<;>rfl
def Kr (b:Bool) (t e:Prop):Prop:=match b with
 |true=>t
 |false=>e
theorem PG {b:Bool} {t e:Prop} (h1:b=true→t) (h2:b=false→e):Kr b t e:=by
 cases b
 ·exact h2 rfl
 ·exact h1 rfl
structure N9 (p t e:Prop):Prop where
 mk::(yes:p→t) (no:¬p→e)
structure need (p t:Prop):Prop where
 mk::(l:p) (r:t)
structure Kt (k:IntKind) (z:Int) (K:AV→Prop):Prop where
 mk::(h:∃y,k.wrap z=y∧K (.int k y))
theorem Ec {k:IntKind} {z y:Int} {K:AV→Prop} (h:k.wrap z=y) (h2:K (.int k y)):Kt k z K:=⟨y,h,h2⟩
structure WV {α:Type} (xs:List α) (i:Nat) (K:α→Prop):Prop where
 mk::(h:∃x,nth xs i=some x∧K x)
theorem Aq {α:Type} {xs:List α} {i:Nat} {K:α→Prop} {x:α} (h:nth xs i=some x) (h2:K x):WV xs i K:=⟨x,h,h2⟩
structure Kv {α:Type} (o:Option α) (K:α→Prop):Prop where
 mk::(h:∃x,o=some x∧K x)
theorem Au {α:Type} {o:Option α} {K:α→Prop} {x:α} (h:o=some x) (h2:K x):Kv o K:=⟨x,h,h2⟩
structure ZE (AP:Nat→Option H7) (f:Nat) (args:List AV) (K:AV→Prop):Prop where
 mk::(h:∃v,Pure AP f args v∧K v)
def settle (v:AV) (K:AV→Prop):Prop:=match v with
 | .bool b=>Kr b (K (.bool true)) (K (.bool false))
 |v=>v.force K
theorem RN (v:AV) (K:AV→Prop):settle v K↔K v:=by
 cases v<;>first|exact Iff.rfl|skip
 rename_i b
 cases b<;>exact Iff.rfl
def QK {α:Type}:List α→Nat→α→(List α→Prop)→Prop
 |[],_,_,K=>K []
 |_::xs,0,y,K=>K (y::xs)
 |x::xs,n+1,y,K=>QK xs n y fun ys=>K (x::ys)
theorem FC {α:Type}:∀(l:List α) (n:Nat) (y:α) (K:List α→Prop),QK l n y K↔K (l.set n y)
 |[],_,_,_=>Iff.rfl
 |_::_,0,_,_=>Iff.rfl
 |x::xs,n+1,y,K=>FC xs n y fun ys=>K (x::ys)
def Zb {α:Type}:List α→α→(List α→Prop)→Prop
 |[],y,K=>K [y]
 |x::xs,y,K=>Zb xs y fun ys=>K (x::ys)
theorem OA {α:Type}:∀(l:List α) (y:α) (K:List α→Prop),Zb l y K↔K (l++[y])
 |[],_,_=>Iff.rfl
 |x::xs,y,K=>OA xs y fun ys=>K (x::ys)
def Vd (s:Ap) (mk:Nat→Nat→AV) (ob:Nat→Obj) (K:AA→Ap→Prop):Prop:=
 Zb s.σ (ob s.ctr) fun σ=>K (.ok (mk s.σ.length s.ctr)) ⟨σ,s.ctr+1⟩
structure eqK {α:Type} (a:α) (K:α→Prop):Prop where
 mk::(h:∃b,a=b∧K b)
theorem F9 {α:Type} {a b:α} {K:α→Prop} (h1:a=b) (h:K b):eqK a K:=⟨_,h1,h⟩
def ZF (op:BinOp) (k:IntKind) (a b:Int) (K:AV→Prop):Prop:=
 match op with
 | .add=>Kt k (a+b) K
 | .sub=>Kt k (a-b) K
 | .mul=>Kt k (a*b) K
 | .quo=>need (b≠0) (Kt k (a.tdiv b) K)
 | .rem=>need (b≠0) (K (.int k (a.tmod b)))
 | .eql=>N9 (a=b) (K (.bool true)) (K (.bool false))
 | .neq=>N9 (a=b) (K (.bool false)) (K (.bool true))
 | .lss=>N9 (a<b) (K (.bool true)) (K (.bool false))
 | .leq=>N9 (a≤b) (K (.bool true)) (K (.bool false))
 | .gtr=>N9 (b<a) (K (.bool true)) (K (.bool false))
 | .geq=>N9 (b≤a) (K (.bool true)) (K (.bool false))
 | .and=>eqK (k.wrap (BitVec.ofInt k.bits a &&& BitVec.ofInt k.bits b).toNat) fun z=>K (.int k z)
 | .or=>eqK (k.wrap (BitVec.ofInt k.bits a ||| BitVec.ofInt k.bits b).toNat) fun z=>K (.int k z)
 | .xor=>eqK (k.wrap (BitVec.ofInt k.bits a ^^^ BitVec.ofInt k.bits b).toNat) fun z=>K (.int k z)
 | .shl=>need (0≤b) (Kt k (a*2 ^ (min b.toNat k.bits)) K)
 | .shr=>need (0≤b) (eqK (a.fdiv (2 ^ (min b.toNat k.bits))) fun z=>K (.int k z))
 |_=>False
def ZG (op:BinOp) (a b:List UInt8) (K:AV→Prop):Prop:=
 match op with
 | .eql=>N9 (a=b) (K (.bool true)) (K (.bool false))
 | .neq=>N9 (a=b) (K (.bool false)) (K (.bool true))
 | .lss=>Kr (Op.bytesLess a b) (K (.bool true)) (K (.bool false))
 | .leq=>Kr (Op.bytesLess a b||a==b) (K (.bool true)) (K (.bool false))
 | .gtr=>Kr (Op.bytesLess a b||a==b) (K (.bool false)) (K (.bool true))
 | .geq=>Kr (Op.bytesLess a b) (K (.bool false)) (K (.bool true))
 | .add=>need (a.length+b.length<2 ^ 63) (K (.str (a++b)))
 |_=>False
def Acr (op:BinOp) (k k':IntKind) (t:Prop):Prop:=match op with
 | .shl=>t
 | .shr=>t
 |_=>need (k=k') t
theorem AaG {op:BinOp} {k k':IntKind} {t:Prop} (h:Acr op k k' t):(k=k'∨op=.shl∨op=.shr)∧t:=by
 unfold Acr at h
 split at h
 ·exact⟨.inr (.inl rfl),h⟩
 ·exact⟨.inr (.inr rfl),h⟩
 ·exact⟨.inl h.1,h.2⟩
theorem Aej {op:BinOp} {k k':IntKind} {t:JH} {a b:Int} (h:k=k'∨op=.shl∨op=.shr):bin op t (.int k a) (.int k' b)=Jf op k a b:=by
 simp only[bin]
 split
 ·rfl
 ·rename_i hk
  rcases h with h|rfl|rfl
  ·exact absurd h hk
  ·rfl
  ·rfl
def Ags (op:BinOp) (t:JH) (x y:AV) (K:AV→Prop):Prop:=
 match x,y with
 | .int k a,.int k' b=>Acr op k k' (ZF op k a b K)
 | .str a,.str b=>ZG op a b K
 |x,y=>Kv (bin op t x y) fun v=>settle v K
theorem Yx {op:BinOp} {t:JH} {x y:AV} {K:AV→Prop} (h:Ags op t x y K):∃v,bin op t x y=some v∧K v:=by
 unfold Ags at h
 split at h
 ·rename_i k a k' b
  obtain⟨hk,h⟩:=AaG h
  rw[Aej hk]
  unfold ZF at h
  cases op<;>simp only at h
  case add=>obtain⟨y,h1,h2⟩:=h;exact⟨_,rfl,by rw[h1];exact h2⟩
  case sub=>obtain⟨y,h1,h2⟩:=h;exact⟨_,rfl,by rw[h1];exact h2⟩
  case mul=>obtain⟨y,h1,h2⟩:=h;exact⟨_,rfl,by rw[h1];exact h2⟩
  case quo=>obtain⟨h0,y,h1,h2⟩:=h;exact⟨_,by simp only[Jf,if_neg h0];rfl,by rw[h1];exact h2⟩
  case rem=>obtain⟨h0,h2⟩:=h;exact⟨_,by simp only[Jf,if_neg h0],h2⟩
  case and=>obtain⟨z,rfl,h2⟩:=h;exact⟨_,rfl,h2⟩
  case or=>obtain⟨z,rfl,h2⟩:=h;exact⟨_,rfl,h2⟩
  case xor=>obtain⟨z,rfl,h2⟩:=h;exact⟨_,rfl,h2⟩
  case shl=>obtain⟨h0,y,h1,h2⟩:=h;exact⟨_,by simp only[Jf,if_neg (Int.not_lt.2 h0)];rfl,by rw[h1];exact h2⟩
  case shr=>obtain⟨h0,z,rfl,h2⟩:=h;exact⟨_,by simp only[Jf,if_neg (Int.not_lt.2 h0)],h2⟩
  case eql=>
   by_cases c:a=b
   ·exact⟨_,rfl,by have:=h.1 c;simpa only[c,beq_self_eq_true,bne_self_eq_false,Bool.not_true]using this⟩
   ·exact⟨_,rfl,by have:=h.2 c;simpa only[bne,beq_false_of_ne c,Bool.not_false]using this⟩
  case neq=>
   by_cases c:a=b
   ·exact⟨_,rfl,by have:=h.1 c;simpa only[c,beq_self_eq_true,bne_self_eq_false,Bool.not_true]using this⟩
   ·exact⟨_,rfl,by have:=h.2 c;simpa only[bne,beq_false_of_ne c,Bool.not_false]using this⟩
  case lss=>
   by_cases c:a<b
   ·exact⟨_,rfl,by simpa[c]using h.1 c⟩
   ·exact⟨_,rfl,by simpa[c]using h.2 c⟩
  case leq=>
   by_cases c:a≤b
   ·exact⟨_,rfl,by simpa[c]using h.1 c⟩
   ·exact⟨_,rfl,by simpa[c]using h.2 c⟩
  case gtr=>
   by_cases c:b<a
   ·exact⟨_,rfl,by simpa[c]using h.1 c⟩
   ·exact⟨_,rfl,by simpa[c]using h.2 c⟩
  case geq=>
   by_cases c:b≤a
   ·exact⟨_,rfl,by simpa[c]using h.1 c⟩
   ·exact⟨_,rfl,by simpa[c]using h.2 c⟩
 ·rename_i a b
  simp only[bin]
  unfold ZG at h
  cases op<;>simp only at h
  case add=>obtain⟨h0,h2⟩:=h;exact⟨_,by simp only[X8,if_pos h0],h2⟩
  case eql=>
   by_cases c:a=b
   ·exact⟨_,rfl,by have:=h.1 c;simpa only[c,beq_self_eq_true,bne_self_eq_false,Bool.not_true]using this⟩
   ·exact⟨_,rfl,by have:=h.2 c;simpa only[bne,beq_false_of_ne c,Bool.not_false]using this⟩
  case neq=>
   by_cases c:a=b
   ·exact⟨_,rfl,by have:=h.1 c;simpa only[c,beq_self_eq_true,bne_self_eq_false,Bool.not_true]using this⟩
   ·exact⟨_,rfl,by have:=h.2 c;simpa only[bne,beq_false_of_ne c,Bool.not_false]using this⟩
  case lss=>cases c:Op.bytesLess a b<;>rw[c]at h<;>exact⟨_,rfl,by rw[c];exact h⟩
  case leq=>cases c:(Op.bytesLess a b||a==b)<;>rw[c]at h<;>exact⟨_,rfl,by rw[c];exact h⟩
  case gtr=>cases c:(Op.bytesLess a b||a==b)<;>rw[c]at h<;>exact⟨_,rfl,by rw[c];exact h⟩
  case geq=>cases c:Op.bytesLess a b<;>rw[c]at h<;>exact⟨_,rfl,by rw[c];exact h⟩
 ·obtain⟨v,h1,h2⟩:=h
  exact⟨v,h1,(RN v K).1 h2⟩
end AI
end Go.Proofs.YtgmgkkbpgndaaaaGreatDoor
namespace Go.Proofs.YtgmgkkbpgndaaaaGreatDoor
namespace AI
open Go.RowKit
variable {AP:Nat→Option H7}
def done (v:AV) (s:Ap) (K:AA→Ap→Prop):Prop:=settle v fun v=>K (.ok v) s
def Yy:Aw:=fun _ _ _=>none
def WW (o:CJ) (env:Env) (s:Ap) (K:AA→Ap→Prop):Prop:=
 Kv (Ag Yy o env s) fun r=>match r with
    |(.ok v,s')=>done v s' K
    |(.Dp v,s')=>K (.Dp v) s'
def ZH (σ:List Obj) (n:Nat) (r:AV) (R:AV→Prop):Prop:=match r with
 | .own o g off len=>match n with
   |0=>False
   |n+1=>match nth σ o with
    |some (.arr g' _ nn cl elems)=>match cl with
     |true=>need (g=g'∧off+len≤elems.length) (eqK (sub elems off len) fun xs=>R (.sl nn xs))
     |false=>Kv (snap σ (n+1) (.own o g off len)) R
    |_=>False
 |r=>Kv (snap σ n r) R
theorem PI {σ:List Obj} {n:Nat} {r:AV} {R:AV→Prop} (h:ZH σ n r R):∃v,snap σ n r=some v∧R v:=by
 unfold ZH at h
 split at h
 ·rename_i o g off len
  split at h
  ·cases h
  ·split at h
   ·rename_i g' es nn cl elems ho
    split at h
    ·obtain⟨h1,xs,rfl,h2⟩:=h
     refine⟨_,?_,h2⟩
     simp only[snap,ho,if_pos h1,if_true]
    ·obtain⟨v,h1,h2⟩:=h;exact⟨v,h1,h2⟩
   ·cases h
 ·obtain⟨v,h1,h2⟩:=h;exact⟨v,h1,h2⟩
def RP (σ:List Obj):Nat→List AV→(List AV→Prop)→Prop
 |_,[],K=>K []
 |0,_::_,_=>False
 |n+1,v::vs,K=>ZH σ n v fun a=>RP σ n vs fun r=>K (a::r)
theorem Ih {σ:List Obj}:∀{n:Nat} {vs:List AV} {K:List AV→Prop},RP σ n vs K→∃r,Fq σ n vs=some r∧K r
 |n,[],K,h=>⟨[],by cases n<;>rfl,by cases n<;>exact h⟩
 |0,_::_,_,h=>by cases h
 |n+1,v::vs,K,h=>by
  obtain⟨a,h1,h2⟩:=PI h
  obtain⟨r,h3,h4⟩:=Ih h2
  exact⟨_,by simp only[Fq,h1,h3],h4⟩
def ZI (σ:List Obj) (n:Nat) (r:AV) (R:AV→Prop):Prop:=match r with
 | .Cc cs=>match n with
   |0=>False
   |n+1=>RP σ n cs fun vs=>R (.Cc vs)
 | .agg cs=>match n with
   |0=>False
   |n+1=>RP σ n cs fun vs=>R (.agg vs)
 |r=>ZH σ n r R
theorem WX {σ:List Obj} {n:Nat} {r:AV} {R:AV→Prop} (h:ZI σ n r R):∃v,snap σ n r=some v∧R v:=by
 unfold ZI at h
 split at h
 ·split at h
  ·cases h
  ·obtain⟨vs,h1,h2⟩:=Ih h
   exact⟨_,by simp only[snap,h1,Option.map_some],h2⟩
 ·split at h
  ·cases h
  ·obtain⟨vs,h1,h2⟩:=Ih h
   exact⟨_,by simp only[snap,h1,Option.map_some],h2⟩
 ·exact PI h
def Acs (AP:Nat→Option H7) (m:Mode) (f:Nat) (args:List AV) (s:Ap) (K:AA→Ap→Prop):Prop:=
 match m with
 | .pure=>need (DI args=true) (ZE AP f args fun v=>done v s K)
 | .borrow=>RP s.σ EC args fun args'=>ZE AP f args' fun v=>need (v.scalar=true) (done v s K)
 | .share=>AQ AP f args s fun out s'=>match out with
   | .ok r=>Kv (compact s.σ.length r s') fun r=>done r.1 r.2 K
   | .Dp v=>need (v.closed=true) (K (.Dp v) ⟨s'.σ.take s.σ.length,s'.ctr⟩)
 | .own=>∃N r s',A8 (run AP N) .own f args s=some (.ok r,s')∧done r s' K
 | .keep=>AQ AP f args s fun out s'=>match out with
   | .ok r=>done r s' K
   | .Dp v=>K (.Dp v) s'
structure LU (g g' es es' len:Nat) (nn cl c:Bool) (elems ys:List AV) (bytes:Nat) (K:Nat→Bool→Bool→List AV→Prop):Prop where
 mk::(h:(g=g'∧es=es'∧len≤elems.length∧Bo es ys∧roomy bytes (len+ys.length))∧K (len+ys.length) (nn||!ys.isEmpty) (cl&&c) (elems.take len++ys))
def Agt (a b:Bool) (K:Bool→Prop):Prop:=match b with
 |true=>K a
 |false=>K false
theorem WY (a b:Bool) (K:Bool→Prop):Agt a b K↔K (a&&b):=by cases a<;>cases b<;>exact Iff.rfl
def Acu (b:Bool) (K:Bool→Prop):Prop:=match b with
 |true=>K true
 |false=>K false
theorem Dl (b:Bool) (K:Bool→Prop):Acu b K↔K b:=by cases b<;>exact Iff.rfl
def ZJ (env:Env):List (Nat×AO)→(List (Nat×AV)→Prop)→Prop
 |[],K=>K []
 |(j,x)::ps,K=>(x.val env).force fun v=>ZJ env ps fun r=>K ((j,v)::r)
theorem Uk (env:Env):∀(ps:List (Nat×AO)) (K:List (Nat×AV)→Prop),ZJ env ps K↔K (OQ env ps)
 |[],_=>Iff.rfl
 |(j,x)::ps,K=>by simp only[ZJ,force_eq,OQ];exact Uk env ps _
def Gi (z:AV):Nat→List (Nat×AV)→Nat→(List AV→Prop)→Prop
 |0,_,_,K=>K []
 |n+1,[],i,K=>Gi z n [] (i+1) fun r=>K (z::r)
 |n+1,(j,v)::ps,i,K=>bif Nat.beq i j then Gi z n ps (i+1) fun r=>K (v::r)else Gi z n ((j,v)::ps) (i+1) fun r=>K (z::r)
theorem G9 (z:AV):∀(n:Nat) (ps:List (Nat×AV)) (i:Nat) (K:List AV→Prop),Gi z n ps i K↔K (BL z n ps i)
 |0,_,_,_=>by simp only[Gi,BL]
 |n+1,[],i,K=>by simp only[Gi,BL];exact G9 z n [] (i+1) _
 |n+1,(j,v)::ps,i,K=>by
  simp only[Gi,BL]
  cases Nat.beq i j
  ·exact G9 z n _ (i+1) _
  ·exact G9 z n _ (i+1) _
def Yz (es:Nat) (v:AV) (s:Ap) (K:List AV→Bool→Prop):Prop:=match v with
 | .sl _ xs=>K xs true
 | .zc=>K [] true
 |v=>Kv (elemsOf s es v) fun r=>K r.1 r.2
theorem Ve {es:Nat} {v:AV} {s:Ap} {K:List AV→Bool→Prop} (h:Yz es v s K):∃ys c,elemsOf s es v=some (ys,c)∧K ys c:=by
 unfold Yz at h
 split at h
 ·exact⟨_,_,rfl,h⟩
 ·exact⟨_,_,rfl,h⟩
 ·obtain⟨⟨ys,c⟩,h1,h2⟩:=h
  exact⟨ys,c,h1,h2⟩
def Aek (off j:Nat) (K:Nat→Prop):Prop:=match off with
 |0=>K j
 |n+1=>K (n+1+j)
theorem WZ (off j:Nat) (K:Nat→Prop):Aek off j K↔K (off+j):=by
 cases off with
 |zero=>simp[Aek]
 |succ n=>exact Iff.rfl
structure TF (t:JH) (k:AV) (ents:List (AV×AV)) (K:Option (Nat×AV)→Prop):Prop where
 mk::(h:∃r,findKey t k ents 0=some r∧K r)
def Acv (k v:AV) (ents:List (AV×AV)) (r:Option (Nat×AV)):List (AV×AV):=match r with
 |some (i,_)=>ents.set i (k,v)
 |none=>ents++[(k,v)]
structure VQ (t:JH) (k v:AV) (ents:List (AV×AV)) (K:List (AV×AV)→Prop):Prop where
 mk::(h:∃r,findKey t k ents 0=some r∧K (Acv k v ents r))
def Vf (env:Env) (d:Nat) (x:Option AO) (K:Nat→Prop):Prop:=match x with
 |none=>K d
 |some x=>match x.val env with
  | .int _ n=>need (0≤n) (K n.toNat)
  |_=>False
def Qr (env:Env) (len:Nat) (lo hi:Option AO) (K:Nat→Nat→Prop):Prop:=
 Vf env len hi fun h=>Vf env 0 lo fun l=>need (l≤h∧h≤len) (K l h)
theorem Oa {env:Env} {d:Nat} {x:Option AO} {K:Nat→Prop} (h:Vf env d x K):∃n,(match x with|none=>some d|some x=>bound (x.val env))=some n∧K n:=by
 unfold Vf at h
 split at h
 ·exact⟨d,rfl,h⟩
 ·rename_i x
  split at h
  ·rename_i k n hv
   exact⟨n.toNat,by simp only[hv,bound,if_pos h.1],h.2⟩
  ·cases h
theorem Jj {env:Env} {len:Nat} {lo hi:Option AO} {K:Nat→Nat→Prop} (h:Qr env len lo hi K):∃l u,bounds env len lo hi=some (l,u)∧K l u:=by
 obtain⟨u,h1,h2⟩:=Oa h
 obtain⟨l,h3,h4,h5⟩:=Oa h2
 refine⟨l,u,?_,h5⟩
 unfold bounds
 cases hi<;>cases lo<;>simp_all
def JD (AP:Nat→Option H7) (o:CJ) (env:Env) (s:Ap) (K:AA→Ap→Prop):Prop:=
 match o with
 | .mov x=>done (x.val env) s K
 | .Ji es=>Vd s (fun o g=>.own o g 0 0) (fun g=>.arr g es false true []) K
 | .JU off e2 es cs=>match nth cs off with
   |some (.sl false [])=>need (0<e2) (Vd s (fun o g=>.own o g 0 0) (fun g=>.arr g e2 false true []) fun out s1=>match out with
        | .ok v=>Vd s1 (fun o g=>.ref o g 0 0) (fun g=>.arr g es true (AV.agg (cs.set off v)).closed [.agg (cs.set off v)]) K
        | .Dp _=>False)
   |_=>False
 | .pick c a b=>match c.val env with
   | .bool c=>Kr c (done (a.val env) s K) (done (b.val env) s K)
   |_=>False
 | .alloc es z=>Vd s (fun o g=>.ref o g 0 0) (fun g=>.arr g es true z.closed [z]) K
 | .box es x=>(x.val env).force fun v=>need ((v.storable&&v.cells.length==es)=true) (Vd s (fun o g=>.ref o g 0 0) (fun g=>.arr g es true v.closed [v]) K)
 | .build z parts=>Kv (Ep z (JX env parts)) fun cs=>K (.ok (.agg cs)) s
 | .load sz a=>match a.val env with
   | .Ci cs=>Kv (loadCells cs sz) fun v=>done v s K
   | .ref o g i off=>match nth s.σ o with
     |some (.arr g' _ _ _ elems)=>need (g=g') (WV elems i fun x=>Kv (loadCells (x.cells.drop off) sz) fun v=>done v s K)
     |_=>False
   |_=>False
 | .store sz a x=>match a.val env with
   | .ref o g i off=>match nth s.σ o with
     |some (.arr g' es nn cl elems)=>need (g=g') (WV elems i fun y=>(x.val env).force fun v=>need ((v.storable&&v.cells.length==sz&&off+sz≤es)=true)
       (Agt cl v.closed fun cl'=>eqK (elems.set i (BI y off v)) fun es'=>QK s.σ o (.arr g' es nn cl' es') fun σ=>K (.ok .undef) ⟨σ,s.ctr⟩))
     |_=>False
   |_=>False
 | .OM x=>match x.val env with
   | .ref o g i off=>K (.ok (.ref o g i off)) s
   | .Ci cs=>K (.ok (.Ci cs)) s
   | .fn f cs=>K (.ok (.fn f cs)) s
   |_=>False
 | .bin op t x y=>Ags op t (x.val env) (y.val env) fun v=>K (.ok v) s
 | .un op x=>match op,x.val env with
   | .not,.bool b=>Kr b (K (.ok (.bool false)) s) (K (.ok (.bool true)) s)
   | .neg,.int k n=>Kt k (0-n) fun v=>K (.ok v) s
   |_,_=>False
 | .conv k x=>match x.val env with
   | .int _ n=>Kt k n fun v=>K (.ok v) s
   |_=>False
 | .field off sz x=>match x.val env with
   | .agg cs=>Kv (loadCells (cs.drop off) sz) fun v=>done v s K
   |_=>False
 | .QV off x=>match x.val env with
   | .Ci cs=>K (.ok (.Ci (cs.drop off))) s
   | .ref o g i off'=>K (.ok (.ref o g i (off'+off))) s
   |_=>False
 | .QY es x i=>match x.val env,i.val env with
   | .sl _ xs,.int _ i=>need (0≤i) (WV xs i.toNat fun v=>need (v.cells.length=es) (K (.ok (.Ci v.cells)) s))
   | .own o g off len,.int _ i=>match nth s.σ o with
     |some (.arr g' es' _ _ _)=>need (g=g'∧es=es'∧0≤i∧i<len) (Aek off i.toNat fun j=>K (.ok (.ref o g j 0)) s)
     |_=>False
   |_,_=>False
 | .len k x=>match k,x.val env with
   | .slice,.sl _ xs=>eqK xs.length fun n=>K (.ok (.int .i64 n)) s
   | .slice,.own _ _ _ n=>K (.ok (.int .i64 n)) s
   | .str,.str bs=>K (.ok (.int .i64 bs.length)) s
   | .map,.map o g=>match nth s.σ o with
     |some (.mp g' _ ents)=>need (g=g') (K (.ok (.int .i64 ents.length)) s)
     |_=>False
   | .map,.fmap ents=>K (.ok (.int .i64 ents.length)) s
   |_,_=>WW (.len k x) env s K
 | .NK=>Vd s (fun o g=>.map o g) (fun g=>.mp g true []) K
 | .lookup t z Ql m k=>match m.val env with
   | .map o g=>match nth s.σ o with
     |some (.mp g' _ ents)=>need (g=g'∧I5 t (k.val env)=true) (TF t (k.val env) ents fun r=>match r with
      |some (_,v)=>bif Ql then K (.ok (.Cc [v,.bool true])) s else done v s K
      |none=>bif Ql then K (.ok (.Cc [z,.bool false])) s else done z s K)
     |_=>False
   | .fmap ents=>need (I5 t (k.val env)=true) (TF t (k.val env) ents fun r=>match r with
        |some (_,v)=>bif Ql then K (.ok (.Cc [v,.bool true])) s else done v s K
        |none=>bif Ql then K (.ok (.Cc [z,.bool false])) s else done z s K)
   |_=>WW (.lookup t z Ql m k) env s K
 | .mapset t m k v=>match m.val env with
   | .map o g=>match nth s.σ o with
     |some (.mp g' cl ents)=>(v.val env).force fun vv=>need (g=g'∧I5 t (k.val env)=true∧vv.storable=true)
       (Agt cl vv.closed fun cl'=>VQ t (k.val env) vv ents fun Zo=>QK s.σ o (.mp g' cl' Zo) fun σ=>K (.ok .undef) ⟨σ,s.ctr⟩)
     |_=>False
   |_=>False
 | .delete t m k=>match m.val env with
   | .map o g=>match nth s.σ o with
     |some (.mp g' cl ents)=>need (g=g'∧I5 t (k.val env)=true) (TF t (k.val env) ents fun r=>match r with
      |some (i,_)=>QK s.σ o (.mp g' cl (ents.eraseIdx i)) fun σ=>K (.ok .undef) ⟨σ,s.ctr⟩
      |none=>K (.ok .undef) s)
     |_=>False
   |_=>False
 | .lit own es z len parts=>ZJ env parts fun ps=>need (RG es len ps 0=true) (Gi z len ps 0 fun xs=>
    bif own then Acu (Ie ps) fun c=>Vd s (fun o g=>.own o g 0 len) (fun g=>.arr g es true c xs) K
    else bif Nat.beq len 0 then K (.ok .zc) s else need (Ie ps=true) (K (.ok (.sl true xs)) s))
 | .Ya x i=>match x.val env,i.val env with
   | .str bs,.int _ i=>need (0≤i) (WV bs i.toNat fun b=>K (.ok (.int .u8 b.toNat)) s)
   |_,_=>False
 | .slice es x lo hi=>match x.val env with
   | .sl nn xs=>Qr env xs.length lo hi fun l h=>need (Bo es xs) (eqK (sub xs l (h-l)) fun ys=>K (.ok (.sl nn ys)) s)
   | .own o g off len=>match nth s.σ o with
     |some (.arr g' es' _ _ _)=>need (g=g'∧es=es') (Qr env len lo hi fun l h=>Aek off l fun j=>K (.ok (.own o g j (h-l))) s)
     |_=>False
   |_=>WW (.slice es x lo hi) env s K
 | .KW x lo hi=>match x.val env with
   | .str bs=>Qr env bs.length lo hi fun l h=>eqK ((bs.drop l).take (h-l)) fun r=>K (.ok (.str r)) s
   |_=>False
 | .append es bytes a x=>Yz es (x.val env) s fun ys c=>match a.val env with
   | .own o g 0 len=>match nth s.σ o with
     |some (.arr g' es' nn cl' elems)=>LU g g' es es' len nn cl' c elems ys bytes fun n nn cl es'=>QK s.σ o (.arr s.ctr es nn cl es') fun σ=>K (.ok (.own o s.ctr 0 n)) ⟨σ,s.ctr+1⟩
     |_=>False
   |v=>Kv (D8 es bytes s v ys c) fun r=>done r.1 r.2 K
 | .Ic es bytes z len cap=>match len.val env,cap.val env with
   | .int _ l,.int _ c=>need (0≤l∧l≤c∧roomy bytes c.toNat) (eqK (List.replicate l.toNat z) fun xs=>Vd s (fun o g=>.own o g 0 l.toNat) (fun g=>.arr g es true z.closed xs) K)
   |_,_=>False
 | .ext x i=>match x.val env with
   | .Cc cs=>Kv (nth cs i) fun v=>done v s K
   |_=>False
 | .call m f args=>Acs AP m f (vals env args) s K
 | .Hq m x args=>match x.val env with
   | .fn f caps=>Acs AP m f (vals env args++caps) s K
   |_=>False
 |o=>WW o env s K
theorem AaH (C:Aw):FB Yy C:=fun _ _ _ _ h=>by cases h
theorem CY (v:AV) (s:Ap) (K:AA→Ap→Prop):done v s K↔K (.ok v) s:=RN v _
theorem I8 {o:CJ} {env:Env} {s:Ap} {K:AA→Ap→Prop} (h:WW o env s K):Op1 AP o env s K:=by
 obtain⟨⟨out,s'⟩,h1,h2⟩:=h
 refine⟨0,out,s',Ce (AaH _) h1,?_⟩
 cases out with
 |ok v=>exact(CY v s' K).1 h2
 |Dp v=>exact h2
theorem PK {m:Mode} {f:Nat} {args:List AV} {s:Ap} {K:AA→Ap→Prop} (h:Acs AP m f args s K):∃N out s',A8 (run AP N) m f args s=some (out,s')∧K out s':=by
 cases m with
 |pure=>
  obtain⟨hc,v,⟨N,hp⟩,hk⟩:=h
  exact⟨N,.ok v,s,by simp only[A8,if_pos hc,hp,Option.map_some],(CY v s K).1 hk⟩
 |borrow=>
  obtain⟨args',ha,v,⟨N,hp⟩,hs,hk⟩:=Ih h
  exact⟨N,.ok v,s,by simp only[A8,ha,hp,if_pos hs],(CY v s K).1 hk⟩
 |share=>
  obtain⟨N,out,s',hr,hk⟩:=h
  cases out with
  |ok r=>
   obtain⟨⟨r',s''⟩,h1,h2⟩:=hk
   exact⟨N,.ok r',s'',by simp only[A8,hr,h1,Option.map_some],(CY r' s'' K).1 h2⟩
  |Dp v=>
   obtain⟨h1,h2⟩:=hk
   exact⟨N,.Dp v,_,by simp only[A8,hr,if_pos h1],h2⟩
 |own=>
  obtain⟨N,r,s',h1,h2⟩:=h
  exact⟨N,.ok r,s',h1,(CY r s' K).1 h2⟩
 |keep=>
  obtain⟨N,out,s',hr,hk⟩:=h
  cases out with
  |ok r=>exact⟨N,.ok r,s',hr,(CY r s' K).1 hk⟩
  |Dp v=>exact⟨N,.Dp v,s',hr,hk⟩
theorem Ht {s:Ap} {mk:Nat→Nat→AV} {ob:Nat→Obj} {K:AA→Ap→Prop}:Vd s mk ob K↔K (.ok (mk s.σ.length s.ctr)) (push s (ob s.ctr)):=OA _ _ _
theorem GL {o:CJ} {env:Env} {s:Ap} {K:AA→Ap→Prop} (h:JD AP o env s K):Op1 AP o env s K:=by
 cases o
 case mov x=>exact⟨0,_,_,rfl,(CY _ _ _).1 h⟩
 case Ji es=>simp only[JD]at h;exact⟨0,_,_,rfl,Ht.1 h⟩
 case JU off e2 es cs=>
  simp only[JD]at h
  split at h
  case h_2=>cases h
  rename_i hoff
  obtain⟨he,h⟩:=h
  have h:=Ht.1 h
  have h:=Ht.1 h
  refine⟨0,_,_,?_,h⟩
  simp only[Ag,hoff,if_pos he]
  simp[push]
 case pick c a b=>
  simp only[JD]at h
  split at h
  ·rename_i c' hc
   cases c'
   ·exact⟨0,_,_,by simp only[Ag,hc],(CY _ _ _).1 h⟩
   ·exact⟨0,_,_,by simp only[Ag,hc],(CY _ _ _).1 h⟩
  ·cases h
 case alloc es z=>simp only[JD]at h;exact⟨0,_,_,rfl,Ht.1 h⟩
 case box es x=>
  simp only[JD,force_eq]at h
  obtain⟨h1,h2⟩:=h
  exact⟨0,_,_,by simp only[Ag,if_pos h1],Ht.1 h2⟩
 case build z ps=>
  obtain⟨cs,h1,h2⟩:=h
  exact⟨0,_,_,by simp only[Ag,h1,Option.map_some],h2⟩
 case load sz a=>
  simp only[JD]at h
  split at h
  ·rename_i cs hv
   obtain⟨v,h1,h2⟩:=h
   exact⟨0,_,_,by simp only[Ag,hv,ok,h1,Option.map_some],(CY _ _ _).1 h2⟩
  ·rename_i o g i off hv
   split at h
   ·rename_i g' es nn cl elems ho
    obtain⟨hg,x,hx,v,h1,h2⟩:=h
    exact⟨0,_,_,by simp only[Ag,hv,ho,if_pos hg,hx,ok,h1,Option.map_some],(CY _ _ _).1 h2⟩
   ·cases h
  ·cases h
 case store sz a x=>
  simp only[JD]at h
  split at h
  ·rename_i o g i off hv
   split at h
   ·rename_i g' es nn cl elems ho
    obtain⟨hg,y,hy,h⟩:=h
    rw[force_eq]at h
    obtain⟨h1,h2⟩:=h
    rw[WY]at h2
    obtain⟨es',rfl,h2⟩:=h2
    rw[FC]at h2
    exact⟨0,_,_,by simp only[Ag,hv,ho,if_pos hg,hy,h1,if_true],h2⟩
   ·cases h
  ·cases h
 case OM x=>
  simp only[JD]at h
  split at h
  ·rename_i hv;exact⟨0,_,_,by simp only[Ag,hv],h⟩
  ·rename_i hv;exact⟨0,_,_,by simp only[Ag,hv],h⟩
  ·rename_i hv;exact⟨0,_,_,by simp only[Ag,hv],h⟩
  ·cases h
 case bin op t x y=>
  obtain⟨v,h1,h2⟩:=Yx h
  exact⟨0,_,_,by simp only[Ag,ok,h1,Option.map_some],h2⟩
 case un op x=>
  simp only[JD]at h
  split at h
  ·rename_i b hv
   cases b
   ·exact⟨0,_,_,by simp only[Ag,hv,Bool.not_false],h⟩
   ·exact⟨0,_,_,by simp only[Ag,hv,Bool.not_true],h⟩
  ·rename_i k n hv
   obtain⟨y,h1,h2⟩:=h
   exact⟨0,_,_,by simp only[Ag,hv,h1],h2⟩
  ·cases h
 case conv k x=>
  simp only[JD]at h
  split at h
  ·rename_i k' n hv
   obtain⟨y,h1,h2⟩:=h
   exact⟨0,_,_,by simp only[Ag,hv,h1],h2⟩
  ·cases h
 case field off sz x=>
  simp only[JD]at h
  split at h
  ·rename_i cs hv
   obtain⟨v,h1,h2⟩:=h
   exact⟨0,_,_,by simp only[Ag,hv,ok,h1,Option.map_some],(CY _ _ _).1 h2⟩
  ·cases h
 case QV off x=>
  simp only[JD]at h
  split at h
  ·rename_i hv;exact⟨0,_,_,by simp only[Ag,hv],h⟩
  ·rename_i hv;exact⟨0,_,_,by simp only[Ag,hv],h⟩
  ·cases h
 case QY es x i=>
  simp only[JD]at h
  split at h
  ·rename_i nn xs k n hx hi
   obtain⟨h0,v,h1,h2,h3⟩:=h
   exact⟨0,_,_,by simp only[Ag,hx,hi,if_pos h0,h1,if_pos h2],h3⟩
  ·rename_i o g off len k n hx hi
   split at h
   ·rename_i g' es' nn cl elems ho
    obtain⟨h1,h2⟩:=h
    rw[WZ]at h2
    exact⟨0,_,_,by simp only[Ag,hx,hi,ho,if_pos h1],h2⟩
   ·cases h
  ·cases h
 case len k x=>
  simp only[JD]at h
  split at h
  ·rename_i hv
   obtain⟨n,rfl,h⟩:=h
   exact⟨0,_,_,by simp only[Ag,hv],h⟩
  ·rename_i hv;exact⟨0,_,_,by simp only[Ag,hv],h⟩
  ·rename_i hv;exact⟨0,_,_,by simp only[Ag,hv],h⟩
  ·rename_i o g hv
   split at h
   ·rename_i g' cl ents ho
    obtain⟨h1,h2⟩:=h
    exact⟨0,_,_,by simp only[Ag,hv,ho,if_pos h1],h2⟩
   ·cases h
  ·rename_i hv;exact⟨0,_,_,by simp only[Ag,hv],h⟩
  ·exact I8 h
 case Ya x i=>
  simp only[JD]at h
  split at h
  ·rename_i bs k n hx hi
   obtain⟨h1,b,h2,h3⟩:=h
   exact⟨0,_,_,by simp only[Ag,hx,hi,if_pos h1,h2],h3⟩
  ·cases h
 case slice es x lo hi=>
  simp only[JD]at h
  split at h
  ·rename_i nn xs hx
   obtain⟨l,u,h1,h2,ys,rfl,h3⟩:=Jj h
   exact⟨0,_,_,by simp only[Ag,hx,h1,if_pos h2],h3⟩
  ·rename_i o g off len hx
   split at h
   ·rename_i g' es' nn cl elems ho
    obtain⟨hg,h⟩:=h
    obtain⟨l,u,h1,h2⟩:=Jj h
    rw[WZ]at h2
    exact⟨0,_,_,by simp only[Ag,hx,ho,if_pos hg,h1],h2⟩
   ·cases h
  ·exact I8 h
 case KW x lo hi=>
  simp only[JD]at h
  split at h
  ·rename_i bs hx
   obtain⟨l,u,h1,r,rfl,h2⟩:=Jj h
   exact⟨0,_,_,by simp only[Ag,hx,h1],h2⟩
  ·cases h
 case NK=>simp only[JD]at h;exact⟨0,_,_,rfl,Ht.1 h⟩
 case lookup t z Ql m k=>
  simp only[JD]at h
  split at h
  ·rename_i o g hv
   split at h
   ·rename_i g' cl ents ho
    obtain⟨h1,r,h2,h3⟩:=h
    cases r with
    |none=>
     cases Ql
     ·exact⟨0,_,_,by simp only[Ag,hv,ho,if_pos h1,h2];rfl,(CY _ _ _).1 h3⟩
     ·exact⟨0,_,_,by simp only[Ag,hv,ho,if_pos h1,h2];rfl,h3⟩
    |some p=>
     cases Ql
     ·exact⟨0,_,_,by simp only[Ag,hv,ho,if_pos h1,h2];rfl,(CY _ _ _).1 h3⟩
     ·exact⟨0,_,_,by simp only[Ag,hv,ho,if_pos h1,h2];rfl,h3⟩
   ·cases h
  ·rename_i ents hv
   obtain⟨h1,r,h2,h3⟩:=h
   cases r with
   |none=>
    cases Ql
    ·exact⟨0,_,_,by simp only[Ag,hv,if_pos h1,h2];rfl,(CY _ _ _).1 h3⟩
    ·exact⟨0,_,_,by simp only[Ag,hv,if_pos h1,h2];rfl,h3⟩
   |some p=>
    cases Ql
    ·exact⟨0,_,_,by simp only[Ag,hv,if_pos h1,h2];rfl,(CY _ _ _).1 h3⟩
    ·exact⟨0,_,_,by simp only[Ag,hv,if_pos h1,h2];rfl,h3⟩
  ·exact I8 h
 case mapset t m k v=>
  simp only[JD]at h
  split at h
  ·rename_i o g hv
   split at h
   ·rename_i g' cl ents ho
    rw[force_eq]at h
    obtain⟨h1,h2⟩:=h
    rw[WY]at h2
    obtain⟨r,h2,h3⟩:=h2
    rw[FC]at h3
    cases r with
    |none=>exact⟨0,_,_,by simp only[Ag,hv,ho,if_pos h1,h2];rfl,h3⟩
    |some p=>exact⟨0,_,_,by simp only[Ag,hv,ho,if_pos h1,h2];rfl,h3⟩
   ·cases h
  ·cases h
 case delete t m k=>
  simp only[JD]at h
  split at h
  ·rename_i o g hv
   split at h
   ·rename_i g' cl ents ho
    obtain⟨h1,r,h2,h3⟩:=h
    cases r with
    |none=>exact⟨0,_,_,by simp only[Ag,hv,ho,if_pos h1,h2],h3⟩
    |some p=>
     simp only at h3
     rw[FC]at h3
     exact⟨0,_,_,by simp only[Ag,hv,ho,if_pos h1,h2],h3⟩
   ·cases h
  ·cases h
 case lit own es z len parts=>
  simp only[JD,Uk]at h
  obtain⟨h1,h2⟩:=h
  rw[G9]at h2
  cases own
  ·rw[cond_false]at h2
   cases hb:Nat.beq len 0
   ·rw[hb,cond_false]at h2
    have hne:len≠0:=fun e=>by subst e;simp at hb
    exact⟨0,_,_,by simp only[Ag,if_pos h1,if_neg hne,if_pos h2.1];rfl,h2.2⟩
   ·rw[hb,cond_true]at h2
    have he:len=0:=Nat.eq_of_beq_eq_true hb
    exact⟨0,_,_,by simp only[Ag,if_pos h1,if_pos he];rfl,h2⟩
  ·rw[cond_true,Dl]at h2
   exact⟨0,_,_,by simp only[Ag,if_pos h1,if_true],Ht.1 h2⟩
 case append es bytes a x=>
  simp only[JD]at h
  obtain⟨ys,cl,h1,h⟩:=Ve h
  split at h
  ·rename_i o g len hv
   split at h
   ·rename_i g' es' nn cl' elems ho
    obtain⟨h2,h3⟩:=h
    rw[FC]at h3
    exact⟨0,_,_,by simp only[Ag,h1,hv,D8,ho,if_pos h2,Option.map_some],h3⟩
   ·cases h
  ·obtain⟨⟨v,s'⟩,h2,h3⟩:=h
   exact⟨0,_,_,by simp only[Ag,h1,h2,Option.map_some],(CY _ _ _).1 h3⟩
 case Ic es bytes z len cap=>
  simp only[JD]at h
  split at h
  ·rename_i k l k' c hl hc
   obtain⟨h1,xs,rfl,h2⟩:=h
   exact⟨0,_,_,by simp only[Ag,hl,hc,if_pos h1],Ht.1 h2⟩
  ·cases h
 case ext x i=>
  simp only[JD]at h
  split at h
  ·rename_i cs hv
   obtain⟨v,h1,h2⟩:=h
   exact⟨0,_,_,by simp only[Ag,hv,ok,h1,Option.map_some],(CY _ _ _).1 h2⟩
  ·cases h
 case call m f args=>exact PK h
 case Hq m x args=>
  simp only[JD]at h
  split at h
  ·rename_i f caps hv
   obtain⟨N,out,s',h1,h2⟩:=PK h
   exact⟨N,out,s',by simp only[Ag,hv];exact h1,h2⟩
  ·cases h
 all_goals exact I8 h
end AI
end Go.Proofs.YtgmgkkbpgndaaaaGreatDoor
namespace Go.Proofs.YtgmgkkbpgndaaaaGreatDoor
namespace AI
open Go.RowKit
variable {AP:Nat→Option H7}
def FW (g:Option (Nat×Bool)) (env:Env) (t e:Prop):Prop:=match g with
 |none=>t
 |some (r,b)=>match env.get r with
  | .bool b'=>Kr (b'==b) t e
  | .undef=>e
  |_=>False
def Acw (k:Env→Ap→Prop) (d:Option Nat) (env:Env) (Q:Bd→Env→Ap→Prop) (out:AA) (s:Ap):Prop:=match out with
 | .ok v=>k (put d v env) s
 | .Dp v=>Q (.Dp v) env s
def W9 (AP:Nat→Option H7) (ops:List Az):Env→Ap→(Bd→Env→Ap→Prop)→Prop:=
 List.rec (motive:=fun _=>Env→Ap→(Bd→Env→Ap→Prop)→Prop) (fun env s Q=>Q .normal env s)
    (fun o _ ih env s Q=>FW o.guard env (JD AP o.op env s (Acw (fun env s=>ih env s Q) o.dst env Q)) (ih (put o.dst .undef env) s Q)) ops
theorem AaI (o:Az) (os:List Az) (env:Env) (s:Ap) (Q:Bd→Env→Ap→Prop):W9 AP (o::os) env s Q=FW o.guard env
 (JD AP o.op env s (Acw (fun env s=>W9 AP os env s Q) o.dst env Q))
 (W9 AP os (put o.dst .undef env) s Q):=rfl
theorem JZ:∀{os:List Az} {env:Env} {s:Ap} {Q:Bd→Env→Ap→Prop},W9 AP os env s Q→Ops AP os env s Q
 |[],env,s,Q,h=>⟨0,_,_,_,rfl,h⟩
 |o::os,env,s,Q,h=>by
  have La:wanted o.guard env=some false→W9 AP os (put o.dst .undef env) s Q→Ops AP (o::os) env s Q:=by
   intro hw h
   obtain⟨N,e,env',s',h1,h2⟩:=JZ h
   exact⟨N,e,env',s',by simp only[Dz,hw];exact h1,h2⟩
  have hdo:wanted o.guard env=some true→JD AP o.op env s (Acw (fun env s=>W9 AP os env s Q) o.dst env Q)→Ops AP (o::os) env s Q:=by
   intro hw h
   obtain⟨N,out,s1,h1,h2⟩:=GL h
   cases out with
   |ok v=>
    obtain⟨N',e,env',s',h3,h4⟩:=JZ h2
    refine⟨max N N',e,env',s',?_,h4⟩
    simp only[Dz,hw,Ce (BA (Nat.le_max_left N N')) h1]
    exact EY (BA (Nat.le_max_right N N')) h3
   |Dp v=>exact⟨N,_,_,_,by simp only[Dz,hw,h1],h2⟩
  rw[AaI]at h
  unfold FW at h
  split at h
  ·rename_i hg
   exact hdo (by rw[hg];rfl) h
  ·rename_i r b hg
   split at h
   ·rename_i b' hb
    cases hbb:(b'==b)
    ·rw[hbb]at h
     exact La (by rw[hg];simp only[wanted,hb,hbb]) h
    ·rw[hbb]at h
     exact hdo (by rw[hg];simp only[wanted,hb,hbb]) h
   ·rename_i hb
    exact La (by rw[hg];simp only[wanted,hb]) h
   ·cases h
def J3:List Nat→Env→(Env→Prop)→Prop
 |[],_,K=>K []
 |t::ts,env,K=>(env.get t).force fun v=>J3 ts env fun e=>K ((t,v)::e)
theorem EZ:∀(ts:List Nat) (env:Env) (K:Env→Prop),J3 ts env K↔K (commit env ts)
 |[],_,_=>Iff.rfl
 |t::ts,env,K=>by
  simp only[J3,force_eq,commit]
  exact EZ ts env _
def Tf:List Nat→Env→Ap→(Env→Ap→Prop)→Prop
 |[],env,s,K=>K env s
 |t::ts,env,s,K=>match env.get t with
  | .own o g off len=>match nth s.σ o with
    |some (.arr g' _ nn cl elems)=>need (g=g'∧cl=true∧off+len≤elems.length) (eqK (sub elems off len) fun xs=>QK s.σ o .dead fun σ=>Tf ts ((t,.sl nn xs)::env) ⟨σ,s.ctr⟩ K)
    |_=>False
  | .ref o g i off=>match nth s.σ o with
    |some (.arr g' _ nn cl elems)=>need (g=g'∧cl=true) (WV elems i fun x=>QK s.σ o .dead fun σ=>Tf ts ((t,.Ci (x.cells.drop off))::env) ⟨σ,s.ctr⟩ K)
    |_=>False
  | .map o g=>match nth s.σ o with
    |some (.mp g' cl ents)=>need (g=g'∧cl=true∧Xa ents=true) (QK s.σ o .dead fun σ=>Tf ts ((t,.fmap ents)::env) ⟨σ,s.ctr⟩ K)
    |_=>False
  | .sl nn xs=>Tf ts ((t,.sl nn xs)::env) s K
  | .zc=>Tf ts ((t,.zc)::env) s K
  |_=>False
theorem E5:∀{ts:List Nat} {env:Env} {s:Ap} {K:Env→Ap→Prop},Tf ts env s K→∃env' s',Hu ts env s=some (env',s')∧K env' s'
 |[],env,s,K,h=>⟨env,s,rfl,h⟩
 |t::ts,env,s,K,h=>by
  simp only[Tf]at h
  split at h
  ·rename_i o g off len hv
   split at h
   ·rename_i g' es nn cl elems ho
    obtain⟨⟨rfl,rfl,hf⟩,xs,rfl,h⟩:=h
    rw[FC]at h
    obtain⟨env',s',h1,h2⟩:=E5 h
    exact⟨env',s',by simp only[Hu,hv,ho,true_and,if_pos hf];exact h1,h2⟩
   ·cases h
  ·rename_i o g i off hv
   split at h
   ·rename_i g' es nn cl elems ho
    obtain⟨⟨rfl,rfl⟩,⟨x,hx,h⟩⟩:=h
    rw[FC]at h
    obtain⟨env',s',h1,h2⟩:=E5 h
    exact⟨env',s',by simp only[Hu,hv,ho,if_pos,hx];exact h1,h2⟩
   ·cases h
  ·rename_i o g hv
   split at h
   ·rename_i g' cl ents ho
    obtain⟨⟨rfl,rfl,hk⟩,h⟩:=h
    rw[FC]at h
    obtain⟨env',s',h1,h2⟩:=E5 h
    exact⟨env',s',by simp only[Hu,hv,ho,true_and,if_pos hk];exact h1,h2⟩
   ·cases h
  ·rename_i nn xs hv
   obtain⟨env',s',h1,h2⟩:=E5 h
   exact⟨env',s',by simp only[Hu,hv];exact h1,h2⟩
  ·rename_i hv
   obtain⟨env',s',h1,h2⟩:=E5 h
   exact⟨env',s',by simp only[Hu,hv];exact h1,h2⟩
  ·cases h
def Ul {α:Type}:Nat→List α→(List α→Prop)→Prop
 |0,_,K=>K []
 |_+1,[],K=>K []
 |n+1,x::xs,K=>Ul n xs fun ys=>K (x::ys)
theorem OU {α:Type}:∀(n:Nat) (l:List α) (K:List α→Prop),Ul n l K↔K (l.take n)
 |0,_,_=>by simp[Ul]
 |_+1,[],_=>by simp[Ul]
 |n+1,x::xs,K=>OU n xs fun ys=>K (x::ys)
def Acx (tr:Option Nat) (s:Ap) (K:Ap→Prop):Prop:=match tr with
 |none=>K s
 |some k=>Ul (kept k s.σ.length) s.σ fun σ=>K ⟨σ,s.ctr⟩
theorem MS (tr:Option Nat) (s:Ap) (K:Ap→Prop):Acx tr s K↔K (truncate tr s):=by
 cases tr with
 |none=>exact Iff.rfl
 |some k=>exact OU _ s.σ _
def Acy (live:List Nat) (tr:Option Nat) (Q:Bd→Env→Ap→Prop) (e:Bd) (env:Env) (s:Ap):Prop:=match e with
 | .normal=>J3 live env fun env=>Acx tr s fun s=>Q .normal env s
 |e=>Q e env s
def AjP (k:Env→Ap→Prop) (Q:Bd→Env→Ap→Prop) (e:Bd) (env:Env) (s:Ap):Prop:=match e with
 | .normal=>k env s
 |e=>Q e env s
def Ah3 (id:Nat) (Q:Bd→Env→Ap→Prop) (e:Bd) (env:Env) (s:Ap):Prop:=match e with
 | .exit j=>Kr (Nat.beq j id) (Q .normal env s) (Q (.exit j) env s)
 |e=>Q e env s
def Vg (AP:Nat→Option H7) (o:CJ) (r g:Nat) (env:Env) (s:Ap) (K:AV→Option (Nat×Obj)→Nat→Prop):Prop:=
 JD AP o env s fun out s'=>match out with
    | .Dp _=>False
    | .ok v=>match o.cls with
      |some .e=>K v none 0
      |some .r=>K v none 0
      |some .w=>match o.writes r env with
       |[t]=>match nth s'.σ t with
        |some ob=>K v (some (t,ob)) 0
        |none=>False
       |_=>False
      |some .a=>match nth s'.σ v.idx with
       |some ob=>bif Nat.blt v.idx s.σ.length then K (v.moved v.idx g) (some (v.idx,ob.PL g)) 1
        else match nth s.σ r with
           |some .dead=>K (v.moved r g) (some (r,ob.PL g)) 1
           |_=>False
       |none=>False
      |none=>False
theorem Vh {o:CJ} {r g:Nat} {env:Env} {s:Ap} {K:AV→Option (Nat×Obj)→Nat→Prop} (h:Vg AP o r g env s K):∃N v u b,IK (run AP N) o r g env s=some (v,u,b)∧K v u b:=by
 obtain⟨N,out,s',h1,h2⟩:=GL h
 cases out with
 |Dp v=>cases h2
 |ok v=>
  simp only at h2
  split at h2
  ·rename_i hc;exact⟨N,_,_,_,by simp only[IK,hc,h1],h2⟩
  ·rename_i hc;exact⟨N,_,_,_,by simp only[IK,hc,h1],h2⟩
  ·rename_i hc
   split at h2
   ·rename_i t ht
    split at h2
    ·rename_i ob hob;exact⟨N,_,_,_,by simp only[IK,hc,h1,ht,hob],h2⟩
    ·cases h2
   ·cases h2
  ·rename_i hc
   split at h2
   ·rename_i ob hob
    cases hb:Nat.blt v.idx s.σ.length
    ·rw[hb,cond_false]at h2
     have hlt:¬v.idx<s.σ.length:=fun hlt=>by
      have:=(show (Nat.blt v.idx s.σ.length=true) from Nat.blt_eq▸hlt)
      rw[hb]at this;cases this
     split at h2
     ·rename_i hd
      exact⟨N,_,_,_,by simp only[IK,hc,h1,hob,if_neg hlt,hd],h2⟩
     ·cases h2
    ·rw[hb,cond_true]at h2
     exact⟨N,_,_,_,by simp only[IK,hc,h1,hob,if_pos (show v.idx<s.σ.length from Nat.blt_eq▸hb)],h2⟩
   ·cases h2
  ·cases h2
def LV (u:Option (Nat×Obj)) (b:Nat) (s:Ap) (K:Ap→Prop):Prop:=match u with
 |some (t,ob)=>QK s.σ t ob fun σ=>K ⟨σ,s.ctr+b⟩
 |none=>K ⟨s.σ,s.ctr+b⟩
theorem PN (u:Option (Nat×Obj)) (b:Nat) (s:Ap) (K:Ap→Prop):LV u b s K↔K (E8 u b s):=by
 unfold LV E8
 split
 ·exact FC _ _ _ _
 ·exact Iff.rfl
def YA (AP:Nat→Option H7) (ops:List Az):Nat→Nat→Env→Ap→(List Eff→Prop)→Prop:=
 List.rec (motive:=fun _=>Nat→Nat→Env→Ap→(List Eff→Prop)→Prop) (fun _ _ _ _ K=>K [])
    (fun o _ ih r g env s K=>FW o.guard env
      (Vg AP o.op r g env s fun v u b=>LV u b s fun s'=>ih (r+rank o.op) (g+1) (put o.dst v env) s' fun es=>K (⟨o.dst,v,o.op.reads r env,o.op.writes r env,u,b⟩::es))
      (ih (r+rank o.op) (g+1) (put o.dst .undef env) s fun es=>K (⟨o.dst,.undef,[],[],none,0⟩::es))) ops
theorem AaJ (o:Az) (os:List Az) (r g:Nat) (env:Env) (s:Ap) (K:List Eff→Prop):YA AP (o::os) r g env s K=FW o.guard env
 (Vg AP o.op r g env s fun v u b=>LV u b s fun s'=>YA AP os (r+rank o.op) (g+1) (put o.dst v env) s' fun es=>K (⟨o.dst,v,o.op.reads r env,o.op.writes r env,u,b⟩::es))
 (YA AP os (r+rank o.op) (g+1) (put o.dst .undef env) s fun es=>K (⟨o.dst,.undef,[],[],none,0⟩::es)):=rfl
theorem MW:∀{os:List Az} {r g:Nat} {env:Env} {s:Ap} {K:List Eff→Prop},YA AP os r g env s K→∃N es,H8 (run AP N) os r g env s=some es∧K es
 |[],r,g,env,s,K,h=>⟨0,_,rfl,h⟩
 |o::os,r,g,env,s,K,h=>by
  have La:wanted o.guard env=some false→(YA AP os (r+rank o.op) (g+1) (put o.dst .undef env) s fun es=>K (⟨o.dst,.undef,[],[],none,0⟩::es))→∃N es,H8 (run AP N) (o::os) r g env s=some es∧K es:=by
   intro hw h
   obtain⟨N,es,h1,h2⟩:=MW h
   exact⟨N,_,by simp only[H8,hw,h1],h2⟩
  have hdo:wanted o.guard env=some true→(Vg AP o.op r g env s fun v u b=>LV u b s fun s'=>YA AP os (r+rank o.op) (g+1) (put o.dst v env) s' fun es=>K (⟨o.dst,v,o.op.reads r env,o.op.writes r env,u,b⟩::es))→∃N es,H8 (run AP N) (o::os) r g env s=some es∧K es:=by
   intro hw h
   obtain⟨N,v,u,b,h1,h2⟩:=Vh h
   rw[PN]at h2
   obtain⟨N',es,h3,h4⟩:=MW h2
   refine⟨max N N',_,?_,h4⟩
   simp only[H8,hw,RQ (BA (Nat.le_max_left N N')) h1,IL (BA (AP:=AP) (Nat.le_max_right N N')) h3]
  rw[AaJ]at h
  unfold FW at h
  split at h
  ·rename_i hg
   exact hdo (by rw[hg];rfl) h
  ·rename_i r' b hg
   split at h
   ·rename_i b' hb
    cases hbb:(b'==b)
    ·rw[hbb]at h
     exact La (by rw[hg];simp only[wanted,hb,hbb]) h
    ·rw[hbb]at h
     exact hdo (by rw[hg];simp only[wanted,hb,hbb]) h
   ·rename_i hb
    exact La (by rw[hg];simp only[wanted,hb]) h
   ·cases h
def Acz {α:Type}:List α→List α→(List α→Prop)→Prop
 |[],ys,K=>K ys
 |x::xs,ys,K=>Acz xs ys fun r=>K (x::r)
theorem Um {α:Type}:∀(xs ys:List α) (K:List α→Prop),Acz xs ys K↔K (xs++ys)
 |[],_,_=>Iff.rfl
 |x::xs,ys,K=>Um xs ys _
def Qs:List Eff→Ap→(Ap→Prop)→Prop
 |[],s,K=>K s
 |e::es,s,K=>LV e.upd e.bump s fun s=>Qs es s K
theorem PO:∀(es:List Eff) (s:Ap) (K:Ap→Prop),Qs es s K↔K (Lc es s)
 |[],_,_=>Iff.rfl
 |e::es,s,K=>by rw[Qs,PN,Lc];exact PO es _ K
def Agu (n:Nat) (σ:List Obj) (K:List Obj→Prop):Prop:=match n with
 |0=>K σ
 |n+1=>Acz σ (List.replicate (n+1) .dead) K
theorem AcA (n:Nat) (σ:List Obj) (K:List Obj→Prop):Agu n σ K↔K (σ++List.replicate n .dead):=by
 cases n with
 |zero=>simp[Agu]
 |succ n=>exact Um _ _ _
def Xb {α:Type}:Nat→List α→(List α→Prop)→Prop
 |0,xs,K=>K xs
 |_+1,[],K=>K []
 |n+1,_::xs,K=>Xb n xs K
theorem Un {α:Type}:∀(n:Nat) (l:List α) (K:List α→Prop),Xb n l K↔K (l.drop n)
 |0,_,_=>by simp[Xb]
 |_+1,[],_=>by simp[Xb]
 |n+1,_::xs,K=>Un n xs K
def AcB (AP:Nat→Option H7) (m:Nat) (un:List (Nat×Nat)) (ops:List Az) (env:Env) (s:Ap) (K:Env→Ap→Prop):Prop:=
 Ul m ops fun hd=>Agu (ranks hd) s.σ fun σ=>YA AP hd s.σ.length s.ctr env ⟨σ,s.ctr+m⟩ fun es=>
    need (Ju es un=true) (Qs es ⟨σ,s.ctr+m⟩ fun s1=>K (MX es env) s1)
theorem Xc {m:Nat} {un:List (Nat×Nat)} {ops:List Az} {env:Env} {s:Ap} {K:Env→Ap→Prop} (h:AcB AP m un ops env s K):∃N BR s1,Ld (run AP N) m un ops env s=some (BR,s1)∧K BR s1:=by
 unfold AcB at h
 rw[OU,AcA]at h
 obtain⟨N,es,h1,h2,h3⟩:=MW h
 rw[PO]at h3
 exact⟨N,_,_,by simp only[Ld,h1,if_pos h2],h3⟩
def AcC (AP:Nat→Option H7) (op:CJ) (env:Env) (v:AV):List Ap→Prop→Prop
 |[],T=>T
 |S::r,T=>JD AP op env S fun out _=>match out with
  | .ok u=>need (FQ u v=true) (AcC AP op env v r T)
  | .Dp _=>False
def AcD (AP:Nat→Option H7) (S:Ap):List (CJ×Env×AV)→Prop→Prop
 |[],T=>T
 |(op,env,v)::r,T=>JD AP op env S fun out _=>match out with
  | .ok u=>need (FQ u v=true) (AcD AP S r T)
  | .Dp _=>False
theorem PS {op:CJ} {env:Env} {v:AV}:∀{past:List Ap} {T:Prop},AcC AP op env v past T→(∃ N,J4 (run AP N) op env v past=true)∧T
 |[],T,h=>⟨⟨0,rfl⟩,h⟩
 |S::r,T,h=>by
  obtain⟨N,out,s',h1,h2⟩:=GL h
  cases out with
  |Dp u=>exact h2.elim
  |ok u=>
   obtain⟨h3,h4⟩:=h2
   obtain⟨⟨N',h5⟩,h6⟩:=PS h4
   refine⟨⟨max N N',?_⟩,h6⟩
   simp only[J4,Ce (BA (Nat.le_max_left N N')) h1,h3,I9 (BA (Nat.le_max_right N N')) h5,Bool.and_self]
theorem PU {S:Ap}:∀{pend:List (CJ×Env×AV)} {T:Prop},AcD AP S pend T→(∃ N,J5 (run AP N) S pend=true)∧T
 |[],T,h=>⟨⟨0,rfl⟩,h⟩
 |(op,env,v)::r,T,h=>by
  obtain⟨N,out,s',h1,h2⟩:=GL h
  cases out with
  |Dp u=>exact h2.elim
  |ok u=>
   obtain⟨h3,h4⟩:=h2
   obtain⟨⟨N',h5⟩,h6⟩:=PU h4
   refine⟨⟨max N N',?_⟩,h6⟩
   simp only[J5,Ce (BA (Nat.le_max_left N N')) h1,h3,Ja (BA (Nat.le_max_right N N')) h5,Bool.and_self]
def Le (AP:Nat→Option H7) (E:List Nat) (ops:List Az):Nat→Env→Ap→Prop→Prop:=
 List.rec (motive:=fun _=>Nat→Env→Ap→Prop→Prop) (fun _ _ _ T=>T)
    (fun o _ ih i env s T=>bif DK i E then FW o.guard env
      (JD AP o.op env s fun out _=>match out with
        | .ok v=>bif flt o then ih (i+1) (put o.dst v env) s T else False
        | .Dp _=>False)
      (ih (i+1) (put o.dst .undef env) s T)
      else ih (i+1) env s T) ops
theorem Xd (E:List Nat) (o:Az) (os:List Az) (i:Nat) (env:Env) (s:Ap) (T:Prop):Le AP E (o::os) i env s T=bif DK i E then FW o.guard env
        (JD AP o.op env s fun out _=>match out with
          | .ok v=>bif flt o then Le AP E os (i+1) (put o.dst v env) s T else False
          | .Dp _=>False)
        (Le AP E os (i+1) (put o.dst .undef env) s T)
 else Le AP E os (i+1) env s T:=rfl
theorem Ii {E:List Nat}:∀{os:List Az} {i:Nat} {env:Env} {s:Ap} {T:Prop},Le AP E os i env s T→(∃ N,Es (run AP N) E os i env s=true)∧T
 |[],i,env,s,T,h=>⟨⟨0,rfl⟩,h⟩
 |o::os,i,env,s,T,h=>by
  rw[Xd]at h
  cases hm:DK i E with
  |false=>
   rw[hm,cond_false]at h
   obtain⟨⟨N,h1⟩,h2⟩:=Ii h
   exact⟨⟨N,by simp only[Es,hm,Bool.false_eq_true,if_false];exact h1⟩,h2⟩
  |true=>
   rw[hm,cond_true]at h
   have La:wanted o.guard env=some false→Le AP E os (i+1) (put o.dst .undef env) s T→(∃ N,Es (run AP N) E (o::os) i env s=true)∧T:=by
        intro hw h
        obtain⟨⟨N,h1⟩,h2⟩:=Ii h
        exact⟨⟨N,by simp only[Es,hm,if_true,hw];exact h1⟩,h2⟩
   have hdo:wanted o.guard env=some true→(JD AP o.op env s fun out _=>match out with
    | .ok v=>bif flt o then Le AP E os (i+1) (put o.dst v env) s T else False
    | .Dp _=>False)→(∃ N,Es (run AP N) E (o::os) i env s=true)∧T:=by
        intro hw h
        obtain⟨N,out,s1,h1,h2⟩:=GL h
        cases out with
        |Dp v=>exact h2.elim
        |ok v=>
         dsimp only at h2
         cases hf:flt o with
         |false=>rw[hf]at h2;exact h2.elim
         |true=>
          rw[hf,cond_true]at h2
          obtain⟨⟨N',h3⟩,h4⟩:=Ii h2
          refine⟨⟨max N N',?_⟩,h4⟩
          simp only[Es,hm,if_true,hw,Ce (BA (AP:=AP) (Nat.le_max_left N N')) h1,hf,Fj (BA (AP:=AP) (Nat.le_max_right N N')) h3,Bool.and_self]
   unfold FW at h
   split at h
   ·rename_i hg
    exact hdo (by rw[hg];rfl) h
   ·rename_i r b hg
    split at h
    ·rename_i b' hb
     cases hbb:(b'==b)
     ·rw[hbb]at h
      exact La (by rw[hg];simp only[wanted,hb,hbb]) h
     ·rw[hbb]at h
      exact hdo (by rw[hg];simp only[wanted,hb,hbb]) h
    ·rename_i hb
     exact La (by rw[hg];simp only[wanted,hb]) h
    ·cases h
def Xe (AP:Nat→Option H7) (m:Nat) (W pc:List Nat) (o:Az) (os:List Az) (i:Nat) (k:Env→Ap→List (CJ×Env×AV)→List Ap→Prop) (Q:Bd→Env→Ap→Prop) (env:Env) (s:Ap) (pend:List (CJ×Env×AV)) (past:List Ap) (out:AA) (s1:Ap):Prop:=match out with
 | .Dp v=>match pc with
   |p::E=>bif Nat.beq i p&&!(DK i W||(flt o||Nat.blt i m))then Le AP E os (i+1) env s (Q (.Dp v) [] s1)else False
   |[]=>False
 | .ok v=>bif DK i W then bif o.op.Fz then AcC AP o.op env v past (k (put o.dst v env) s ((o.op,env,v)::pend) past)else False
   else bif flt o||Nat.blt i m then k (put o.dst v env) s pend past
   else AcD AP s1 pend (k (put o.dst v env) s1 pend (s::past))
def YB (AP:Nat→Option H7) (m:Nat) (W pc:List Nat) (ops:List Az):Nat→Env→Ap→List (CJ×Env×AV)→List Ap→(Bd→Env→Ap→Prop)→Prop:=
 List.rec (motive:=fun _=>Nat→Env→Ap→List (CJ×Env×AV)→List Ap→(Bd→Env→Ap→Prop)→Prop) (fun _ env s _ _ K=>K .normal env s)
    (fun o os ih i env s pend past K=>FW o.guard env (JD AP o.op env s (Xe AP m W pc o os i (fun env s pend past=>ih (i+1) env s pend past K) K env s pend past))
      (ih (i+1) (put o.dst .undef env) s pend past K)) ops
theorem AaK (m:Nat) (W pc:List Nat) (o:Az) (os:List Az) (i:Nat) (env:Env) (s:Ap) (pend:List (CJ×Env×AV)) (past:List Ap) (K:Bd→Env→Ap→Prop):YB AP m W pc (o::os) i env s pend past K=FW o.guard env
 (JD AP o.op env s (Xe AP m W pc o os i (fun env s pend past=>YB AP m W pc os (i+1) env s pend past K) K env s pend past))
 (YB AP m W pc os (i+1) (put o.dst .undef env) s pend past K):=rfl
theorem IQ {m:Nat} {W pc:List Nat}:∀{os:List Az} {i:Nat} {env:Env} {s:Ap} {pend:List (CJ×Env×AV)} {past:List Ap} {K:Bd→Env→Ap→Prop},YB AP m W pc os i env s pend past K→∃N x env' s',Gj (run AP N) m W pc os i env s pend past=some (x,env',s')∧K x env' s'
 |[],i,env,s,pend,past,K,h=>⟨0,_,_,_,rfl,h⟩
 |o::os,i,env,s,pend,past,K,h=>by
  have La:wanted o.guard env=some false→YB AP m W pc os (i+1) (put o.dst .undef env) s pend past K→∃N x env' s',Gj (run AP N) m W pc (o::os) i env s pend past=some (x,env',s')∧K x env' s':=by
   intro hw h
   obtain⟨N,x,env',s',h1,h2⟩:=IQ h
   exact⟨N,x,env',s',by simp only[Gj,hw];exact h1,h2⟩
  have hdo:wanted o.guard env=some true→JD AP o.op env s (Xe AP m W pc o os i (fun env s pend past=>YB AP m W pc os (i+1) env s pend past K) K env s pend past)→∃N x env' s',Gj (run AP N) m W pc (o::os) i env s pend past=some (x,env',s')∧K x env' s':=by
   intro hw h
   obtain⟨N,out,s1,h1,h2⟩:=GL h
   cases out with
   |Dp v=>
    simp only[Xe]at h2
    cases pc with
    |nil=>exact h2.elim
    |cons p E=>
     dsimp only at h2
     cases hc:(Nat.beq i p&&!(DK i W||(flt o||Nat.blt i m)))with
     |false=>rw[hc]at h2;exact h2.elim
     |true=>
      rw[hc,cond_true]at h2
      obtain⟨⟨N1,h3⟩,h4⟩:=Ii h2
      refine⟨max N N1,_,_,_,?_,h4⟩
      simp only[Gj,hw,Ce (BA (AP:=AP) (Nat.le_max_left N N1)) h1,hc,Fj (BA (AP:=AP) (Nat.le_max_right N N1)) h3,Bool.and_self,if_true]
   |ok v=>
    simp only[Xe]at h2
    cases hm:DK i W with
    |true=>
     rw[hm,cond_true]at h2
     cases hp:o.op.Fz with
     |false=>rw[hp]at h2;exact h2.elim
     |true=>
      rw[hp,cond_true]at h2
      obtain⟨⟨N1,h3⟩,h4⟩:=PS h2
      obtain⟨N2,x,env',s',h5,h6⟩:=IQ h4
      refine⟨max N (max N1 N2),x,env',s',?_,h6⟩
      simp only[Gj,hw,Ce (BA (AP:=AP) (Nat.le_max_left N (max N1 N2))) h1,hm,hp,I9 (BA (AP:=AP) (show N1≤max N (max N1 N2) by omega)) h3,Bool.and_self,if_true]
      exact Et (BA (show N2≤max N (max N1 N2) by omega)) h5
    |false=>
     rw[hm,cond_false]at h2
     cases hf:(flt o||Nat.blt i m)with
     |true=>
      rw[hf,cond_true]at h2
      obtain⟨N2,x,env',s',h5,h6⟩:=IQ h2
      refine⟨max N N2,x,env',s',?_,h6⟩
      simp only[Gj,hw,Ce (BA (AP:=AP) (Nat.le_max_left N N2)) h1,hm,hf,if_true,Bool.false_eq_true,if_false]
      exact Et (BA (Nat.le_max_right N N2)) h5
     |false=>
      rw[hf,cond_false]at h2
      obtain⟨⟨N1,h3⟩,h4⟩:=PU h2
      obtain⟨N2,x,env',s',h5,h6⟩:=IQ h4
      refine⟨max N (max N1 N2),x,env',s',?_,h6⟩
      simp only[Gj,hw,Ce (BA (AP:=AP) (Nat.le_max_left N (max N1 N2))) h1,hm,hf,Ja (BA (AP:=AP) (show N1≤max N (max N1 N2) by omega)) h3,if_true,Bool.false_eq_true,if_false]
      exact Et (BA (show N2≤max N (max N1 N2) by omega)) h5
  rw[AaK]at h
  unfold FW at h
  split at h
  ·rename_i hg
   exact hdo (by rw[hg];rfl) h
  ·rename_i r b hg
   split at h
   ·rename_i b' hb
    cases hbb:(b'==b)
    ·rw[hbb]at h
     exact La (by rw[hg];simp only[wanted,hb,hbb]) h
    ·rw[hbb]at h
     exact hdo (by rw[hg];simp only[wanted,hb,hbb]) h
   ·rename_i hb
    exact La (by rw[hg];simp only[wanted,hb]) h
   ·cases h
def AcE (v:AV) (A B:Prop):Prop:=match v with
 | .bool c=>Kr c A B
 |_=>False
def vC (AP:Nat→Option H7) (c:CS):Env→Ap→(Bd→Env→Ap→Prop)→Prop:=
 CS.rec (motive:=fun _=>Env→Ap→(Bd→Env→Ap→Prop)→Prop)
    (fun env s Q=>Q .normal env s)
    (fun _ JC ops live tr env s Q=>Tf JC env s fun env s=>W9 AP ops env s (Acy live tr Q))
    (fun m un JC ops live tr env s Q=>Tf JC env s fun env s=>AcB AP m un ops env s fun BR s1=>Xb m ops fun tl=>W9 AP tl BR s1 (Acy live tr Q))
    (fun m W pc JC ops live tr env s Q=>Tf JC env s fun env s=>YB AP m W pc ops 0 env s [] [] (Acy live tr Q))
    (fun _ _ iha ihb env s Q=>iha env s (AjP (fun env s=>ihb env s Q) Q))
    (fun c _ _ iha ihb env s Q=>AcE (c.val env) (iha env s Q) (ihb env s Q))
    (fun id _ iha env s Q=>iha env s (Ah3 id Q))
    (fun live a _ env s Q=>J3 live env fun env=>Run AP (.loop live a) env s Q)
    (fun id env s Q=>Q (.exit id) env s)
    (fun env s Q=>Q .ret env s) c
theorem RS {env:Env} {t:Nat}:∀{ts:List Nat},t∈ts→(commit env ts).get t=env.get t
 |[],h=>by simp at h
 |t'::ts,h=>by
  simp only[commit,Env.get]
  cases hb:Nat.beq t' t
  ·have hne:t≠t':=fun e=>by subst e;simp at hb
   rw[cond_false]
   exact RS ((List.mem_cons.1 h).resolve_left hne)
  ·rw[cond_true,Nat.eq_of_beq_eq_true hb]
theorem Ob {env env':Env}:∀{ts:List Nat},(∀ t∈ts,env.get t=env'.get t)→commit env ts=commit env' ts
 |[],_=>rfl
 |t::ts,h=>by simp only[commit];rw[h t (by simp),Ob fun t' h'=>h t' (by simp[h'])]
theorem Ti (env:Env) (ts:List Nat):commit (commit env ts) ts=commit env ts:=Ob fun _ h=>RS h
theorem PV {live:List Nat} {a:CS} {env:Env} {s:Ap} {Q:Bd→Env→Ap→Prop} (h:Run AP (.loop live a) (commit env live) s Q):Run AP (.loop live a) env s Q:=by
 obtain⟨N,e,env',s',h1,h2⟩:=h
 refine⟨N,e,env',s',?_,h2⟩
 simp only[Fa]at h1 ⊢
 cases N with
 |zero=>simp[iter]at h1
 |succ N=>
  simp only[iter,Ti]at h1 ⊢
  exact h1
theorem Jm:∀{c:CS} {env:Env} {s:Ap} {Q:Bd→Env→Ap→Prop},vC AP c env s Q→Run AP c env s Q:=by
 intro c
 induction c with
 |skip=>intro env s Q h;exact⟨0,_,_,_,rfl,h⟩
 |exit id=>intro env s Q h;exact⟨0,_,_,_,rfl,h⟩
 |ret=>intro env s Q h;exact⟨0,_,_,_,rfl,h⟩
 |region hd JC ops live tr=>
  intro env s Q h
  obtain⟨BR,s1,h1,h2⟩:=E5 h
  obtain⟨N,e,DJ,s2,h3,h4⟩:=JZ h2
  cases e with
  |normal=>exact⟨N,_,_,_,by simp only[Fa,h1,h3],(MS _ _ _).1 ((EZ _ _ _).1 h4)⟩
  |exit id=>exact⟨N,_,_,_,by simp only[Fa,h1,h3],h4⟩
  |ret=>exact⟨N,_,_,_,by simp only[Fa,h1,h3],h4⟩
  |Dp v=>exact⟨N,_,_,_,by simp only[Fa,h1,h3],h4⟩
 |mix m W pc JC ops live tr=>
  intro env s Q h
  obtain⟨BR,s1,h1,h2⟩:=E5 h
  obtain⟨N,e,DJ,s2,h3,h4⟩:=IQ h2
  cases e with
  |normal=>exact⟨N,_,_,_,by simp only[Fa,h1,h3],(MS _ _ _).1 ((EZ _ _ _).1 h4)⟩
  |exit id=>exact⟨N,_,_,_,by simp only[Fa,h1,h3],h4⟩
  |ret=>exact⟨N,_,_,_,by simp only[Fa,h1,h3],h4⟩
  |Dp v=>exact⟨N,_,_,_,by simp only[Fa,h1,h3],h4⟩
 |par m un JC ops live tr=>
  intro env s Q h
  obtain⟨BR,s1,h1,h2⟩:=E5 h
  obtain⟨N',Ah4,s1',hh,h2⟩:=Xc h2
  rw[Un]at h2
  obtain⟨N,e,DJ,s2,h3,h4⟩:=JZ h2
  have hh':Ld (run AP (max N N')) m un ops BR s1=some (Ah4,s1'):=by
   unfold Ld at hh ⊢
   split at hh
   ·rename_i es hes
    rw[IL (BA (Nat.le_max_right N N')) hes]
    exact hh
   ·cases hh
  have h3':=EY (BA (AP:=AP) (Nat.le_max_left N N')) h3
  cases e with
  |normal=>exact⟨max N N',_,_,_,by simp only[Fa,h1,hh',h3'],(MS _ _ _).1 ((EZ _ _ _).1 h4)⟩
  |exit id=>exact⟨max N N',_,_,_,by simp only[Fa,h1,hh',h3'],h4⟩
  |ret=>exact⟨max N N',_,_,_,by simp only[Fa,h1,hh',h3'],h4⟩
  |Dp v=>exact⟨max N N',_,_,_,by simp only[Fa,h1,hh',h3'],h4⟩
 |seq a b iha ihb=>
  intro env s Q h
  obtain⟨N,e,BR,s1,h1,h2⟩:=iha h
  cases e with
  |normal=>
   obtain⟨N',e',DJ,s2,h3,h4⟩:=ihb h2
   have h1':=DV (BA (AP:=AP) (Nat.le_max_left N N')) (Nat.le_max_left N N') h1
   have h3':=DV (BA (AP:=AP) (Nat.le_max_right N N')) (Nat.le_max_right N N') h3
   exact⟨max N N',e',DJ,s2,by simp only[Fa,h1',h3'],h4⟩
  |exit id=>exact⟨N,_,_,_,by simp only[Fa,h1],h2⟩
  |ret=>exact⟨N,_,_,_,by simp only[Fa,h1],h2⟩
  |Dp v=>exact⟨N,_,_,_,by simp only[Fa,h1],h2⟩
 |cond c a b iha ihb=>
  intro env s Q h
  change AcE (c.val env) (vC AP a env s Q) (vC AP b env s Q)at h
  unfold AcE at h
  split at h
  ·rename_i c' hc
   cases c'
   ·obtain⟨N,e,BR,s1,h1,h2⟩:=ihb h
    exact⟨N,e,BR,s1,by simp only[Fa,hc,h1],h2⟩
   ·obtain⟨N,e,BR,s1,h1,h2⟩:=iha h
    exact⟨N,e,BR,s1,by simp only[Fa,hc,h1],h2⟩
  ·cases h
 |block id a iha=>
  intro env s Q h
  obtain⟨N,e,BR,s1,h1,h2⟩:=iha h
  cases e with
  |normal=>exact⟨N,_,_,_,by simp only[Fa,h1],h2⟩
  |exit j=>
   simp only[Ah3]at h2
   cases hb:Nat.beq j id
   ·rw[hb]at h2
    have hne:j≠id:=fun e=>by subst e;simp at hb
    exact⟨N,_,_,_,by simp only[Fa,h1,if_neg hne],h2⟩
   ·rw[hb]at h2
    exact⟨N,_,_,_,by simp only[Fa,h1,if_pos (Nat.eq_of_beq_eq_true hb)],h2⟩
  |ret=>exact⟨N,_,_,_,by simp only[Fa,h1],h2⟩
  |Dp v=>exact⟨N,_,_,_,by simp only[Fa,h1],h2⟩
 |loop live a iha=>
  intro env s Q h
  exact PV ((EZ _ _ _).1 h)
def AcF (AP:Nat→Option H7) (live:List Nat) (a:CS) (Q:Bd→Env→Ap→Prop) (e:Bd) (env:Env) (s:Ap):Prop:=match e with
 | .normal=>J3 live env fun env=>Run AP (.loop live a) env s Q
 |e=>Q e env s
def AdH (fn:Hf) (K:AA→Ap→Prop) (e:Bd) (env:Env) (s:Ap):Prop:=match e with
 | .normal=>Kv (Ej env s fn.results) fun vs=>K (.ok (H9 vs)) s
 | .ret=>Kv (Ej env s fn.results) fun vs=>K (.ok (H9 vs)) s
 | .Dp v=>K (.Dp v) s
 | .exit _=>False
theorem QO {f:Nat} {fn:Hf} {args:List AV} {s:Ap} {K:AA→Ap→Prop} (hf:AP f=some (.code fn)) (hl:args.length=fn.np) (h:Run AP fn.body (params args 0) s (AdH fn K)):AQ AP f args s K:=by
 obtain⟨N,e,env,s',h1,h2⟩:=h
 cases e with
 |normal=>
  obtain⟨vs,h3,h4⟩:=h2
  exact⟨N+1,_,_,by simp only[run,hf,if_pos hl,evF,h1,h3,Option.map_some],h4⟩
 |ret=>
  obtain⟨vs,h3,h4⟩:=h2
  exact⟨N+1,_,_,by simp only[run,hf,if_pos hl,evF,h1,h3,Option.map_some],h4⟩
 |Dp v=>exact⟨N+1,_,_,by simp only[run,hf,if_pos hl,evF,h1],h2⟩
 |exit id=>cases h2
end AI
end Go.Proofs.YtgmgkkbpgndaaaaGreatDoor
namespace Go.Proofs.YtgmgkkbpgndaaaaGreatDoor
namespace AI
open Go.RowKit
variable {AP:Nat→Option H7}
def Ah5 (live:List Nat) (I:Env→Ap→Prop) (Q:Bd→Env→Ap→Prop) (e:Bd) (env:Env) (s:Ap):Prop:=match e with
 | .normal=>J3 live env fun env=>I env s
 |e=>Q e env s
structure again (I:Nat→Env→Ap→Prop) (m:Nat) (env:Env) (s:Ap):Prop where
 mk::(h:∃m',m'<m∧I m' env s)
theorem Ak {live:List Nat} {a:CS} {Q:Bd→Env→Ap→Prop} (I:Nat→Env→Ap→Prop)
 (hI:∀m env s,I m env s→commit env live=env∧vC AP a env s (Ah5 live (again I m) Q)):
 ∀m env s,I m env s→Run AP (.loop live a) env s Q:=by
 intro m
 induction m using Nat.strongRecOn with
 |ind m ih=>
  intro env s h
  obtain⟨hc,h1⟩:=hI m env s h
  obtain⟨N,e,BR,s1,h2,h3⟩:=Jm h1
  have hr:Run AP a env s (AcF AP live a Q):=by
   refine⟨N,e,BR,s1,h2,?_⟩
   cases e with
   |normal=>
    simp only[Ah5,AcF,EZ]at h3 ⊢
    obtain⟨m',hm,h4⟩:=h3
    exact ih m' hm _ _ h4
   |exit id=>exact h3
   |ret=>exact h3
   |Dp v=>exact h3
  obtain⟨N,e,BR,s1,h1,h2⟩:=hr
  cases e with
  |normal=>
   obtain⟨N',e',DJ,s2,h3,h4⟩:=PV ((EZ _ _ _).1 h2)
   refine⟨max N N'+1,e',DJ,s2,?_,h4⟩
   have h1':=DV (BA (AP:=AP) (show N≤max N N'+1 by omega)) (show N≤max N N'+1 by omega) h1
   simp only[Fa]at h3 ⊢
   rw[iter.eq_2]
   rw[hc,h1']
   exact OV (fun env s r hr=>DV (BA (by omega)) (by omega) hr) (by omega) h3
  |exit id=>exact⟨N+1,_,_,_,by simp only[Fa,iter.eq_2,hc,DV (BA (AP:=AP) (Nat.le_succ N)) (Nat.le_succ N) h1],h2⟩
  |ret=>exact⟨N+1,_,_,_,by simp only[Fa,iter.eq_2,hc,DV (BA (AP:=AP) (Nat.le_succ N)) (Nat.le_succ N) h1],h2⟩
  |Dp v=>exact⟨N+1,_,_,_,by simp only[Fa,iter.eq_2,hc,DV (BA (AP:=AP) (Nat.le_succ N)) (Nat.le_succ N) h1],h2⟩
structure Af (AP:Nat→Option H7) (f:Nat) (args:List AV) (R:AV→Prop):Prop where
 mk::(h:∃v,Pure AP f args v∧R v)
def Agv (R:AV→Prop) (out:AA) (s:Ap):Prop:=match out with
 | .ok r=>ZI s.σ EC r R
 | .Dp _=>False
theorem Ac {f:Nat} {fn:Hf} {args:List AV} {R:AV→Prop} (hf:AP f=some (.code fn)) (hl:args.length=fn.np) (h:vC AP fn.body (params args 0) ⟨[],0⟩ (AdH fn (Agv R))):Af AP f args R:=by
 obtain⟨N,out,s',h1,h2⟩:=QO hf hl (Jm h)
 cases out with
 |ok r=>
  have h2:ZI s'.σ EC r R:=h2
  obtain⟨v,h3,h4⟩:=WX h2
  exact⟨v,⟨N,by simp only[Ew,h1];exact h3⟩,h4⟩
 |Dp r=>cases h2
theorem Aa {f:Nat} {args:List AV} {R:AV→Prop} {K:AV→Prop} (h:Af AP f args R) (h2:∀v,R v→K v):ZE AP f args K:=by
 obtain⟨v,h3,h4⟩:=h
 exact⟨v,h3,h2 v h4⟩
theorem BM {f:Nat} {args:List AV} {p:Prop} [Decidable p] {K:AV→Prop} (h:Af AP f args (· =.bool (decide p))) (h1:p→K (.bool true)) (h2:¬p→K (.bool false)):ZE AP f args K:=by
 refine Aa h ?_
 rintro _ rfl
 by_cases hp:p
 ·rw[decide_eq_true hp];exact h1 hp
 ·rw[decide_eq_false hp];exact h2 hp
theorem AQ.mono {f:Nat} {args:List AV} {s:Ap} {K K':AA→Ap→Prop} (h:AQ AP f args s K) (hk:∀out s,K out s→K' out s):AQ AP f args s K':=by
 obtain⟨N,out,s',h1,h2⟩:=h
 exact⟨N,out,s',h1,hk _ _ h2⟩
theorem Bv {p:Prop} [Decidable p] (h:p):AV.bool true=AV.bool (decide p):=by rw[decide_eq_true h]
theorem AB {p:Prop} [Decidable p] (h:¬p):AV.bool false=AV.bool (decide p):=by rw[decide_eq_false h]
theorem Af.mono {f:Nat} {args:List AV} {R R':AV→Prop} (h:Af AP f args R) (h2:∀v,R v→R' v):Af AP f args R':=by
 obtain⟨v,h3,h4⟩:=h
 exact⟨v,h3,h2 v h4⟩
theorem Am {f:Nat} {fn:Hf} {args:List AV} {s:Ap} {K:AA→Ap→Prop} (hf:AP f=some (.code fn)) (hl:args.length=fn.np) (h:vC AP fn.body (params args 0) s (AdH fn K)):AQ AP f args s K:=
 QO hf hl (Jm h)
end AI
end Go.Proofs.YtgmgkkbpgndaaaaGreatDoor
namespace Go.Proofs.YtgmgkkbpgndaaaaGreatDoor
namespace AI
def ints (l:List Int):List AV:=l.map (.int .i64)
@[simp] theorem lI (l:List Int):(ints l).length=l.length:=by simp[ints]
theorem AcG {l:List Int} {i:Nat} {x:Int} (h:l[i]?=some x):nth (ints l) i=some (.int .i64 x):=by simp[ints,AX,h]
theorem nI {l:List Int} {i:Nat} (h:i<l.length):nth (ints l) i=some (.int .i64 l[i]):=AcG (List.getElem?_eq_getElem h)
theorem wrap_i64 {z:Int} (h:-2^63≤z) (h2:z<2^63):IntKind.i64.wrap z=z:=by
 rw[IntKind.wrap_i64];omega
theorem nIN {l:List Int} {i:Nat} (h:i<l.length):nth (ints l) (Int.toNat (Nat.cast i))=some (.int .i64 l[i]):=nI h
theorem WM {es:Nat} {x:AV} (h:x.cells.length=es):Bo es [x]:=by intro y hy;simp at hy;exact hy▸h
theorem Jr {b n:Nat} (h:n*b≤2 ^ 46):roomy b n:=Nat.le_trans h (by decide)
def iss (E:List (Bool×List Int)):List AV:=E.map fun p=>.sl p.1 (ints p.2)
@[simp] theorem lS (E:List (Bool×List Int)):(iss E).length=E.length:=by simp[iss]
theorem nS {E:List (Bool×List Int)} {i:Nat} (h:i<E.length):nth (iss E) i=some (.sl E[i].1 (ints E[i].2)):=by simp[iss,AX,h]
theorem nSN {E:List (Bool×List Int)} {i:Nat} (h:i<E.length):nth (iss E) (Int.toNat (Nat.cast i))=some (.sl E[i].1 (ints E[i].2)):=nS h
theorem CW {α:Type} {l:List α} {i:Nat} (h:¬(i:Int)<(l.length:Int)):l.take i=l:=List.take_of_length_le (by omega)
theorem BF {α:Type} {p:α→Prop} {l:List α} {i:Nat} (h:i<l.length) (h1:∀x∈l.take i,p x) (h2:p l[i]):∀x∈l.take (i+1),p x:=by
 intro x hx
 rw[List.take_succ_eq_append_getElem h,List.mem_append,List.mem_singleton]at hx
 rcases hx with hx|rfl
 ·exact h1 x hx
 ·exact h2
theorem tIN {l:List Int} {i:Nat} {x y:Int}:(ints l).set (Int.toNat (Nat.cast i)) (BI (.int .i64 x) 0 (.int .i64 y))=ints (l.set i y):=by
 simp[ints,BI,AV.cells,List.map_set]
theorem tI {l:List Int} {i:Nat} {x y:Int}:(ints l).set i (BI (.int .i64 x) 0 (.int .i64 y))=ints (l.set i y):=tIN
theorem uI {l:List Int}:sub (ints l) 0 l.length=ints l:=by
 unfold sub;rw[List.drop_zero,List.take_of_length_le (by simp)]
theorem uS {l:List (Bool×List Int)}:sub (iss l) 0 l.length=iss l:=by
 unfold sub;rw[List.drop_zero,List.take_of_length_le (by simp)]
theorem uIS {l:List Int} {x:Int}:sub (ints (l++[x])) 0 (l.length+1)=ints (l++[x]):=by
 have:=uI (l:=l++[x]);rwa [List.length_append]at this
theorem uSS {l:List (Bool×List Int)} {x:Bool×List Int}:sub (iss (l++[x])) 0 (l.length+1)=iss (l++[x]):=by
 have:=uS (l:=l++[x]);rwa [List.length_append]at this
theorem rIN (n:Nat) (z:Int):List.replicate (Int.toNat (Nat.cast n)) (AV.int .i64 z)=ints (List.replicate n z):=by simp[ints]
theorem rI (n:Nat) (z:Int):List.replicate n (AV.int .i64 z)=ints (List.replicate n z):=by simp[ints]
theorem nY {l:List UInt8} {i:Nat} (h:i<l.length):nth l i=some l[i]:=by simp[AX,h]
theorem nYN {l:List UInt8} {i:Nat} (h:i<l.length):nth l (Int.toNat (Nat.cast i))=some l[i]:=nY h
def bools (l:List Bool):List AV:=l.map .bool
@[simp] theorem lB (l:List Bool):(bools l).length=l.length:=by simp[bools]
theorem nB {l:List Bool} {i:Nat} (h:i<l.length):nth (bools l) i=some (.bool l[i]):=by simp[bools,AX,h]
theorem nBN {l:List Bool} {i:Nat} (h:i<l.length):nth (bools l) (Int.toNat (Nat.cast i))=some (.bool l[i]):=nB h
theorem tBN {l:List Bool} {i:Nat} {x y:Bool}:(bools l).set (Int.toNat (Nat.cast i)) (BI (.bool x) 0 (.bool y))=bools (l.set i y):=by
 simp[bools,BI,AV.cells,List.map_set]
theorem tB {l:List Bool} {i:Nat} {x y:Bool}:(bools l).set i (BI (.bool x) 0 (.bool y))=bools (l.set i y):=tBN
theorem uB {l:List Bool}:sub (bools l) 0 l.length=bools l:=by
 unfold sub;rw[List.drop_zero,List.take_of_length_le (by simp)]
theorem rBN (n:Nat) (z:Bool):List.replicate (Int.toNat (Nat.cast n)) (AV.bool z)=bools (List.replicate n z):=by simp[bools]
section
variable {α β:Type} [DecidableEq α] {fk:α→AV} {fv:β→AV} {t:JH}
def RU (fk:α→AV) (fv:β→AV) (M:List (α×β)):List (AV×AV):=M.map fun p=>(fk p.1,fv p.2)
def P6:List (α×β)→α→Option β
 |[],_=>none
 |(k',v)::M,k=>if k=k' then some v else P6 M k
def P7:List (α×β)→α→β→List (α×β)
 |[],k,v=>[(k,v)]
 |(k',v')::M,k,v=>if k=k' then(k,v)::M else(k',v')::P7 M k v
theorem J6 (hk:∀a b,CV t (fk a) (fk b)=some (decide (a=b))) (k:α):∀(M:List (α×β)) (i:Nat),
 (P6 M k=none∧findKey t (fk k) (RU fk fv M) i=some none∧P7 M k=fun v=>M++[(k,v)])∨
 ∃j v,P6 M k=some v∧findKey t (fk k) (RU fk fv M) i=some (some (i+j,fv v))∧P7 M k=fun v=>M.set j (k,v)
 |[],i=>.inl ⟨rfl,rfl,rfl⟩
 |(a,b)::M,i=>by
  by_cases h:k=a
  ·subst h
   refine .inr ⟨0,b,by simp[P6],?_,by funext v;simp[P7]⟩
   simp only[RU,List.map_cons,findKey,hk,decide_true,Nat.add_zero]
  ·rcases J6 hk k M (i+1)with⟨h1,h2,h3⟩|⟨j,v,h1,h2,h3⟩
   ·refine .inl ⟨by simp[P6,h,h1],?_,by funext v;simp[P7,h,h3]⟩
    simp only[RU,List.map_cons,findKey,hk,decide_eq_false h]at h2 ⊢
    exact h2
   ·refine .inr ⟨j+1,v,by simp[P6,h,h1],?_,by funext v;simp[P7,h,h3]⟩
    simp only[RU,List.map_cons,findKey,hk,decide_eq_false h]at h2 ⊢
    rw[h2];congr 3;omega
theorem YC (hk:∀a b,CV t (fk a) (fk b)=some (decide (a=b))) {M:List (α×β)} {k:α} {K:Option (Nat×AV)→Prop}
 (h1:P6 M k=none→K none) (h2:∀i v,P6 M k=some v→K (some (i,fv v))):TF t (fk k) (RU fk fv M) K:=by
 rcases J6 (fv:=fv) hk k M 0 with⟨g1,g2,_⟩|⟨j,v,g1,g2,_⟩
 ·exact⟨_,g2,h1 g1⟩
 ·exact⟨_,g2,h2 _ _ g1⟩
theorem YD (hk:∀a b,CV t (fk a) (fk b)=some (decide (a=b))) {M:List (α×β)} {k:α} {v:β} {K:List (AV×AV)→Prop}
 (h:K (RU fk fv (P7 M k v))):VQ t (fk k) (fv v) (RU fk fv M) K:=by
 rcases J6 (fv:=fv) hk k M 0 with⟨g1,g2,g3⟩|⟨j,w,g1,g2,g3⟩
 ·refine⟨_,g2,?_⟩
  rw[g3]at h
  simpa[Acv,RU]using h
 ·refine⟨_,g2,?_⟩
  rw[g3]at h
  simpa[Acv,RU,List.map_set]using h
end
theorem RV (a b:Int):CV .int (.int .i64 a) (.int .i64 b)=some (decide (a=b)):=by
 simp only[CV,if_true];rfl
abbrev KD (M:List (Int×Int)):List (AV×AV):=RU (.int .i64) (.int .i64) M
theorem fkI {M:List (Int×Int)} {k:Int} {K:Option (Nat×AV)→Prop}
 (h1:P6 M k=none→K none) (h2:∀i v,P6 M k=some v→K (some (i,.int .i64 v))):TF .int (.int .i64 k) (KD M) K:=YC RV h1 h2
theorem msI {M:List (Int×Int)} {k v:Int} {K:List (AV×AV)→Prop} (h:K (KD (P7 M k v))):VQ .int (.int .i64 k) (.int .i64 v) (KD M) K:=YD RV h
end AI
end Go.Proofs.YtgmgkkbpgndaaaaGreatDoor
