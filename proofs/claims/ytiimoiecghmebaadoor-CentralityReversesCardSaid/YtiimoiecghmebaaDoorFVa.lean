/- The evaluator, step by step on symbols: what must hold for it to end in 'Q'. The evaluator, step by step on symbols: operations. The evaluator, step by step on symbols: regions, code, loops, functions. Loops by an invariant; what a function answers, as a predicate. Lists of numbers as abstract values; small facts that the steps need. -/
import Derived.Test.YtiimoiecghmebaaDoorFSe
set_option linter.unusedVariables false
namespace Go.Proofs.YtiimoiecghmebaaDoor
namespace AI
open Go.RowKit
variable {AP:Nat→Option Hf}
structure Run (AP:Nat→Option Hf) (c:AY) (env:Env) (s:Ag) (Q:Az→Env→Ag→Prop):Prop where
 mk::(h:∃N e env' s',EO (run AP N) N c env s=some (e,env',s')∧Q e env' s')
def Op1 (AP:Nat→Option Hf) (o:BN) (env:Env) (s:Ag) (K:AL→Ag→Prop):Prop:=
 ∃N out s',Ae (run AP N) o env s=some (out,s')∧K out s'
def Ops (AP:Nat→Option Hf) (os:List Ap) (env:Env) (s:Ag) (Q:Az→Env→Ag→Prop):Prop:=
 ∃N e env' s',CX (run AP N) os env s=some (e,env',s')∧Q e env' s'
structure Pure (AP:Nat→Option Hf) (f:Nat) (args:List AV) (v:AV):Prop where
 mk::(h:∃N,Ce (run AP N) f args=some v)
structure DC (AP:Nat→Option Hf) (f:Nat) (args:List AV) (s:Ag) (K:AL→Ag→Prop):Prop where
 mk::(h:∃N out s',run AP N f args s=some (out,s')∧K out s')
theorem BA {n n':Nat} (h:n≤n'):Eh (run AP n) (run AP n'):=KZ h
theorem Run.mono {c:AY} {env:Env} {s:Ag} {Q Q':Az→Env→Ag→Prop} (h:Run AP c env s Q) (hq:∀e env s,Q e env s→Q' e env s):Run AP c env s Q':=by
 obtain⟨N,e,env',s',h1,h2⟩:=h
 exact⟨N,e,env',s',h1,hq _ _ _ h2⟩
def AV.force {R:Sort _} (v:AV) (f:AV→R):R:=
 match v with
 | .bool b=>f (.bool b)
 | .int k n=>f (.int k n)
 | .str s=>f (.str s)
 | .sl nn xs=>f (.sl nn xs)
 | .zc=>f .zc
 | .own o g a b=>f (.own o g a b)
 | .agg cs=>f (.agg cs)
 | .Dy cs=>f (.Dy cs)
 | .ref o g i a=>f (.ref o g i a)
 | .CS cs=>f (.CS cs)
 | .fn g cs=>f (.fn g cs)
 | .map o g=>f (.map o g)
 | .fmap es=>f (.fmap es)
 | .iface t v=>f (.iface t v)
 | .IL=>f .IL
 | .Cj=>f .Cj
 | .ET=>f .ET
 | .Gl=>f .Gl
 | .undef=>f .undef
 | .junk=>f .junk
theorem force_eq {R:Sort _} (v:AV) (f:AV→R):v.force f=f v:=by cases v<;>rfl
def Kq (b:Bool) (t e:Prop):Prop:=match b with
 |true=>t
 |false=>e
theorem WO {b:Bool} {t e:Prop} (h1:b=true→t) (h2:b=false→e):Kq b t e:=by
 cases b
 ·exact h2 rfl
 ·exact h1 rfl
structure NS (p t e:Prop):Prop where
 mk::(yes:p→t) (no:¬p→e)
structure need (p t:Prop):Prop where
 mk::(l:p) (r:t)
theorem Am {p t:Prop} (h1:p) (h2:t):need p t:=⟨h1,h2⟩
structure IU (k:IntKind) (z:Int) (K:AV→Prop):Prop where
 mk::(h:∃y,k.wrap z=y∧K (.int k y))
theorem CP {k:IntKind} {z y:Int} {K:AV→Prop} (h:k.wrap z=y) (h2:K (.int k y)):IU k z K:=⟨y,h,h2⟩
structure Qx {α:Type} (xs:List α) (i:Nat) (K:α→Prop):Prop where
 mk::(h:∃x,nth xs i=some x∧K x)
theorem AA {α:Type} {xs:List α} {i:Nat} {K:α→Prop} {x:α} (h:nth xs i=some x) (h2:K x):Qx xs i K:=⟨x,h,h2⟩
structure KA {α:Type} (o:Option α) (K:α→Prop):Prop where
 mk::(h:∃x,o=some x∧K x)
theorem Bv {α:Type} {o:Option α} {K:α→Prop} {x:α} (h:o=some x) (h2:K x):KA o K:=⟨x,h,h2⟩
structure ZH (AP:Nat→Option Hf) (f:Nat) (args:List AV) (K:AV→Prop):Prop where
 mk::(h:∃v,Pure AP f args v∧K v)
def settle (v:AV) (K:AV→Prop):Prop:=match v with
 | .bool b=>Kq b (K (.bool true)) (K (.bool false))
 |v=>v.force K
theorem Si (v:AV) (K:AV→Prop):settle v K↔K v:=by
 cases v<;>first|exact Iff.rfl|skip
 rename_i b
 cases b<;>exact Iff.rfl
def PI {α:Type}:List α→Nat→α→(List α→Prop)→Prop
 |[],_,_,K=>K []
 |_::xs,0,y,K=>K (y::xs)
 |x::xs,n+1,y,K=>PI xs n y fun ys=>K (x::ys)
theorem CZ {α:Type}:∀(l:List α) (n:Nat) (y:α) (K:List α→Prop),PI l n y K↔K (l.set n y)
 |[],_,_,_=>Iff.rfl
 |_::_,0,_,_=>Iff.rfl
 |x::xs,n+1,y,K=>CZ xs n y fun ys=>K (x::ys)
def ZI {α:Type}:List α→α→(List α→Prop)→Prop
 |[],y,K=>K [y]
 |x::xs,y,K=>ZI xs y fun ys=>K (x::ys)
theorem PK {α:Type}:∀(l:List α) (y:α) (K:List α→Prop),ZI l y K↔K (l++[y])
 |[],_,_=>Iff.rfl
 |x::xs,y,K=>PK xs y fun ys=>K (x::ys)
def VQ (s:Ag) (mk:Nat→Nat→AV) (ob:Nat→Obj) (K:AL→Ag→Prop):Prop:=
 ZI s.σ (ob s.ctr) fun σ=>K (.ok (mk s.σ.length s.ctr)) ⟨σ,s.ctr+1⟩
structure eqK {α:Type} (a:α) (K:α→Prop):Prop where
 mk::(h:∃b,a=b∧K b)
theorem BI {α:Type} {a b:α} {K:α→Prop} (h1:a=b) (h:K b):eqK a K:=⟨_,h1,h⟩
def ZJ (op:BinOp) (k:IntKind) (a b:Int) (K:AV→Prop):Prop:=
 match op with
 | .add=>IU k (a+b) K
 | .sub=>IU k (a-b) K
 | .mul=>IU k (a*b) K
 | .quo=>need (b≠0) (IU k (a.tdiv b) K)
 | .rem=>need (b≠0) (K (.int k (a.tmod b)))
 | .eql=>NS (a=b) (K (.bool true)) (K (.bool false))
 | .neq=>NS (a=b) (K (.bool false)) (K (.bool true))
 | .lss=>NS (a<b) (K (.bool true)) (K (.bool false))
 | .leq=>NS (a≤b) (K (.bool true)) (K (.bool false))
 | .gtr=>NS (b<a) (K (.bool true)) (K (.bool false))
 | .geq=>NS (b≤a) (K (.bool true)) (K (.bool false))
 | .and=>eqK (k.wrap (BitVec.ofInt k.bits a &&& BitVec.ofInt k.bits b).toNat) fun z=>K (.int k z)
 | .or=>eqK (k.wrap (BitVec.ofInt k.bits a ||| BitVec.ofInt k.bits b).toNat) fun z=>K (.int k z)
 | .xor=>eqK (k.wrap (BitVec.ofInt k.bits a ^^^ BitVec.ofInt k.bits b).toNat) fun z=>K (.int k z)
 | .shl=>need (0≤b) (IU k (a*2 ^ (min b.toNat k.bits)) K)
 | .shr=>need (0≤b) (eqK (a.fdiv (2 ^ (min b.toNat k.bits))) fun z=>K (.int k z))
 |_=>False
def ZK (op:BinOp) (a b:List UInt8) (K:AV→Prop):Prop:=
 match op with
 | .eql=>NS (a=b) (K (.bool true)) (K (.bool false))
 | .neq=>NS (a=b) (K (.bool false)) (K (.bool true))
 | .lss=>Kq (Op.bytesLess a b) (K (.bool true)) (K (.bool false))
 | .leq=>Kq (Op.bytesLess a b||a==b) (K (.bool true)) (K (.bool false))
 | .gtr=>Kq (Op.bytesLess a b||a==b) (K (.bool false)) (K (.bool true))
 | .geq=>Kq (Op.bytesLess a b) (K (.bool false)) (K (.bool true))
 | .add=>need (a.length+b.length<2 ^ 63) (K (.str (a++b)))
 |_=>False
def Acv (op:BinOp) (k k':IntKind) (t:Prop):Prop:=match op with
 | .shl=>t
 | .shr=>t
 |_=>need (k=k') t
theorem Aa0 {op:BinOp} {k k':IntKind} {t:Prop} (h:Acv op k k' t):(k=k'∨op=.shl∨op=.shr)∧t:=by
 unfold Acv at h
 split at h
 ·exact⟨.inr (.inl rfl),h⟩
 ·exact⟨.inr (.inr rfl),h⟩
 ·exact⟨.inl h.1,h.2⟩
theorem Aes {op:BinOp} {k k':IntKind} {t:IQ} {a b:Int} (h:k=k'∨op=.shl∨op=.shr):bin op t (.int k a) (.int k' b)=Jc op k a b:=by
 simp only[bin]
 split
 ·rfl
 ·rename_i hk
  rcases h with h|rfl|rfl
  ·exact absurd h hk
  ·rfl
  ·rfl
def Ago (op:BinOp) (t:IQ) (x y:AV) (K:AV→Prop):Prop:=
 match x,y with
 | .int k a,.int k' b=>Acv op k k' (ZJ op k a b K)
 | .str a,.str b=>ZK op a b K
 |x,y=>KA (bin op t x y) fun v=>settle v K
theorem YQ {op:BinOp} {t:IQ} {x y:AV} {K:AV→Prop} (h:Ago op t x y K):∃v,bin op t x y=some v∧K v:=by
 unfold Ago at h
 split at h
 ·rename_i k a k' b
  obtain⟨hk,h⟩:=Aa0 h
  rw[Aes hk]
  unfold ZJ at h
  cases op<;>simp only at h
  case add=>obtain⟨y,h1,h2⟩:=h;exact⟨_,rfl,by rw[h1];exact h2⟩
  case sub=>obtain⟨y,h1,h2⟩:=h;exact⟨_,rfl,by rw[h1];exact h2⟩
  case mul=>obtain⟨y,h1,h2⟩:=h;exact⟨_,rfl,by rw[h1];exact h2⟩
  case quo=>obtain⟨h0,y,h1,h2⟩:=h;exact⟨_,by simp only[Jc,if_neg h0];rfl,by rw[h1];exact h2⟩
  case rem=>obtain⟨h0,h2⟩:=h;exact⟨_,by simp only[Jc,if_neg h0],h2⟩
  case and=>obtain⟨z,rfl,h2⟩:=h;exact⟨_,rfl,h2⟩
  case or=>obtain⟨z,rfl,h2⟩:=h;exact⟨_,rfl,h2⟩
  case xor=>obtain⟨z,rfl,h2⟩:=h;exact⟨_,rfl,h2⟩
  case shl=>obtain⟨h0,y,h1,h2⟩:=h;exact⟨_,by simp only[Jc,if_neg (Int.not_lt.2 h0)];rfl,by rw[h1];exact h2⟩
  case shr=>obtain⟨h0,z,rfl,h2⟩:=h;exact⟨_,by simp only[Jc,if_neg (Int.not_lt.2 h0)],h2⟩
  case eql=>
   by_cases c:a=b
   ·exact⟨_,rfl,by have:=h.1 c;simpa only[c,beq_self_eq_true,bne_self_eq_false,Bool.not_true]using this⟩
   ·exact⟨_,rfl,by have:=h.2 c;simpa only[bne,beq_false_of_ne c,Bool.not_false]using this⟩
  case neq=>
   by_cases c:a=b
   ·exact⟨_,rfl,by have:=h.1 c;simpa only[c,beq_self_eq_true,bne_self_eq_false,Bool.not_true]using this⟩
   ·exact⟨_,rfl,by have:=h.2 c;simpa only[bne,beq_false_of_ne c,Bool.not_false]using this⟩
  case lss=>
   by_cases c:a<b
   ·exact⟨_,rfl,by simpa[c]using h.1 c⟩
   ·exact⟨_,rfl,by simpa[c]using h.2 c⟩
  case leq=>
   by_cases c:a≤b
   ·exact⟨_,rfl,by simpa[c]using h.1 c⟩
   ·exact⟨_,rfl,by simpa[c]using h.2 c⟩
  case gtr=>
   by_cases c:b<a
   ·exact⟨_,rfl,by simpa[c]using h.1 c⟩
   ·exact⟨_,rfl,by simpa[c]using h.2 c⟩
  case geq=>
   by_cases c:b≤a
   ·exact⟨_,rfl,by simpa[c]using h.1 c⟩
   ·exact⟨_,rfl,by simpa[c]using h.2 c⟩
 ·rename_i a b
  simp only[bin]
  unfold ZK at h
  cases op<;>simp only at h
  case add=>obtain⟨h0,h2⟩:=h;exact⟨_,by simp only[Yn,if_pos h0],h2⟩
  case eql=>
   by_cases c:a=b
   ·exact⟨_,rfl,by have:=h.1 c;simpa only[c,beq_self_eq_true,bne_self_eq_false,Bool.not_true]using this⟩
   ·exact⟨_,rfl,by have:=h.2 c;simpa only[bne,beq_false_of_ne c,Bool.not_false]using this⟩
  case neq=>
   by_cases c:a=b
   ·exact⟨_,rfl,by have:=h.1 c;simpa only[c,beq_self_eq_true,bne_self_eq_false,Bool.not_true]using this⟩
   ·exact⟨_,rfl,by have:=h.2 c;simpa only[bne,beq_false_of_ne c,Bool.not_false]using this⟩
  case lss=>cases c:Op.bytesLess a b<;>rw[c]at h<;>exact⟨_,rfl,by rw[c];exact h⟩
  case leq=>cases c:(Op.bytesLess a b||a==b)<;>rw[c]at h<;>exact⟨_,rfl,by rw[c];exact h⟩
  case gtr=>cases c:(Op.bytesLess a b||a==b)<;>rw[c]at h<;>exact⟨_,rfl,by rw[c];exact h⟩
  case geq=>cases c:Op.bytesLess a b<;>rw[c]at h<;>exact⟨_,rfl,by rw[c];exact h⟩
 ·obtain⟨v,h1,h2⟩:=h
  exact⟨v,h1,(Si v K).1 h2⟩
end AI
end Go.Proofs.YtiimoiecghmebaaDoor
namespace Go.Proofs.YtiimoiecghmebaaDoor
namespace AI
open Go.RowKit
variable {AP:Nat→Option Hf}
def done (v:AV) (s:Ag) (K:AL→Ag→Prop):Prop:=settle v fun v=>K (.ok v) s
def Acw:Aq:=fun _ _ _=>none
def Xu (o:BN) (env:Env) (s:Ag) (K:AL→Ag→Prop):Prop:=
 KA (Ae Acw o env s) fun r=>match r with
    |(.ok v,s')=>done v s' K
    |(.Ee v,s')=>K (.Ee v) s'
def ZL (σ:List Obj) (n:Nat) (r:AV) (R:AV→Prop):Prop:=match r with
 | .own o g off len=>match n with
   |0=>False
   |n+1=>match nth σ o with
    |some (.arr g' _ nn cl elems)=>match cl with
     |true=>need (g=g'∧off+len≤elems.length) (eqK (sub elems off len) fun xs=>R (.sl nn xs))
     |false=>KA (snap σ (n+1) (.own o g off len)) R
    |_=>False
 |r=>KA (snap σ n r) R
theorem Qh {σ:List Obj} {n:Nat} {r:AV} {R:AV→Prop} (h:ZL σ n r R):∃v,snap σ n r=some v∧R v:=by
 unfold ZL at h
 split at h
 ·rename_i o g off len
  split at h
  ·cases h
  ·split at h
   ·rename_i g' es nn cl elems ho
    split at h
    ·obtain⟨h1,xs,rfl,h2⟩:=h
     refine⟨_,?_,h2⟩
     simp only[snap,ho,if_pos h1,if_true]
    ·obtain⟨v,h1,h2⟩:=h;exact⟨v,h1,h2⟩
   ·cases h
 ·obtain⟨v,h1,h2⟩:=h;exact⟨v,h1,h2⟩
def Sj (σ:List Obj):Nat→List AV→(List AV→Prop)→Prop
 |_,[],K=>K []
 |0,_::_,_=>False
 |n+1,v::vs,K=>ZL σ n v fun a=>Sj σ n vs fun r=>K (a::r)
theorem HY {σ:List Obj}:∀{n:Nat} {vs:List AV} {K:List AV→Prop},Sj σ n vs K→∃r,GH σ n vs=some r∧K r
 |n,[],K,h=>⟨[],by cases n<;>rfl,by cases n<;>exact h⟩
 |0,_::_,_,h=>by cases h
 |n+1,v::vs,K,h=>by
  obtain⟨a,h1,h2⟩:=Qh h
  obtain⟨r,h3,h4⟩:=HY h2
  exact⟨_,by simp only[GH,h1,h3],h4⟩
def ZM (σ:List Obj) (n:Nat) (r:AV) (R:AV→Prop):Prop:=match r with
 | .Dy cs=>match n with
   |0=>False
   |n+1=>Sj σ n cs fun vs=>R (.Dy vs)
 | .agg cs=>match n with
   |0=>False
   |n+1=>Sj σ n cs fun vs=>R (.agg vs)
 |r=>ZL σ n r R
theorem Xv {σ:List Obj} {n:Nat} {r:AV} {R:AV→Prop} (h:ZM σ n r R):∃v,snap σ n r=some v∧R v:=by
 unfold ZM at h
 split at h
 ·split at h
  ·cases h
  ·obtain⟨vs,h1,h2⟩:=HY h
   exact⟨_,by simp only[snap,h1,Option.map_some],h2⟩
 ·split at h
  ·cases h
  ·obtain⟨vs,h1,h2⟩:=HY h
   exact⟨_,by simp only[snap,h1,Option.map_some],h2⟩
 ·exact Qh h
def Acx (AP:Nat→Option Hf) (m:Mode) (f:Nat) (args:List AV) (s:Ag) (K:AL→Ag→Prop):Prop:=
 match m with
 | .pure=>need (DU args=true) (ZH AP f args fun v=>done v s K)
 | .borrow=>Sj s.σ Dc args fun args'=>ZH AP f args' fun v=>need (v.scalar=true) (done v s K)
 | .share=>DC AP f args s fun out s'=>match out with
   | .ok r=>KA (compact s.σ.length r s') fun r=>done r.1 r.2 K
   | .Ee v=>need (v.closed=true) (K (.Ee v) ⟨s'.σ.take s.σ.length,s'.ctr⟩)
 | .own=>∃N r s',AZ (run AP N) .own f args s=some (.ok r,s')∧done r s' K
 | .keep=>DC AP f args s fun out s'=>match out with
   | .ok r=>done r s' K
   | .Ee v=>K (.Ee v) s'
structure LG (g g' es es' len:Nat) (nn cl c:Bool) (elems ys:List AV) (bytes:Nat) (K:Nat→Bool→Bool→List AV→Prop):Prop where
 mk::(h:(g=g'∧es=es'∧len≤elems.length∧Bq es ys∧roomy bytes (len+ys.length))∧K (len+ys.length) (nn||!ys.isEmpty) (cl&&c) (elems.take len++ys))
def Agp (a b:Bool) (K:Bool→Prop):Prop:=match b with
 |true=>K a
 |false=>K false
theorem Xw (a b:Bool) (K:Bool→Prop):Agp a b K↔K (a&&b):=by cases a<;>cases b<;>exact Iff.rfl
def Acy (b:Bool) (K:Bool→Prop):Prop:=match b with
 |true=>K true
 |false=>K false
theorem YR (b:Bool) (K:Bool→Prop):Acy b K↔K b:=by cases b<;>exact Iff.rfl
def ZN (env:Env):List (Nat×AO)→(List (Nat×AV)→Prop)→Prop
 |[],K=>K []
 |(j,x)::ps,K=>(x.val env).force fun v=>ZN env ps fun r=>K ((j,v)::r)
theorem UN (env:Env):∀(ps:List (Nat×AO)) (K:List (Nat×AV)→Prop),ZN env ps K↔K (Pn env ps)
 |[],_=>Iff.rfl
 |(j,x)::ps,K=>by simp only[ZN,force_eq,Pn];exact UN env ps _
def FK (z:AV):Nat→List (Nat×AV)→Nat→(List AV→Prop)→Prop
 |0,_,_,K=>K []
 |n+1,[],i,K=>FK z n [] (i+1) fun r=>K (z::r)
 |n+1,(j,v)::ps,i,K=>bif Nat.beq i j then FK z n ps (i+1) fun r=>K (v::r)else FK z n ((j,v)::ps) (i+1) fun r=>K (z::r)
theorem Gy (z:AV):∀(n:Nat) (ps:List (Nat×AV)) (i:Nat) (K:List AV→Prop),FK z n ps i K↔K (Bo z n ps i)
 |0,_,_,_=>by simp only[FK,Bo]
 |n+1,[],i,K=>by simp only[FK,Bo];exact Gy z n [] (i+1) _
 |n+1,(j,v)::ps,i,K=>by
  simp only[FK,Bo]
  cases Nat.beq i j
  ·exact Gy z n _ (i+1) _
  ·exact Gy z n _ (i+1) _
def YS (es:Nat) (v:AV) (s:Ag) (K:List AV→Bool→Prop):Prop:=match v with
 | .sl _ xs=>K xs true
 | .zc=>K [] true
 |v=>KA (elemsOf s es v) fun r=>K r.1 r.2
theorem VR {es:Nat} {v:AV} {s:Ag} {K:List AV→Bool→Prop} (h:YS es v s K):∃ys c,elemsOf s es v=some (ys,c)∧K ys c:=by
 unfold YS at h
 split at h
 ·exact⟨_,_,rfl,h⟩
 ·exact⟨_,_,rfl,h⟩
 ·obtain⟨⟨ys,c⟩,h1,h2⟩:=h
  exact⟨ys,c,h1,h2⟩
def Aet (off j:Nat) (K:Nat→Prop):Prop:=match off with
 |0=>K j
 |n+1=>K (n+1+j)
theorem Xx (off j:Nat) (K:Nat→Prop):Aet off j K↔K (off+j):=by
 cases off with
 |zero=>simp[Aet]
 |succ n=>exact Iff.rfl
structure MN (t:IQ) (k:AV) (ents:List (AV×AV)) (K:Option (Nat×AV)→Prop):Prop where
 mk::(h:∃r,findKey t k ents 0=some r∧K r)
def Acz (k v:AV) (ents:List (AV×AV)) (r:Option (Nat×AV)):List (AV×AV):=match r with
 |some (i,_)=>ents.set i (k,v)
 |none=>ents++[(k,v)]
structure Xf (t:IQ) (k v:AV) (ents:List (AV×AV)) (K:List (AV×AV)→Prop):Prop where
 mk::(h:∃r,findKey t k ents 0=some r∧K (Acz k v ents r))
def VT (env:Env) (d:Nat) (x:Option AO) (K:Nat→Prop):Prop:=match x with
 |none=>K d
 |some x=>match x.val env with
  | .int _ n=>need (0≤n) (K n.toNat)
  |_=>False
def QV (env:Env) (len:Nat) (lo hi:Option AO) (K:Nat→Nat→Prop):Prop:=
 VT env len hi fun h=>VT env 0 lo fun l=>need (l≤h∧h≤len) (K l h)
theorem OA {env:Env} {d:Nat} {x:Option AO} {K:Nat→Prop} (h:VT env d x K):∃n,(match x with|none=>some d|some x=>bound (x.val env))=some n∧K n:=by
 unfold VT at h
 split at h
 ·exact⟨d,rfl,h⟩
 ·rename_i x
  split at h
  ·rename_i k n hv
   exact⟨n.toNat,by simp only[hv,bound,if_pos h.1],h.2⟩
  ·cases h
theorem Je {env:Env} {len:Nat} {lo hi:Option AO} {K:Nat→Nat→Prop} (h:QV env len lo hi K):∃l u,bounds env len lo hi=some (l,u)∧K l u:=by
 obtain⟨u,h1,h2⟩:=OA h
 obtain⟨l,h3,h4,h5⟩:=OA h2
 refine⟨l,u,?_,h5⟩
 unfold bounds
 cases hi<;>cases lo<;>simp_all
def JY (AP:Nat→Option Hf) (o:BN) (env:Env) (s:Ag) (K:AL→Ag→Prop):Prop:=
 match o with
 | .Yg x=>done (x.val env) s K
 | .Jb es=>VQ s (fun o g=>.own o g 0 0) (fun g=>.arr g es false true []) K
 | .JD off e2 es cs=>match nth cs off with
   |some (.sl false [])=>need (0<e2) (VQ s (fun o g=>.own o g 0 0) (fun g=>.arr g e2 false true []) fun out s1=>match out with
        | .ok v=>VQ s1 (fun o g=>.ref o g 0 0) (fun g=>.arr g es true (AV.agg (cs.set off v)).closed [.agg (cs.set off v)]) K
        | .Ee _=>False)
   |_=>False
 | .pick c a b=>match c.val env with
   | .bool c=>Kq c (done (a.val env) s K) (done (b.val env) s K)
   |_=>False
 | .alloc es z=>VQ s (fun o g=>.ref o g 0 0) (fun g=>.arr g es true z.closed [z]) K
 | .box es x=>(x.val env).force fun v=>need ((v.storable&&v.cells.length==es)=true) (VQ s (fun o g=>.ref o g 0 0) (fun g=>.arr g es true v.closed [v]) K)
 | .build z parts=>KA (DV z (JE env parts)) fun cs=>K (.ok (.agg cs)) s
 | .load sz a=>match a.val env with
   | .CS cs=>KA (loadCells cs sz) fun v=>done v s K
   | .ref o g i off=>match nth s.σ o with
     |some (.arr g' _ _ _ elems)=>need (g=g') (Qx elems i fun x=>KA (loadCells (x.cells.drop off) sz) fun v=>done v s K)
     |_=>False
   |_=>False
 | .store sz a x=>match a.val env with
   | .ref o g i off=>match nth s.σ o with
     |some (.arr g' es nn cl elems)=>need (g=g') (Qx elems i fun y=>(x.val env).force fun v=>need ((v.storable&&v.cells.length==sz&&off+sz≤es)=true)
       (Agp cl v.closed fun cl'=>eqK (elems.set i (Bg y off v)) fun es'=>PI s.σ o (.arr g' es nn cl' es') fun σ=>K (.ok .undef) ⟨σ,s.ctr⟩))
     |_=>False
   |_=>False
 | .Pm x=>match x.val env with
   | .ref o g i off=>K (.ok (.ref o g i off)) s
   | .CS cs=>K (.ok (.CS cs)) s
   | .fn f cs=>K (.ok (.fn f cs)) s
   |_=>False
 | .bin op t x y=>Ago op t (x.val env) (y.val env) fun v=>K (.ok v) s
 | .un op x=>match op,x.val env with
   | .not,.bool b=>Kq b (K (.ok (.bool false)) s) (K (.ok (.bool true)) s)
   | .neg,.int k n=>IU k (0-n) fun v=>K (.ok v) s
   |_,_=>False
 | .conv k x=>match x.val env with
   | .int _ n=>IU k n fun v=>K (.ok v) s
   |_=>False
 | .field off sz x=>match x.val env with
   | .agg cs=>KA (loadCells (cs.drop off) sz) fun v=>done v s K
   |_=>False
 | .PZ off x=>match x.val env with
   | .CS cs=>K (.ok (.CS (cs.drop off))) s
   | .ref o g i off'=>K (.ok (.ref o g i (off'+off))) s
   |_=>False
 | .Rk es x i=>match x.val env,i.val env with
   | .sl _ xs,.int _ i=>need (0≤i) (Qx xs i.toNat fun v=>need (v.cells.length=es) (K (.ok (.CS v.cells)) s))
   | .own o g off len,.int _ i=>match nth s.σ o with
     |some (.arr g' es' _ _ _)=>need (g=g'∧es=es'∧0≤i∧i<len) (Aet off i.toNat fun j=>K (.ok (.ref o g j 0)) s)
     |_=>False
   |_,_=>False
 | .len k x=>match k,x.val env with
   | .slice,.sl _ xs=>eqK xs.length fun n=>K (.ok (.int .i64 n)) s
   | .slice,.own _ _ _ n=>K (.ok (.int .i64 n)) s
   | .str,.str bs=>K (.ok (.int .i64 bs.length)) s
   | .map,.map o g=>match nth s.σ o with
     |some (.mp g' _ ents)=>need (g=g') (K (.ok (.int .i64 ents.length)) s)
     |_=>False
   | .map,.fmap ents=>K (.ok (.int .i64 ents.length)) s
   |_,_=>Xu (.len k x) env s K
 | .NT=>VQ s (fun o g=>.map o g) (fun g=>.mp g true []) K
 | .lookup t z QH m k=>match m.val env with
   | .map o g=>match nth s.σ o with
     |some (.mp g' _ ents)=>need (g=g'∧IW t (k.val env)=true) (MN t (k.val env) ents fun r=>match r with
      |some (_,v)=>bif QH then K (.ok (.Dy [v,.bool true])) s else done v s K
      |none=>bif QH then K (.ok (.Dy [z,.bool false])) s else done z s K)
     |_=>False
   | .fmap ents=>need (IW t (k.val env)=true) (MN t (k.val env) ents fun r=>match r with
        |some (_,v)=>bif QH then K (.ok (.Dy [v,.bool true])) s else done v s K
        |none=>bif QH then K (.ok (.Dy [z,.bool false])) s else done z s K)
   |_=>Xu (.lookup t z QH m k) env s K
 | .mapset t m k v=>match m.val env with
   | .map o g=>match nth s.σ o with
     |some (.mp g' cl ents)=>(v.val env).force fun vv=>need (g=g'∧IW t (k.val env)=true∧vv.storable=true)
       (Agp cl vv.closed fun cl'=>Xf t (k.val env) vv ents fun ZO=>PI s.σ o (.mp g' cl' ZO) fun σ=>K (.ok .undef) ⟨σ,s.ctr⟩)
     |_=>False
   |_=>False
 | .delete t m k=>match m.val env with
   | .map o g=>match nth s.σ o with
     |some (.mp g' cl ents)=>need (g=g'∧IW t (k.val env)=true) (MN t (k.val env) ents fun r=>match r with
      |some (i,_)=>PI s.σ o (.mp g' cl (ents.eraseIdx i)) fun σ=>K (.ok .undef) ⟨σ,s.ctr⟩
      |none=>K (.ok .undef) s)
     |_=>False
   |_=>False
 | .lit own es z len parts=>ZN env parts fun ps=>need (Rn es len ps 0=true) (FK z len ps 0 fun xs=>
    bif own then Acy (Hl ps) fun c=>VQ s (fun o g=>.own o g 0 len) (fun g=>.arr g es true c xs) K
    else bif Nat.beq len 0 then K (.ok .zc) s else need (Hl ps=true) (K (.ok (.sl true xs)) s))
 | .Ym x i=>match x.val env,i.val env with
   | .str bs,.int _ i=>need (0≤i) (Qx bs i.toNat fun b=>K (.ok (.int .u8 b.toNat)) s)
   |_,_=>False
 | .slice es x lo hi=>match x.val env with
   | .sl nn xs=>QV env xs.length lo hi fun l h=>need (Bq es xs) (eqK (sub xs l (h-l)) fun ys=>K (.ok (.sl nn ys)) s)
   | .own o g off len=>match nth s.σ o with
     |some (.arr g' es' _ _ _)=>need (g=g'∧es=es') (QV env len lo hi fun l h=>Aet off l fun j=>K (.ok (.own o g j (h-l))) s)
     |_=>False
   |_=>Xu (.slice es x lo hi) env s K
 | .KC x lo hi=>match x.val env with
   | .str bs=>QV env bs.length lo hi fun l h=>eqK ((bs.drop l).take (h-l)) fun r=>K (.ok (.str r)) s
   |_=>False
 | .append es bytes a x=>YS es (x.val env) s fun ys c=>match a.val env with
   | .own o g 0 len=>match nth s.σ o with
     |some (.arr g' es' nn cl' elems)=>LG g g' es es' len nn cl' c elems ys bytes fun n nn cl es'=>PI s.σ o (.arr s.ctr es nn cl es') fun σ=>K (.ok (.own o s.ctr 0 n)) ⟨σ,s.ctr+1⟩
     |_=>False
   |v=>KA (FX es bytes s v ys c) fun r=>done r.1 r.2 K
 | .Hg es bytes z len cap=>match len.val env,cap.val env with
   | .int _ l,.int _ c=>need (0≤l∧l≤c∧roomy bytes c.toNat) (eqK (List.replicate l.toNat z) fun xs=>VQ s (fun o g=>.own o g 0 l.toNat) (fun g=>.arr g es true z.closed xs) K)
   |_,_=>False
 | .ext x i=>match x.val env with
   | .Dy cs=>KA (nth cs i) fun v=>done v s K
   |_=>False
 | .call m f args=>Acx AP m f (vals env args) s K
 | .Gz m x args=>match x.val env with
   | .fn f caps=>Acx AP m f (vals env args++caps) s K
   |_=>False
 |o=>Xu o env s K
theorem Aa1 (C:Aq):Eh Acw C:=fun _ _ _ _ h=>by cases h
theorem Ci (v:AV) (s:Ag) (K:AL→Ag→Prop):done v s K↔K (.ok v) s:=Si v _
theorem I5 {o:BN} {env:Env} {s:Ag} {K:AL→Ag→Prop} (h:Xu o env s K):Op1 AP o env s K:=by
 obtain⟨⟨out,s'⟩,h1,h2⟩:=h
 refine⟨0,out,s',BJ (Aa1 _) h1,?_⟩
 cases out with
 |ok v=>exact(Ci v s' K).1 h2
 |Ee v=>exact h2
theorem Qi {m:Mode} {f:Nat} {args:List AV} {s:Ag} {K:AL→Ag→Prop} (h:Acx AP m f args s K):∃N out s',AZ (run AP N) m f args s=some (out,s')∧K out s':=by
 cases m with
 |pure=>
  obtain⟨hc,v,⟨N,hp⟩,hk⟩:=h
  exact⟨N,.ok v,s,by simp only[AZ,if_pos hc,hp,Option.map_some],(Ci v s K).1 hk⟩
 |borrow=>
  obtain⟨args',ha,v,⟨N,hp⟩,hs,hk⟩:=HY h
  exact⟨N,.ok v,s,by simp only[AZ,ha,hp,if_pos hs],(Ci v s K).1 hk⟩
 |share=>
  obtain⟨N,out,s',hr,hk⟩:=h
  cases out with
  |ok r=>
   obtain⟨⟨r',s''⟩,h1,h2⟩:=hk
   exact⟨N,.ok r',s'',by simp only[AZ,hr,h1,Option.map_some],(Ci r' s'' K).1 h2⟩
  |Ee v=>
   obtain⟨h1,h2⟩:=hk
   exact⟨N,.Ee v,_,by simp only[AZ,hr,if_pos h1],h2⟩
 |own=>
  obtain⟨N,r,s',h1,h2⟩:=h
  exact⟨N,.ok r,s',h1,(Ci r s' K).1 h2⟩
 |keep=>
  obtain⟨N,out,s',hr,hk⟩:=h
  cases out with
  |ok r=>exact⟨N,.ok r,s',hr,(Ci r s' K).1 hk⟩
  |Ee v=>exact⟨N,.Ee v,s',hr,hk⟩
theorem GL {s:Ag} {mk:Nat→Nat→AV} {ob:Nat→Obj} {K:AL→Ag→Prop}:VQ s mk ob K↔K (.ok (mk s.σ.length s.ctr)) (push s (ob s.ctr)):=PK _ _ _
theorem Ie {o:BN} {env:Env} {s:Ag} {K:AL→Ag→Prop} (h:JY AP o env s K):Op1 AP o env s K:=by
 cases o
 case Yg x=>exact⟨0,_,_,rfl,(Ci _ _ _).1 h⟩
 case Jb es=>simp only[JY]at h;exact⟨0,_,_,rfl,GL.1 h⟩
 case JD off e2 es cs=>
  simp only[JY]at h
  split at h
  case h_2=>cases h
  rename_i hoff
  obtain⟨he,h⟩:=h
  have h:=GL.1 h
  have h:=GL.1 h
  refine⟨0,_,_,?_,h⟩
  simp only[Ae,hoff,if_pos he]
  simp[push]
 case pick c a b=>
  simp only[JY]at h
  split at h
  ·rename_i c' hc
   cases c'
   ·exact⟨0,_,_,by simp only[Ae,hc],(Ci _ _ _).1 h⟩
   ·exact⟨0,_,_,by simp only[Ae,hc],(Ci _ _ _).1 h⟩
  ·cases h
 case alloc es z=>simp only[JY]at h;exact⟨0,_,_,rfl,GL.1 h⟩
 case box es x=>
  simp only[JY,force_eq]at h
  obtain⟨h1,h2⟩:=h
  exact⟨0,_,_,by simp only[Ae,if_pos h1],GL.1 h2⟩
 case build z ps=>
  obtain⟨cs,h1,h2⟩:=h
  exact⟨0,_,_,by simp only[Ae,h1,Option.map_some],h2⟩
 case load sz a=>
  simp only[JY]at h
  split at h
  ·rename_i cs hv
   obtain⟨v,h1,h2⟩:=h
   exact⟨0,_,_,by simp only[Ae,hv,ok,h1,Option.map_some],(Ci _ _ _).1 h2⟩
  ·rename_i o g i off hv
   split at h
   ·rename_i g' es nn cl elems ho
    obtain⟨hg,x,hx,v,h1,h2⟩:=h
    exact⟨0,_,_,by simp only[Ae,hv,ho,if_pos hg,hx,ok,h1,Option.map_some],(Ci _ _ _).1 h2⟩
   ·cases h
  ·cases h
 case store sz a x=>
  simp only[JY]at h
  split at h
  ·rename_i o g i off hv
   split at h
   ·rename_i g' es nn cl elems ho
    obtain⟨hg,y,hy,h⟩:=h
    rw[force_eq]at h
    obtain⟨h1,h2⟩:=h
    rw[Xw]at h2
    obtain⟨es',rfl,h2⟩:=h2
    rw[CZ]at h2
    exact⟨0,_,_,by simp only[Ae,hv,ho,if_pos hg,hy,h1,if_true],h2⟩
   ·cases h
  ·cases h
 case Pm x=>
  simp only[JY]at h
  split at h
  ·rename_i hv;exact⟨0,_,_,by simp only[Ae,hv],h⟩
  ·rename_i hv;exact⟨0,_,_,by simp only[Ae,hv],h⟩
  ·rename_i hv;exact⟨0,_,_,by simp only[Ae,hv],h⟩
  ·cases h
 case bin op t x y=>
  obtain⟨v,h1,h2⟩:=YQ h
  exact⟨0,_,_,by simp only[Ae,ok,h1,Option.map_some],h2⟩
 case un op x=>
  simp only[JY]at h
  split at h
  ·rename_i b hv
   cases b
   ·exact⟨0,_,_,by simp only[Ae,hv,Bool.not_false],h⟩
   ·exact⟨0,_,_,by simp only[Ae,hv,Bool.not_true],h⟩
  ·rename_i k n hv
   obtain⟨y,h1,h2⟩:=h
   exact⟨0,_,_,by simp only[Ae,hv,h1],h2⟩
  ·cases h
 case conv k x=>
  simp only[JY]at h
  split at h
  ·rename_i k' n hv
   obtain⟨y,h1,h2⟩:=h
   exact⟨0,_,_,by simp only[Ae,hv,h1],h2⟩
  ·cases h
 case field off sz x=>
  simp only[JY]at h
  split at h
  ·rename_i cs hv
   obtain⟨v,h1,h2⟩:=h
   exact⟨0,_,_,by simp only[Ae,hv,ok,h1,Option.map_some],(Ci _ _ _).1 h2⟩
  ·cases h
 case PZ off x=>
  simp only[JY]at h
  split at h
  ·rename_i hv;exact⟨0,_,_,by simp only[Ae,hv],h⟩
  ·rename_i hv;exact⟨0,_,_,by simp only[Ae,hv],h⟩
  ·cases h
 case Rk es x i=>
  simp only[JY]at h
  split at h
  ·rename_i nn xs k n hx hi
   obtain⟨h0,v,h1,h2,h3⟩:=h
   exact⟨0,_,_,by simp only[Ae,hx,hi,if_pos h0,h1,if_pos h2],h3⟩
  ·rename_i o g off len k n hx hi
   split at h
   ·rename_i g' es' nn cl elems ho
    obtain⟨h1,h2⟩:=h
    rw[Xx]at h2
    exact⟨0,_,_,by simp only[Ae,hx,hi,ho,if_pos h1],h2⟩
   ·cases h
  ·cases h
 case len k x=>
  simp only[JY]at h
  split at h
  ·rename_i hv
   obtain⟨n,rfl,h⟩:=h
   exact⟨0,_,_,by simp only[Ae,hv],h⟩
  ·rename_i hv;exact⟨0,_,_,by simp only[Ae,hv],h⟩
  ·rename_i hv;exact⟨0,_,_,by simp only[Ae,hv],h⟩
  ·rename_i o g hv
   split at h
   ·rename_i g' cl ents ho
    obtain⟨h1,h2⟩:=h
    exact⟨0,_,_,by simp only[Ae,hv,ho,if_pos h1],h2⟩
   ·cases h
  ·rename_i hv;exact⟨0,_,_,by simp only[Ae,hv],h⟩
  ·exact I5 h
 case Ym x i=>
  simp only[JY]at h
  split at h
  ·rename_i bs k n hx hi
   obtain⟨h1,b,h2,h3⟩:=h
   exact⟨0,_,_,by simp only[Ae,hx,hi,if_pos h1,h2],h3⟩
  ·cases h
 case slice es x lo hi=>
  simp only[JY]at h
  split at h
  ·rename_i nn xs hx
   obtain⟨l,u,h1,h2,ys,rfl,h3⟩:=Je h
   exact⟨0,_,_,by simp only[Ae,hx,h1,if_pos h2],h3⟩
  ·rename_i o g off len hx
   split at h
   ·rename_i g' es' nn cl elems ho
    obtain⟨hg,h⟩:=h
    obtain⟨l,u,h1,h2⟩:=Je h
    rw[Xx]at h2
    exact⟨0,_,_,by simp only[Ae,hx,ho,if_pos hg,h1],h2⟩
   ·cases h
  ·exact I5 h
 case KC x lo hi=>
  simp only[JY]at h
  split at h
  ·rename_i bs hx
   obtain⟨l,u,h1,r,rfl,h2⟩:=Je h
   exact⟨0,_,_,by simp only[Ae,hx,h1],h2⟩
  ·cases h
 case NT=>simp only[JY]at h;exact⟨0,_,_,rfl,GL.1 h⟩
 case lookup t z QH m k=>
  simp only[JY]at h
  split at h
  ·rename_i o g hv
   split at h
   ·rename_i g' cl ents ho
    obtain⟨h1,r,h2,h3⟩:=h
    cases r with
    |none=>
     cases QH
     ·exact⟨0,_,_,by simp only[Ae,hv,ho,if_pos h1,h2];rfl,(Ci _ _ _).1 h3⟩
     ·exact⟨0,_,_,by simp only[Ae,hv,ho,if_pos h1,h2];rfl,h3⟩
    |some p=>
     cases QH
     ·exact⟨0,_,_,by simp only[Ae,hv,ho,if_pos h1,h2];rfl,(Ci _ _ _).1 h3⟩
     ·exact⟨0,_,_,by simp only[Ae,hv,ho,if_pos h1,h2];rfl,h3⟩
   ·cases h
  ·rename_i ents hv
   obtain⟨h1,r,h2,h3⟩:=h
   cases r with
   |none=>
    cases QH
    ·exact⟨0,_,_,by simp only[Ae,hv,if_pos h1,h2];rfl,(Ci _ _ _).1 h3⟩
    ·exact⟨0,_,_,by simp only[Ae,hv,if_pos h1,h2];rfl,h3⟩
   |some p=>
    cases QH
    ·exact⟨0,_,_,by simp only[Ae,hv,if_pos h1,h2];rfl,(Ci _ _ _).1 h3⟩
    ·exact⟨0,_,_,by simp only[Ae,hv,if_pos h1,h2];rfl,h3⟩
  ·exact I5 h
 case mapset t m k v=>
  simp only[JY]at h
  split at h
  ·rename_i o g hv
   split at h
   ·rename_i g' cl ents ho
    rw[force_eq]at h
    obtain⟨h1,h2⟩:=h
    rw[Xw]at h2
    obtain⟨r,h2,h3⟩:=h2
    rw[CZ]at h3
    cases r with
    |none=>exact⟨0,_,_,by simp only[Ae,hv,ho,if_pos h1,h2];rfl,h3⟩
    |some p=>exact⟨0,_,_,by simp only[Ae,hv,ho,if_pos h1,h2];rfl,h3⟩
   ·cases h
  ·cases h
 case delete t m k=>
  simp only[JY]at h
  split at h
  ·rename_i o g hv
   split at h
   ·rename_i g' cl ents ho
    obtain⟨h1,r,h2,h3⟩:=h
    cases r with
    |none=>exact⟨0,_,_,by simp only[Ae,hv,ho,if_pos h1,h2],h3⟩
    |some p=>
     simp only at h3
     rw[CZ]at h3
     exact⟨0,_,_,by simp only[Ae,hv,ho,if_pos h1,h2],h3⟩
   ·cases h
  ·cases h
 case lit own es z len parts=>
  simp only[JY,UN]at h
  obtain⟨h1,h2⟩:=h
  rw[Gy]at h2
  cases own
  ·rw[cond_false]at h2
   cases hb:Nat.beq len 0
   ·rw[hb,cond_false]at h2
    have hne:len≠0:=fun e=>by subst e;simp at hb
    exact⟨0,_,_,by simp only[Ae,if_pos h1,if_neg hne,if_pos h2.1];rfl,h2.2⟩
   ·rw[hb,cond_true]at h2
    have he:len=0:=Nat.eq_of_beq_eq_true hb
    exact⟨0,_,_,by simp only[Ae,if_pos h1,if_pos he];rfl,h2⟩
  ·rw[cond_true,YR]at h2
   exact⟨0,_,_,by simp only[Ae,if_pos h1,if_true],GL.1 h2⟩
 case append es bytes a x=>
  simp only[JY]at h
  obtain⟨ys,cl,h1,h⟩:=VR h
  split at h
  ·rename_i o g len hv
   split at h
   ·rename_i g' es' nn cl' elems ho
    obtain⟨h2,h3⟩:=h
    rw[CZ]at h3
    exact⟨0,_,_,by simp only[Ae,h1,hv,FX,ho,if_pos h2,Option.map_some],h3⟩
   ·cases h
  ·obtain⟨⟨v,s'⟩,h2,h3⟩:=h
   exact⟨0,_,_,by simp only[Ae,h1,h2,Option.map_some],(Ci _ _ _).1 h3⟩
 case Hg es bytes z len cap=>
  simp only[JY]at h
  split at h
  ·rename_i k l k' c hl hc
   obtain⟨h1,xs,rfl,h2⟩:=h
   exact⟨0,_,_,by simp only[Ae,hl,hc,if_pos h1],GL.1 h2⟩
  ·cases h
 case ext x i=>
  simp only[JY]at h
  split at h
  ·rename_i cs hv
   obtain⟨v,h1,h2⟩:=h
   exact⟨0,_,_,by simp only[Ae,hv,ok,h1,Option.map_some],(Ci _ _ _).1 h2⟩
  ·cases h
 case call m f args=>exact Qi h
 case Gz m x args=>
  simp only[JY]at h
  split at h
  ·rename_i f caps hv
   obtain⟨N,out,s',h1,h2⟩:=Qi h
   exact⟨N,out,s',by simp only[Ae,hv];exact h1,h2⟩
  ·cases h
 all_goals exact I5 h
end AI
end Go.Proofs.YtiimoiecghmebaaDoor
namespace Go.Proofs.YtiimoiecghmebaaDoor
namespace AI
open Go.RowKit
variable {AP:Nat→Option Hf}
def Fa (g:Option (Nat×Bool)) (env:Env) (t e:Prop):Prop:=match g with
 |none=>t
 |some (r,b)=>match env.get r with
  | .bool b'=>Kq (b'==b) t e
  | .undef=>e
  |_=>False
def AcA (k:Env→Ag→Prop) (d:Option Nat) (env:Env) (Q:Az→Env→Ag→Prop) (out:AL) (s:Ag):Prop:=match out with
 | .ok v=>k (put d v env) s
 | .Ee v=>Q (.Ee v) env s
def Xy (AP:Nat→Option Hf) (ops:List Ap):Env→Ag→(Az→Env→Ag→Prop)→Prop:=
 List.rec (motive:=fun _=>Env→Ag→(Az→Env→Ag→Prop)→Prop) (fun env s Q=>Q .normal env s)
    (fun o _ ih env s Q=>Fa o.guard env (JY AP o.op env s (AcA (fun env s=>ih env s Q) o.dst env Q)) (ih (put o.dst .undef env) s Q)) ops
theorem Aa2 (o:Ap) (os:List Ap) (env:Env) (s:Ag) (Q:Az→Env→Ag→Prop):Xy AP (o::os) env s Q=Fa o.guard env
 (JY AP o.op env s (AcA (fun env s=>Xy AP os env s Q) o.dst env Q))
 (Xy AP os (put o.dst .undef env) s Q):=rfl
theorem Gv:∀{os:List Ap} {env:Env} {s:Ag} {Q:Az→Env→Ag→Prop},Xy AP os env s Q→Ops AP os env s Q
 |[],env,s,Q,h=>⟨0,_,_,_,rfl,h⟩
 |o::os,env,s,Q,h=>by
  have Ip:wanted o.guard env=some false→Xy AP os (put o.dst .undef env) s Q→Ops AP (o::os) env s Q:=by
   intro hw h
   obtain⟨N,e,env',s',h1,h2⟩:=Gv h
   exact⟨N,e,env',s',by simp only[CX,hw];exact h1,h2⟩
  have hdo:wanted o.guard env=some true→JY AP o.op env s (AcA (fun env s=>Xy AP os env s Q) o.dst env Q)→Ops AP (o::os) env s Q:=by
   intro hw h
   obtain⟨N,out,s1,h1,h2⟩:=Ie h
   cases out with
   |ok v=>
    obtain⟨N',e,env',s',h3,h4⟩:=Gv h2
    refine⟨max N N',e,env',s',?_,h4⟩
    simp only[CX,hw,BJ (BA (Nat.le_max_left N N')) h1]
    exact Ew (BA (Nat.le_max_right N N')) h3
   |Ee v=>exact⟨N,_,_,_,by simp only[CX,hw,h1],h2⟩
  rw[Aa2]at h
  unfold Fa at h
  split at h
  ·rename_i hg
   exact hdo (by rw[hg];rfl) h
  ·rename_i r b hg
   split at h
   ·rename_i b' hb
    cases hbb:(b'==b)
    ·rw[hbb]at h
     exact Ip (by rw[hg];simp only[wanted,hb,hbb]) h
    ·rw[hbb]at h
     exact hdo (by rw[hg];simp only[wanted,hb,hbb]) h
   ·rename_i hb
    exact Ip (by rw[hg];simp only[wanted,hb]) h
   ·cases h
def JZ:List Nat→Env→(Env→Prop)→Prop
 |[],_,K=>K []
 |t::ts,env,K=>(env.get t).force fun v=>JZ ts env fun e=>K ((t,v)::e)
theorem Ey:∀(ts:List Nat) (env:Env) (K:Env→Prop),JZ ts env K↔K (commit env ts)
 |[],_,_=>Iff.rfl
 |t::ts,env,K=>by
  simp only[JZ,force_eq,commit]
  exact Ey ts env _
def Sl:List Nat→Env→Ag→(Env→Ag→Prop)→Prop
 |[],env,s,K=>K env s
 |t::ts,env,s,K=>match env.get t with
  | .own o g off len=>match nth s.σ o with
    |some (.arr g' _ nn cl elems)=>need (g=g'∧cl=true∧off+len≤elems.length) (eqK (sub elems off len) fun xs=>PI s.σ o .dead fun σ=>Sl ts ((t,.sl nn xs)::env) ⟨σ,s.ctr⟩ K)
    |_=>False
  | .ref o g i off=>match nth s.σ o with
    |some (.arr g' _ nn cl elems)=>match cl,elems with
     |false,[x]=>match LH x.cells 0 with
      |some (k,o2,g2,a2,n2)=>match nth s.σ o2 with
       |some (.arr g3 _ nn3 cl3 Ik)=>need ((g=g'∧i=0∧off=0∧g2=g3∧o2≠o∧a2+n2≤Ik.length∧cl3=true)∧DU (x.cells.set k (.sl nn3 (sub Ik a2 n2)))=true) (eqK (sub Ik a2 n2) fun xs=>PI s.σ o2 .dead fun σ1=>PI σ1 o .dead fun σ2=>Sl ts ((t,.CS (x.cells.set k (.sl nn3 xs)))::env) ⟨σ2,s.ctr⟩ K)
       |_=>False
      |none=>False
     |cl,elems=>need (g=g'∧cl=true) (Qx elems i fun x=>PI s.σ o .dead fun σ=>Sl ts ((t,.CS (x.cells.drop off))::env) ⟨σ,s.ctr⟩ K)
    |_=>False
  | .map o g=>match nth s.σ o with
    |some (.mp g' cl ents)=>need (g=g'∧cl=true∧WU ents=true) (PI s.σ o .dead fun σ=>Sl ts ((t,.fmap ents)::env) ⟨σ,s.ctr⟩ K)
    |_=>False
  | .sl nn xs=>Sl ts ((t,.sl nn xs)::env) s K
  | .zc=>Sl ts ((t,.zc)::env) s K
  |_=>False
theorem D6:∀{ts:List Nat} {env:Env} {s:Ag} {K:Env→Ag→Prop},Sl ts env s K→∃env' s',Fz ts env s=some (env',s')∧K env' s'
 |[],env,s,K,h=>⟨env,s,rfl,h⟩
 |t::ts,env,s,K,h=>by
  simp only[Sl]at h
  split at h
  ·rename_i o g off len hv
   split at h
   ·rename_i g' es nn cl elems ho
    obtain⟨⟨rfl,rfl,hf⟩,xs,rfl,h⟩:=h
    rw[CZ]at h
    obtain⟨env',s',h1,h2⟩:=D6 h
    exact⟨env',s',by simp only[Fz,hv,ho,true_and,if_pos hf];exact h1,h2⟩
   ·cases h
  ·rename_i o g i off hv
   split at h
   ·rename_i g' es nn cl elems ho
    split at h
    ·rename_i x
     split at h
     ·rename_i k o2 g2 a2 n2 hoc
      split at h
      ·rename_i g3 es3 nn3 cl3 Ik ho2
       obtain⟨⟨⟨hq1,hq2,hq3,hq4,hq5,hq6,rfl⟩,hcl⟩,xs,rfl,h⟩:=h
       rw[CZ,CZ]at h
       obtain⟨env',s',h1,h2⟩:=D6 h
       refine⟨env',s',?_,h2⟩
       simp only[Fz,hv,ho,hoc,ho2]
       rw[if_pos ⟨hq1,hq2,hq3,hq4,hq5,hq6,hcl⟩]
       exact h1
      ·cases h
     ·cases h
    ·obtain⟨⟨rfl,rfl⟩,⟨x,hx,h⟩⟩:=h
     rw[CZ]at h
     obtain⟨env',s',h1,h2⟩:=D6 h
     exact⟨env',s',by simp only[Fz,hv,ho,if_pos,hx];exact h1,h2⟩
   ·cases h
  ·rename_i o g hv
   split at h
   ·rename_i g' cl ents ho
    obtain⟨⟨rfl,rfl,hk⟩,h⟩:=h
    rw[CZ]at h
    obtain⟨env',s',h1,h2⟩:=D6 h
    exact⟨env',s',by simp only[Fz,hv,ho,true_and,if_pos hk];exact h1,h2⟩
   ·cases h
  ·rename_i nn xs hv
   obtain⟨env',s',h1,h2⟩:=D6 h
   exact⟨env',s',by simp only[Fz,hv];exact h1,h2⟩
  ·rename_i hv
   obtain⟨env',s',h1,h2⟩:=D6 h
   exact⟨env',s',by simp only[Fz,hv];exact h1,h2⟩
  ·cases h
def UO {α:Type}:Nat→List α→(List α→Prop)→Prop
 |0,_,K=>K []
 |_+1,[],K=>K []
 |n+1,x::xs,K=>UO n xs fun ys=>K (x::ys)
theorem PL {α:Type}:∀(n:Nat) (l:List α) (K:List α→Prop),UO n l K↔K (l.take n)
 |0,_,_=>by simp[UO]
 |_+1,[],_=>by simp[UO]
 |n+1,x::xs,K=>PL n xs fun ys=>K (x::ys)
def AcB (tr:Option Nat) (s:Ag) (K:Ag→Prop):Prop:=match tr with
 |none=>K s
 |some k=>UO (kept k s.σ.length) s.σ fun σ=>K ⟨σ,s.ctr⟩
theorem Nu (tr:Option Nat) (s:Ag) (K:Ag→Prop):AcB tr s K↔K (truncate tr s):=by
 cases tr with
 |none=>exact Iff.rfl
 |some k=>exact PL _ s.σ _
def AcC (live:List Nat) (tr:Option Nat) (Q:Az→Env→Ag→Prop) (e:Az) (env:Env) (s:Ag):Prop:=match e with
 | .normal=>JZ live env fun env=>AcB tr s fun s=>Q .normal env s
 |e=>Q e env s
def AkA (k:Env→Ag→Prop) (Q:Az→Env→Ag→Prop) (e:Az) (env:Env) (s:Ag):Prop:=match e with
 | .normal=>k env s
 |e=>Q e env s
def Aij (id:Nat) (Q:Az→Env→Ag→Prop) (e:Az) (env:Env) (s:Ag):Prop:=match e with
 | .exit j=>Kq (Nat.beq j id) (Q .normal env s) (Q (.exit j) env s)
 |e=>Q e env s
def VU (AP:Nat→Option Hf) (o:BN) (r g:Nat) (env:Env) (s:Ag) (K:AV→Option (Nat×Obj)→Nat→Prop):Prop:=
 JY AP o env s fun out s'=>match out with
    | .Ee _=>False
    | .ok v=>match o.cls with
      |some .e=>K v none 0
      |some .r=>K v none 0
      |some .w=>match o.writes r env with
       |[t]=>match nth s'.σ t with
        |some ob=>K v (some (t,ob)) 0
        |none=>False
       |_=>False
      |some .a=>match nth s'.σ v.idx with
       |some ob=>bif Nat.blt v.idx s.σ.length then K (v.moved v.idx g) (some (v.idx,ob.P5 g)) 1
        else match nth s.σ r with
           |some .dead=>K (v.moved r g) (some (r,ob.P5 g)) 1
           |_=>False
       |none=>False
      |none=>False
theorem VW {o:BN} {r g:Nat} {env:Env} {s:Ag} {K:AV→Option (Nat×Obj)→Nat→Prop} (h:VU AP o r g env s K):∃N v u b,Il (run AP N) o r g env s=some (v,u,b)∧K v u b:=by
 obtain⟨N,out,s',h1,h2⟩:=Ie h
 cases out with
 |Ee v=>cases h2
 |ok v=>
  simp only at h2
  split at h2
  ·rename_i hc;exact⟨N,_,_,_,by simp only[Il,hc,h1],h2⟩
  ·rename_i hc;exact⟨N,_,_,_,by simp only[Il,hc,h1],h2⟩
  ·rename_i hc
   split at h2
   ·rename_i t ht
    split at h2
    ·rename_i ob hob;exact⟨N,_,_,_,by simp only[Il,hc,h1,ht,hob],h2⟩
    ·cases h2
   ·cases h2
  ·rename_i hc
   split at h2
   ·rename_i ob hob
    cases hb:Nat.blt v.idx s.σ.length
    ·rw[hb,cond_false]at h2
     have hlt:¬v.idx<s.σ.length:=fun hlt=>by
      have:=(show (Nat.blt v.idx s.σ.length=true) from Nat.blt_eq▸hlt)
      rw[hb]at this;cases this
     split at h2
     ·rename_i hd
      exact⟨N,_,_,_,by simp only[Il,hc,h1,hob,if_neg hlt,hd],h2⟩
     ·cases h2
    ·rw[hb,cond_true]at h2
     exact⟨N,_,_,_,by simp only[Il,hc,h1,hob,if_pos (show v.idx<s.σ.length from Nat.blt_eq▸hb)],h2⟩
   ·cases h2
  ·cases h2
def LW (u:Option (Nat×Obj)) (b:Nat) (s:Ag) (K:Ag→Prop):Prop:=match u with
 |some (t,ob)=>PI s.σ t ob fun σ=>K ⟨σ,s.ctr+b⟩
 |none=>K ⟨s.σ,s.ctr+b⟩
theorem Qj (u:Option (Nat×Obj)) (b:Nat) (s:Ag) (K:Ag→Prop):LW u b s K↔K (Ep u b s):=by
 unfold LW Ep
 split
 ·exact CZ _ _ _ _
 ·exact Iff.rfl
def YT (AP:Nat→Option Hf) (ops:List Ap):Nat→Nat→Env→Ag→(List Eff→Prop)→Prop:=
 List.rec (motive:=fun _=>Nat→Nat→Env→Ag→(List Eff→Prop)→Prop) (fun _ _ _ _ K=>K [])
    (fun o _ ih r g env s K=>Fa o.guard env
      (VU AP o.op r g env s fun v u b=>LW u b s fun s'=>ih (r+rank o.op) (g+1) (put o.dst v env) s' fun es=>K (⟨o.dst,v,o.op.reads r env,o.op.writes r env,u,b⟩::es))
      (ih (r+rank o.op) (g+1) (put o.dst .undef env) s fun es=>K (⟨o.dst,.undef,[],[],none,0⟩::es))) ops
theorem Aa3 (o:Ap) (os:List Ap) (r g:Nat) (env:Env) (s:Ag) (K:List Eff→Prop):YT AP (o::os) r g env s K=Fa o.guard env
 (VU AP o.op r g env s fun v u b=>LW u b s fun s'=>YT AP os (r+rank o.op) (g+1) (put o.dst v env) s' fun es=>K (⟨o.dst,v,o.op.reads r env,o.op.writes r env,u,b⟩::es))
 (YT AP os (r+rank o.op) (g+1) (put o.dst .undef env) s fun es=>K (⟨o.dst,.undef,[],[],none,0⟩::es)):=rfl
theorem Nv:∀{os:List Ap} {r g:Nat} {env:Env} {s:Ag} {K:List Eff→Prop},YT AP os r g env s K→∃N es,G8 (run AP N) os r g env s=some es∧K es
 |[],r,g,env,s,K,h=>⟨0,_,rfl,h⟩
 |o::os,r,g,env,s,K,h=>by
  have Ip:wanted o.guard env=some false→(YT AP os (r+rank o.op) (g+1) (put o.dst .undef env) s fun es=>K (⟨o.dst,.undef,[],[],none,0⟩::es))→∃N es,G8 (run AP N) (o::os) r g env s=some es∧K es:=by
   intro hw h
   obtain⟨N,es,h1,h2⟩:=Nv h
   exact⟨N,_,by simp only[G8,hw,h1],h2⟩
  have hdo:wanted o.guard env=some true→(VU AP o.op r g env s fun v u b=>LW u b s fun s'=>YT AP os (r+rank o.op) (g+1) (put o.dst v env) s' fun es=>K (⟨o.dst,v,o.op.reads r env,o.op.writes r env,u,b⟩::es))→∃N es,G8 (run AP N) (o::os) r g env s=some es∧K es:=by
   intro hw h
   obtain⟨N,v,u,b,h1,h2⟩:=VW h
   rw[Qj]at h2
   obtain⟨N',es,h3,h4⟩:=Nv h2
   refine⟨max N N',_,?_,h4⟩
   simp only[G8,hw,Sm (BA (Nat.le_max_left N N')) h1,Iz (BA (AP:=AP) (Nat.le_max_right N N')) h3]
  rw[Aa3]at h
  unfold Fa at h
  split at h
  ·rename_i hg
   exact hdo (by rw[hg];rfl) h
  ·rename_i r' b hg
   split at h
   ·rename_i b' hb
    cases hbb:(b'==b)
    ·rw[hbb]at h
     exact Ip (by rw[hg];simp only[wanted,hb,hbb]) h
    ·rw[hbb]at h
     exact hdo (by rw[hg];simp only[wanted,hb,hbb]) h
   ·rename_i hb
    exact Ip (by rw[hg];simp only[wanted,hb]) h
   ·cases h
def ZP {α:Type}:List α→List α→(List α→Prop)→Prop
 |[],ys,K=>K ys
 |x::xs,ys,K=>ZP xs ys fun r=>K (x::r)
theorem PN {α:Type}:∀(xs ys:List α) (K:List α→Prop),ZP xs ys K↔K (xs++ys)
 |[],_,_=>Iff.rfl
 |x::xs,ys,K=>PN xs ys _
def QW:List Eff→Ag→(Ag→Prop)→Prop
 |[],s,K=>K s
 |e::es,s,K=>LW e.upd e.bump s fun s=>QW es s K
theorem Qk:∀(es:List Eff) (s:Ag) (K:Ag→Prop),QW es s K↔K (KD es s)
 |[],_,_=>Iff.rfl
 |e::es,s,K=>by rw[QW,Qj,KD];exact Qk es _ K
def Agq (n:Nat) (σ:List Obj) (K:List Obj→Prop):Prop:=match n with
 |0=>K σ
 |n+1=>ZP σ (List.replicate (n+1) .dead) K
theorem AcD (n:Nat) (σ:List Obj) (K:List Obj→Prop):Agq n σ K↔K (σ++List.replicate n .dead):=by
 cases n with
 |zero=>simp[Agq]
 |succ n=>exact PN _ _ _
def Xz {α:Type}:Nat→List α→(List α→Prop)→Prop
 |0,xs,K=>K xs
 |_+1,[],K=>K []
 |n+1,_::xs,K=>Xz n xs K
theorem UQ {α:Type}:∀(n:Nat) (l:List α) (K:List α→Prop),Xz n l K↔K (l.drop n)
 |0,_,_=>by simp[Xz]
 |_+1,[],_=>by simp[Xz]
 |n+1,_::xs,K=>UQ n xs K
def AcE (AP:Nat→Option Hf) (m:Nat) (un:List (Nat×Nat)) (ops:List Ap) (env:Env) (s:Ag) (K:Env→Ag→Prop):Prop:=
 UO m ops fun hd=>Agq (ranks hd) s.σ fun σ=>YT AP hd s.σ.length s.ctr env ⟨σ,s.ctr+m⟩ fun es=>
    need (Jh es un=true) (QW es ⟨σ,s.ctr+m⟩ fun s1=>K (MX es env) s1)
theorem XA {m:Nat} {un:List (Nat×Nat)} {ops:List Ap} {env:Env} {s:Ag} {K:Env→Ag→Prop} (h:AcE AP m un ops env s K):∃N BD s1,KE (run AP N) m un ops env s=some (BD,s1)∧K BD s1:=by
 unfold AcE at h
 rw[PL,AcD]at h
 obtain⟨N,es,h1,h2,h3⟩:=Nv h
 rw[Qk]at h3
 exact⟨N,_,_,by simp only[KE,h1,if_pos h2],h3⟩
def AcF (AP:Nat→Option Hf) (op:BN) (env:Env) (v:AV):List Ag→Prop→Prop
 |[],T=>T
 |S::r,T=>JY AP op env S fun out _=>match out with
  | .ok u=>need (A8 u v=true) (AcF AP op env v r T)
  | .Ee _=>False
def AcG (AP:Nat→Option Hf) (S:Ag):List (BN×Env×AV)→Prop→Prop
 |[],T=>T
 |(op,env,v)::r,T=>JY AP op env S fun out _=>match out with
  | .ok u=>need (A8 u v=true) (AcG AP S r T)
  | .Ee _=>False
theorem Ql {op:BN} {env:Env} {v:AV}:∀{past:List Ag} {T:Prop},AcF AP op env v past T→(∃ N,JF (run AP N) op env v past=true)∧T
 |[],T,h=>⟨⟨0,rfl⟩,h⟩
 |S::r,T,h=>by
  obtain⟨N,out,s',h1,h2⟩:=Ie h
  cases out with
  |Ee u=>exact h2.elim
  |ok u=>
   obtain⟨h3,h4⟩:=h2
   obtain⟨⟨N',h5⟩,h6⟩:=Ql h4
   refine⟨⟨max N N',?_⟩,h6⟩
   simp only[JF,BJ (BA (Nat.le_max_left N N')) h1,h3,I7 (BA (Nat.le_max_right N N')) h5,Bool.and_self]
theorem Qm {S:Ag}:∀{pend:List (BN×Env×AV)} {T:Prop},AcG AP S pend T→(∃ N,JG (run AP N) S pend=true)∧T
 |[],T,h=>⟨⟨0,rfl⟩,h⟩
 |(op,env,v)::r,T,h=>by
  obtain⟨N,out,s',h1,h2⟩:=Ie h
  cases out with
  |Ee u=>exact h2.elim
  |ok u=>
   obtain⟨h3,h4⟩:=h2
   obtain⟨⟨N',h5⟩,h6⟩:=Qm h4
   refine⟨⟨max N N',?_⟩,h6⟩
   simp only[JG,BJ (BA (Nat.le_max_left N N')) h1,h3,I8 (BA (Nat.le_max_right N N')) h5,Bool.and_self]
def La (AP:Nat→Option Hf) (E:List Nat) (ops:List Ap):Nat→Env→Ag→Prop→Prop:=
 List.rec (motive:=fun _=>Nat→Env→Ag→Prop→Prop) (fun _ _ _ T=>T)
    (fun o _ ih i env s T=>bif Dp i E then Fa o.guard env
      (JY AP o.op env s fun out _=>match out with
        | .ok v=>bif flt o then ih (i+1) (put o.dst v env) s T else False
        | .Ee _=>False)
      (ih (i+1) (put o.dst .undef env) s T)
      else ih (i+1) env s T) ops
theorem XB (E:List Nat) (o:Ap) (os:List Ap) (i:Nat) (env:Env) (s:Ag) (T:Prop):La AP E (o::os) i env s T=bif Dp i E then Fa o.guard env
        (JY AP o.op env s fun out _=>match out with
          | .ok v=>bif flt o then La AP E os (i+1) (put o.dst v env) s T else False
          | .Ee _=>False)
        (La AP E os (i+1) (put o.dst .undef env) s T)
 else La AP E os (i+1) env s T:=rfl
theorem H6 {E:List Nat}:∀{os:List Ap} {i:Nat} {env:Env} {s:Ag} {T:Prop},La AP E os i env s T→(∃ N,DW (run AP N) E os i env s=true)∧T
 |[],i,env,s,T,h=>⟨⟨0,rfl⟩,h⟩
 |o::os,i,env,s,T,h=>by
  rw[XB]at h
  cases hm:Dp i E with
  |false=>
   rw[hm,cond_false]at h
   obtain⟨⟨N,h1⟩,h2⟩:=H6 h
   exact⟨⟨N,by simp only[DW,hm,Bool.false_eq_true,if_false];exact h1⟩,h2⟩
  |true=>
   rw[hm,cond_true]at h
   have Ip:wanted o.guard env=some false→La AP E os (i+1) (put o.dst .undef env) s T→(∃ N,DW (run AP N) E (o::os) i env s=true)∧T:=by
        intro hw h
        obtain⟨⟨N,h1⟩,h2⟩:=H6 h
        exact⟨⟨N,by simp only[DW,hm,if_true,hw];exact h1⟩,h2⟩
   have hdo:wanted o.guard env=some true→(JY AP o.op env s fun out _=>match out with
    | .ok v=>bif flt o then La AP E os (i+1) (put o.dst v env) s T else False
    | .Ee _=>False)→(∃ N,DW (run AP N) E (o::os) i env s=true)∧T:=by
        intro hw h
        obtain⟨N,out,s1,h1,h2⟩:=Ie h
        cases out with
        |Ee v=>exact h2.elim
        |ok v=>
         dsimp only at h2
         cases hf:flt o with
         |false=>rw[hf]at h2;exact h2.elim
         |true=>
          rw[hf,cond_true]at h2
          obtain⟨⟨N',h3⟩,h4⟩:=H6 h2
          refine⟨⟨max N N',?_⟩,h4⟩
          simp only[DW,hm,if_true,hw,BJ (BA (AP:=AP) (Nat.le_max_left N N')) h1,hf,EF (BA (AP:=AP) (Nat.le_max_right N N')) h3,Bool.and_self]
   unfold Fa at h
   split at h
   ·rename_i hg
    exact hdo (by rw[hg];rfl) h
   ·rename_i r b hg
    split at h
    ·rename_i b' hb
     cases hbb:(b'==b)
     ·rw[hbb]at h
      exact Ip (by rw[hg];simp only[wanted,hb,hbb]) h
     ·rw[hbb]at h
      exact hdo (by rw[hg];simp only[wanted,hb,hbb]) h
    ·rename_i hb
     exact Ip (by rw[hg];simp only[wanted,hb]) h
    ·cases h
def XC (AP:Nat→Option Hf) (m:Nat) (W pc:List Nat) (o:Ap) (os:List Ap) (i:Nat) (k:Env→Ag→List (BN×Env×AV)→List Ag→Prop) (Q:Az→Env→Ag→Prop) (env:Env) (s:Ag) (pend:List (BN×Env×AV)) (past:List Ag) (out:AL) (s1:Ag):Prop:=match out with
 | .Ee v=>match pc with
   |p::E=>bif Nat.beq i p&&!(Dp i W||(flt o||Nat.blt i m))then La AP E os (i+1) env s (Q (.Ee v) [] s1)else False
   |[]=>False
 | .ok v=>bif Dp i W then bif o.op.EM then AcF AP o.op env v past (k (put o.dst v env) s ((o.op,env,v)::pend) past)else False
   else bif flt o||Nat.blt i m then k (put o.dst v env) s pend past
   else AcG AP s1 pend (k (put o.dst v env) s1 pend (s::past))
def YU (AP:Nat→Option Hf) (m:Nat) (W pc:List Nat) (ops:List Ap):Nat→Env→Ag→List (BN×Env×AV)→List Ag→(Az→Env→Ag→Prop)→Prop:=
 List.rec (motive:=fun _=>Nat→Env→Ag→List (BN×Env×AV)→List Ag→(Az→Env→Ag→Prop)→Prop) (fun _ env s _ _ K=>K .normal env s)
    (fun o os ih i env s pend past K=>Fa o.guard env (JY AP o.op env s (XC AP m W pc o os i (fun env s pend past=>ih (i+1) env s pend past K) K env s pend past))
      (ih (i+1) (put o.dst .undef env) s pend past K)) ops
theorem Aa4 (m:Nat) (W pc:List Nat) (o:Ap) (os:List Ap) (i:Nat) (env:Env) (s:Ag) (pend:List (BN×Env×AV)) (past:List Ag) (K:Az→Env→Ag→Prop):YU AP m W pc (o::os) i env s pend past K=Fa o.guard env
 (JY AP o.op env s (XC AP m W pc o os i (fun env s pend past=>YU AP m W pc os (i+1) env s pend past K) K env s pend past))
 (YU AP m W pc os (i+1) (put o.dst .undef env) s pend past K):=rfl
theorem IB {m:Nat} {W pc:List Nat}:∀{os:List Ap} {i:Nat} {env:Env} {s:Ag} {pend:List (BN×Env×AV)} {past:List Ag} {K:Az→Env→Ag→Prop},YU AP m W pc os i env s pend past K→∃N x env' s',FB (run AP N) m W pc os i env s pend past=some (x,env',s')∧K x env' s'
 |[],i,env,s,pend,past,K,h=>⟨0,_,_,_,rfl,h⟩
 |o::os,i,env,s,pend,past,K,h=>by
  have Ip:wanted o.guard env=some false→YU AP m W pc os (i+1) (put o.dst .undef env) s pend past K→∃N x env' s',FB (run AP N) m W pc (o::os) i env s pend past=some (x,env',s')∧K x env' s':=by
   intro hw h
   obtain⟨N,x,env',s',h1,h2⟩:=IB h
   exact⟨N,x,env',s',by simp only[FB,hw];exact h1,h2⟩
  have hdo:wanted o.guard env=some true→JY AP o.op env s (XC AP m W pc o os i (fun env s pend past=>YU AP m W pc os (i+1) env s pend past K) K env s pend past)→∃N x env' s',FB (run AP N) m W pc (o::os) i env s pend past=some (x,env',s')∧K x env' s':=by
   intro hw h
   obtain⟨N,out,s1,h1,h2⟩:=Ie h
   cases out with
   |Ee v=>
    simp only[XC]at h2
    cases pc with
    |nil=>exact h2.elim
    |cons p E=>
     dsimp only at h2
     cases hc:(Nat.beq i p&&!(Dp i W||(flt o||Nat.blt i m)))with
     |false=>rw[hc]at h2;exact h2.elim
     |true=>
      rw[hc,cond_true]at h2
      obtain⟨⟨N1,h3⟩,h4⟩:=H6 h2
      refine⟨max N N1,_,_,_,?_,h4⟩
      simp only[FB,hw,BJ (BA (AP:=AP) (Nat.le_max_left N N1)) h1,hc,EF (BA (AP:=AP) (Nat.le_max_right N N1)) h3,Bool.and_self,if_true]
   |ok v=>
    simp only[XC]at h2
    cases hm:Dp i W with
    |true=>
     rw[hm,cond_true]at h2
     cases hp:o.op.EM with
     |false=>rw[hp]at h2;exact h2.elim
     |true=>
      rw[hp,cond_true]at h2
      obtain⟨⟨N1,h3⟩,h4⟩:=Ql h2
      obtain⟨N2,x,env',s',h5,h6⟩:=IB h4
      refine⟨max N (max N1 N2),x,env',s',?_,h6⟩
      simp only[FB,hw,BJ (BA (AP:=AP) (Nat.le_max_left N (max N1 N2))) h1,hm,hp,I7 (BA (AP:=AP) (show N1≤max N (max N1 N2) by omega)) h3,Bool.and_self,if_true]
      exact D7 (BA (show N2≤max N (max N1 N2) by omega)) h5
    |false=>
     rw[hm,cond_false]at h2
     cases hf:(flt o||Nat.blt i m)with
     |true=>
      rw[hf,cond_true]at h2
      obtain⟨N2,x,env',s',h5,h6⟩:=IB h2
      refine⟨max N N2,x,env',s',?_,h6⟩
      simp only[FB,hw,BJ (BA (AP:=AP) (Nat.le_max_left N N2)) h1,hm,hf,if_true,Bool.false_eq_true,if_false]
      exact D7 (BA (Nat.le_max_right N N2)) h5
     |false=>
      rw[hf,cond_false]at h2
      obtain⟨⟨N1,h3⟩,h4⟩:=Qm h2
      obtain⟨N2,x,env',s',h5,h6⟩:=IB h4
      refine⟨max N (max N1 N2),x,env',s',?_,h6⟩
      simp only[FB,hw,BJ (BA (AP:=AP) (Nat.le_max_left N (max N1 N2))) h1,hm,hf,I8 (BA (AP:=AP) (show N1≤max N (max N1 N2) by omega)) h3,if_true,Bool.false_eq_true,if_false]
      exact D7 (BA (show N2≤max N (max N1 N2) by omega)) h5
  rw[Aa4]at h
  unfold Fa at h
  split at h
  ·rename_i hg
   exact hdo (by rw[hg];rfl) h
  ·rename_i r b hg
   split at h
   ·rename_i b' hb
    cases hbb:(b'==b)
    ·rw[hbb]at h
     exact Ip (by rw[hg];simp only[wanted,hb,hbb]) h
    ·rw[hbb]at h
     exact hdo (by rw[hg];simp only[wanted,hb,hbb]) h
   ·rename_i hb
    exact Ip (by rw[hg];simp only[wanted,hb]) h
   ·cases h
def AcH (v:AV) (A B:Prop):Prop:=match v with
 | .bool c=>Kq c A B
 |_=>False
def vC (AP:Nat→Option Hf) (c:AY):Env→Ag→(Az→Env→Ag→Prop)→Prop:=
 AY.rec (motive:=fun _=>Env→Ag→(Az→Env→Ag→Prop)→Prop)
    (fun env s Q=>Q .normal env s)
    (fun _ JB ops live tr env s Q=>Sl JB env s fun env s=>Xy AP ops env s (AcC live tr Q))
    (fun m un JB ops live tr env s Q=>Sl JB env s fun env s=>AcE AP m un ops env s fun BD s1=>Xz m ops fun tl=>Xy AP tl BD s1 (AcC live tr Q))
    (fun m W pc JB ops live tr env s Q=>Sl JB env s fun env s=>YU AP m W pc ops 0 env s [] [] (AcC live tr Q))
    (fun _ _ iha ihb env s Q=>iha env s (AkA (fun env s=>ihb env s Q) Q))
    (fun c _ _ iha ihb env s Q=>AcH (c.val env) (iha env s Q) (ihb env s Q))
    (fun id _ iha env s Q=>iha env s (Aij id Q))
    (fun live a _ env s Q=>JZ live env fun env=>Run AP (.loop live a) env s Q)
    (fun id env s Q=>Q (.exit id) env s)
    (fun env s Q=>Q .ret env s) c
theorem Sr {env:Env} {t:Nat}:∀{ts:List Nat},t∈ts→(commit env ts).get t=env.get t
 |[],h=>by simp at h
 |t'::ts,h=>by
  simp only[commit,Env.get]
  cases hb:Nat.beq t' t
  ·have hne:t≠t':=fun e=>by subst e;simp at hb
   rw[cond_false]
   exact Sr ((List.mem_cons.1 h).resolve_left hne)
  ·rw[cond_true,Nat.eq_of_beq_eq_true hb]
theorem OB {env env':Env}:∀{ts:List Nat},(∀ t∈ts,env.get t=env'.get t)→commit env ts=commit env' ts
 |[],_=>rfl
 |t::ts,h=>by simp only[commit];rw[h t (by simp),OB fun t' h'=>h t' (by simp[h'])]
theorem Uj (env:Env) (ts:List Nat):commit (commit env ts) ts=commit env ts:=OB fun _ h=>Sr h
theorem Qn {live:List Nat} {a:AY} {env:Env} {s:Ag} {Q:Az→Env→Ag→Prop} (h:Run AP (.loop live a) (commit env live) s Q):Run AP (.loop live a) env s Q:=by
 obtain⟨N,e,env',s',h1,h2⟩:=h
 refine⟨N,e,env',s',?_,h2⟩
 simp only[EO]at h1 ⊢
 cases N with
 |zero=>simp[iter]at h1
 |succ N=>
  simp only[iter,Uj]at h1 ⊢
  exact h1
theorem GU:∀{c:AY} {env:Env} {s:Ag} {Q:Az→Env→Ag→Prop},vC AP c env s Q→Run AP c env s Q:=by
 intro c
 induction c with
 |skip=>intro env s Q h;exact⟨0,_,_,_,rfl,h⟩
 |exit id=>intro env s Q h;exact⟨0,_,_,_,rfl,h⟩
 |ret=>intro env s Q h;exact⟨0,_,_,_,rfl,h⟩
 |region hd JB ops live tr=>
  intro env s Q h
  obtain⟨BD,s1,h1,h2⟩:=D6 h
  obtain⟨N,e,Di,s2,h3,h4⟩:=Gv h2
  cases e with
  |normal=>exact⟨N,_,_,_,by simp only[EO,h1,h3],(Nu _ _ _).1 ((Ey _ _ _).1 h4)⟩
  |exit id=>exact⟨N,_,_,_,by simp only[EO,h1,h3],h4⟩
  |ret=>exact⟨N,_,_,_,by simp only[EO,h1,h3],h4⟩
  |Ee v=>exact⟨N,_,_,_,by simp only[EO,h1,h3],h4⟩
 |mix m W pc JB ops live tr=>
  intro env s Q h
  obtain⟨BD,s1,h1,h2⟩:=D6 h
  obtain⟨N,e,Di,s2,h3,h4⟩:=IB h2
  cases e with
  |normal=>exact⟨N,_,_,_,by simp only[EO,h1,h3],(Nu _ _ _).1 ((Ey _ _ _).1 h4)⟩
  |exit id=>exact⟨N,_,_,_,by simp only[EO,h1,h3],h4⟩
  |ret=>exact⟨N,_,_,_,by simp only[EO,h1,h3],h4⟩
  |Ee v=>exact⟨N,_,_,_,by simp only[EO,h1,h3],h4⟩
 |par m un JB ops live tr=>
  intro env s Q h
  obtain⟨BD,s1,h1,h2⟩:=D6 h
  obtain⟨N',Aik,s1',hh,h2⟩:=XA h2
  rw[UQ]at h2
  obtain⟨N,e,Di,s2,h3,h4⟩:=Gv h2
  have hh':KE (run AP (max N N')) m un ops BD s1=some (Aik,s1'):=by
   unfold KE at hh ⊢
   split at hh
   ·rename_i es hes
    rw[Iz (BA (Nat.le_max_right N N')) hes]
    exact hh
   ·cases hh
  have h3':=Ew (BA (AP:=AP) (Nat.le_max_left N N')) h3
  cases e with
  |normal=>exact⟨max N N',_,_,_,by simp only[EO,h1,hh',h3'],(Nu _ _ _).1 ((Ey _ _ _).1 h4)⟩
  |exit id=>exact⟨max N N',_,_,_,by simp only[EO,h1,hh',h3'],h4⟩
  |ret=>exact⟨max N N',_,_,_,by simp only[EO,h1,hh',h3'],h4⟩
  |Ee v=>exact⟨max N N',_,_,_,by simp only[EO,h1,hh',h3'],h4⟩
 |seq a b iha ihb=>
  intro env s Q h
  obtain⟨N,e,BD,s1,h1,h2⟩:=iha h
  cases e with
  |normal=>
   obtain⟨N',e',Di,s2,h3,h4⟩:=ihb h2
   have h1':=EY (BA (AP:=AP) (Nat.le_max_left N N')) (Nat.le_max_left N N') h1
   have h3':=EY (BA (AP:=AP) (Nat.le_max_right N N')) (Nat.le_max_right N N') h3
   exact⟨max N N',e',Di,s2,by simp only[EO,h1',h3'],h4⟩
  |exit id=>exact⟨N,_,_,_,by simp only[EO,h1],h2⟩
  |ret=>exact⟨N,_,_,_,by simp only[EO,h1],h2⟩
  |Ee v=>exact⟨N,_,_,_,by simp only[EO,h1],h2⟩
 |cond c a b iha ihb=>
  intro env s Q h
  change AcH (c.val env) (vC AP a env s Q) (vC AP b env s Q)at h
  unfold AcH at h
  split at h
  ·rename_i c' hc
   cases c'
   ·obtain⟨N,e,BD,s1,h1,h2⟩:=ihb h
    exact⟨N,e,BD,s1,by simp only[EO,hc,h1],h2⟩
   ·obtain⟨N,e,BD,s1,h1,h2⟩:=iha h
    exact⟨N,e,BD,s1,by simp only[EO,hc,h1],h2⟩
  ·cases h
 |block id a iha=>
  intro env s Q h
  obtain⟨N,e,BD,s1,h1,h2⟩:=iha h
  cases e with
  |normal=>exact⟨N,_,_,_,by simp only[EO,h1],h2⟩
  |exit j=>
   simp only[Aij]at h2
   cases hb:Nat.beq j id
   ·rw[hb]at h2
    have hne:j≠id:=fun e=>by subst e;simp at hb
    exact⟨N,_,_,_,by simp only[EO,h1,if_neg hne],h2⟩
   ·rw[hb]at h2
    exact⟨N,_,_,_,by simp only[EO,h1,if_pos (Nat.eq_of_beq_eq_true hb)],h2⟩
  |ret=>exact⟨N,_,_,_,by simp only[EO,h1],h2⟩
  |Ee v=>exact⟨N,_,_,_,by simp only[EO,h1],h2⟩
 |loop live a iha=>
  intro env s Q h
  exact Qn ((Ey _ _ _).1 h)
def AcI (AP:Nat→Option Hf) (live:List Nat) (a:AY) (Q:Az→Env→Ag→Prop) (e:Az) (env:Env) (s:Ag):Prop:=match e with
 | .normal=>JZ live env fun env=>Run AP (.loop live a) env s Q
 |e=>Q e env s
def Aeu (fn:FC) (K:AL→Ag→Prop) (e:Az) (env:Env) (s:Ag):Prop:=match e with
 | .normal=>KA (Fh env s fn.results) fun vs=>K (.ok (EH vs)) s
 | .ret=>KA (Fh env s fn.results) fun vs=>K (.ok (EH vs)) s
 | .Ee v=>K (.Ee v) s
 | .exit _=>False
theorem Sv {f:Nat} {fn:FC} {args:List AV} {s:Ag} {K:AL→Ag→Prop} (hf:AP f=some (.code fn)) (hl:args.length=fn.np) (h:Run AP fn.body (params args 0) s (Aeu fn K)):DC AP f args s K:=by
 obtain⟨N,e,env,s',h1,h2⟩:=h
 cases e with
 |normal=>
  obtain⟨vs,h3,h4⟩:=h2
  exact⟨N+1,_,_,by simp only[run,hf,if_pos hl,evF,h1,h3,Option.map_some],h4⟩
 |ret=>
  obtain⟨vs,h3,h4⟩:=h2
  exact⟨N+1,_,_,by simp only[run,hf,if_pos hl,evF,h1,h3,Option.map_some],h4⟩
 |Ee v=>exact⟨N+1,_,_,by simp only[run,hf,if_pos hl,evF,h1],h2⟩
 |exit id=>cases h2
end AI
end Go.Proofs.YtiimoiecghmebaaDoor
namespace Go.Proofs.YtiimoiecghmebaaDoor
namespace AI
open Go.RowKit
variable {AP:Nat→Option Hf}
def Ail (live:List Nat) (I:Env→Ag→Prop) (Q:Az→Env→Ag→Prop) (e:Az) (env:Env) (s:Ag):Prop:=match e with
 | .normal=>JZ live env fun env=>I env s
 |e=>Q e env s
structure again (I:Nat→Env→Ag→Prop) (m:Nat) (env:Env) (s:Ag):Prop where
 mk::(h:∃m',m'<m∧I m' env s)
theorem Au {live:List Nat} {a:AY} {Q:Az→Env→Ag→Prop} (I:Nat→Env→Ag→Prop)
 (hI:∀m env s,I m env s→commit env live=env∧vC AP a env s (Ail live (again I m) Q)):
 ∀m env s,I m env s→Run AP (.loop live a) env s Q:=by
 intro m
 induction m using Nat.strongRecOn with
 |ind m ih=>
  intro env s h
  obtain⟨hc,h1⟩:=hI m env s h
  obtain⟨N,e,BD,s1,h2,h3⟩:=GU h1
  have hr:Run AP a env s (AcI AP live a Q):=by
   refine⟨N,e,BD,s1,h2,?_⟩
   cases e with
   |normal=>
    simp only[Ail,AcI,Ey]at h3 ⊢
    obtain⟨m',hm,h4⟩:=h3
    exact ih m' hm _ _ h4
   |exit id=>exact h3
   |ret=>exact h3
   |Ee v=>exact h3
  obtain⟨N,e,BD,s1,h1,h2⟩:=hr
  cases e with
  |normal=>
   obtain⟨N',e',Di,s2,h3,h4⟩:=Qn ((Ey _ _ _).1 h2)
   refine⟨max N N'+1,e',Di,s2,?_,h4⟩
   have h1':=EY (BA (AP:=AP) (show N≤max N N'+1 by omega)) (show N≤max N N'+1 by omega) h1
   simp only[EO]at h3 ⊢
   rw[iter.eq_2]
   rw[hc,h1']
   exact PO (fun env s r hr=>EY (BA (by omega)) (by omega) hr) (by omega) h3
  |exit id=>exact⟨N+1,_,_,_,by simp only[EO,iter.eq_2,hc,EY (BA (AP:=AP) (Nat.le_succ N)) (Nat.le_succ N) h1],h2⟩
  |ret=>exact⟨N+1,_,_,_,by simp only[EO,iter.eq_2,hc,EY (BA (AP:=AP) (Nat.le_succ N)) (Nat.le_succ N) h1],h2⟩
  |Ee v=>exact⟨N+1,_,_,_,by simp only[EO,iter.eq_2,hc,EY (BA (AP:=AP) (Nat.le_succ N)) (Nat.le_succ N) h1],h2⟩
structure Aw (AP:Nat→Option Hf) (f:Nat) (args:List AV) (R:AV→Prop):Prop where
 mk::(h:∃v,Pure AP f args v∧R v)
def Agr (R:AV→Prop) (out:AL) (s:Ag):Prop:=match out with
 | .ok r=>ZM s.σ Dc r R
 | .Ee _=>False
theorem Ah {f:Nat} {fn:FC} {args:List AV} {R:AV→Prop} (hf:AP f=some (.code fn)) (hl:args.length=fn.np) (h:vC AP fn.body (params args 0) ⟨[],0⟩ (Aeu fn (Agr R))):Aw AP f args R:=by
 obtain⟨N,out,s',h1,h2⟩:=Sv hf hl (GU h)
 cases out with
 |ok r=>
  have h2:ZM s'.σ Dc r R:=h2
  obtain⟨v,h3,h4⟩:=Xv h2
  exact⟨v,⟨N,by simp only[Ce,h1];exact h3⟩,h4⟩
 |Ee r=>cases h2
theorem Ac {f:Nat} {args:List AV} {R:AV→Prop} {K:AV→Prop} (h:Aw AP f args R) (h2:∀v,R v→K v):ZH AP f args K:=by
 obtain⟨v,h3,h4⟩:=h
 exact⟨v,h3,h2 v h4⟩
theorem FD {f:Nat} {args:List AV} {p:Prop} [Decidable p] {K:AV→Prop} (h:Aw AP f args (· =.bool (decide p))) (h1:p→K (.bool true)) (h2:¬p→K (.bool false)):ZH AP f args K:=by
 refine Ac h ?_
 rintro _ rfl
 by_cases hp:p
 ·rw[decide_eq_true hp];exact h1 hp
 ·rw[decide_eq_false hp];exact h2 hp
theorem DC.mono {f:Nat} {args:List AV} {s:Ag} {K K':AL→Ag→Prop} (h:DC AP f args s K) (hk:∀out s,K out s→K' out s):DC AP f args s K':=by
 obtain⟨N,out,s',h1,h2⟩:=h
 exact⟨N,out,s',h1,hk _ _ h2⟩
theorem Fg {p:Prop} [Decidable p] (h:p):AV.bool true=AV.bool (decide p):=by rw[decide_eq_true h]
theorem Dn {p:Prop} [Decidable p] (h:¬p):AV.bool false=AV.bool (decide p):=by rw[decide_eq_false h]
theorem Aw.mono {f:Nat} {args:List AV} {R R':AV→Prop} (h:Aw AP f args R) (h2:∀v,R v→R' v):Aw AP f args R':=by
 obtain⟨v,h3,h4⟩:=h
 exact⟨v,h3,h2 v h4⟩
theorem LX {f:Nat} {fn:FC} {args:List AV} {s:Ag} {K:AL→Ag→Prop} (hf:AP f=some (.code fn)) (hl:args.length=fn.np) (h:vC AP fn.body (params args 0) s (Aeu fn K)):DC AP f args s K:=
 Sv hf hl (GU h)
end AI
end Go.Proofs.YtiimoiecghmebaaDoor
namespace Go.Proofs.YtiimoiecghmebaaDoor
namespace AI
def ints (l:List Int):List AV:=l.map (.int .i64)
@[simp] theorem lI (l:List Int):(ints l).length=l.length:=by simp[ints]
theorem AcJ {l:List Int} {i:Nat} {x:Int} (h:l[i]?=some x):nth (ints l) i=some (.int .i64 x):=by simp[ints,Aj,h]
theorem nI {l:List Int} {i:Nat} (h:i<l.length):nth (ints l) i=some (.int .i64 l[i]):=AcJ (List.getElem?_eq_getElem h)
theorem wrap_i64 {z:Int} (h:-2^63≤z) (h2:z<2^63):IntKind.i64.wrap z=z:=by
 rw[IntKind.wrap_i64];omega
theorem nIN {l:List Int} {i:Nat} (h:i<l.length):nth (ints l) (Int.toNat (Nat.cast i))=some (.int .i64 l[i]):=nI h
theorem XD {es:Nat} {x:AV} (h:x.cells.length=es):Bq es [x]:=by intro y hy;simp at hy;exact hy▸h
theorem Kz {b n:Nat} (h:n*b≤2 ^ 46):roomy b n:=Nat.le_trans h (by decide)
def iss (E:List (Bool×List Int)):List AV:=E.map fun p=>.sl p.1 (ints p.2)
@[simp] theorem lS (E:List (Bool×List Int)):(iss E).length=E.length:=by simp[iss]
theorem nS {E:List (Bool×List Int)} {i:Nat} (h:i<E.length):nth (iss E) i=some (.sl E[i].1 (ints E[i].2)):=by simp[iss,Aj,h]
theorem nSN {E:List (Bool×List Int)} {i:Nat} (h:i<E.length):nth (iss E) (Int.toNat (Nat.cast i))=some (.sl E[i].1 (ints E[i].2)):=nS h
theorem Eo {α:Type} {l:List α} {i:Nat} (h:¬(i:Int)<(l.length:Int)):l.take i=l:=List.take_of_length_le (by omega)
theorem CO {α:Type} {p:α→Prop} {l:List α} {i:Nat} (h:i<l.length) (h1:∀x∈l.take i,p x) (h2:p l[i]):∀x∈l.take (i+1),p x:=by
 intro x hx
 rw[List.take_succ_eq_append_getElem h,List.mem_append,List.mem_singleton]at hx
 rcases hx with hx|rfl
 ·exact h1 x hx
 ·exact h2
theorem tIN {l:List Int} {i:Nat} {x y:Int}:(ints l).set (Int.toNat (Nat.cast i)) (Bg (.int .i64 x) 0 (.int .i64 y))=ints (l.set i y):=by
 simp[ints,Bg,AV.cells,List.map_set]
theorem tI {l:List Int} {i:Nat} {x y:Int}:(ints l).set i (Bg (.int .i64 x) 0 (.int .i64 y))=ints (l.set i y):=tIN
theorem uI {l:List Int}:sub (ints l) 0 l.length=ints l:=by
 unfold sub;rw[List.drop_zero,List.take_of_length_le (by simp)]
theorem uS {l:List (Bool×List Int)}:sub (iss l) 0 l.length=iss l:=by
 unfold sub;rw[List.drop_zero,List.take_of_length_le (by simp)]
theorem uIS {l:List Int} {x:Int}:sub (ints (l++[x])) 0 (l.length+1)=ints (l++[x]):=by
 have:=uI (l:=l++[x]);rwa [List.length_append]at this
theorem uSS {l:List (Bool×List Int)} {x:Bool×List Int}:sub (iss (l++[x])) 0 (l.length+1)=iss (l++[x]):=by
 have:=uS (l:=l++[x]);rwa [List.length_append]at this
theorem rIN (n:Nat) (z:Int):List.replicate (Int.toNat (Nat.cast n)) (AV.int .i64 z)=ints (List.replicate n z):=by simp[ints]
theorem rI (n:Nat) (z:Int):List.replicate n (AV.int .i64 z)=ints (List.replicate n z):=by simp[ints]
theorem nY {l:List UInt8} {i:Nat} (h:i<l.length):nth l i=some l[i]:=by simp[Aj,h]
theorem nYN {l:List UInt8} {i:Nat} (h:i<l.length):nth l (Int.toNat (Nat.cast i))=some l[i]:=nY h
def bools (l:List Bool):List AV:=l.map .bool
@[simp] theorem lB (l:List Bool):(bools l).length=l.length:=by simp[bools]
theorem nB {l:List Bool} {i:Nat} (h:i<l.length):nth (bools l) i=some (.bool l[i]):=by simp[bools,Aj,h]
theorem nBN {l:List Bool} {i:Nat} (h:i<l.length):nth (bools l) (Int.toNat (Nat.cast i))=some (.bool l[i]):=nB h
theorem tBN {l:List Bool} {i:Nat} {x y:Bool}:(bools l).set (Int.toNat (Nat.cast i)) (Bg (.bool x) 0 (.bool y))=bools (l.set i y):=by
 simp[bools,Bg,AV.cells,List.map_set]
theorem tB {l:List Bool} {i:Nat} {x y:Bool}:(bools l).set i (Bg (.bool x) 0 (.bool y))=bools (l.set i y):=tBN
theorem uB {l:List Bool}:sub (bools l) 0 l.length=bools l:=by
 unfold sub;rw[List.drop_zero,List.take_of_length_le (by simp)]
theorem rBN (n:Nat) (z:Bool):List.replicate (Int.toNat (Nat.cast n)) (AV.bool z)=bools (List.replicate n z):=by simp[bools]
section
variable {α β:Type} [DecidableEq α] {fk:α→AV} {fv:β→AV} {t:IQ}
def Hq (fk:α→AV) (fv:β→AV) (M:List (α×β)):List (AV×AV):=M.map fun p=>(fk p.1,fv p.2)
def Dq:List (α×β)→α→Option β
 |[],_=>none
 |(k',v)::M,k=>if k=k' then some v else Dq M k
def D9:List (α×β)→α→β→List (α×β)
 |[],k,v=>[(k,v)]
 |(k',v')::M,k,v=>if k=k' then(k,v)::M else(k',v')::D9 M k v
theorem Ib (M:List (α×β)) (k k':α) (v:β):Dq (D9 M k v) k'=if k'=k then some v else Dq M k':=by
 induction M with
 |nil=>simp[D9,Dq]
 |cons p M ih=>
  obtain⟨a,b⟩:=p
  simp only[D9]
  by_cases h:k=a
  ·subst h;simp only[if_pos,Dq];split<;>simp_all
  ·rw[if_neg h]
   simp only[Dq,ih]
   by_cases h1:k'=a
   ·subst h1;rw[if_pos rfl,if_neg (fun e=>h e.symm),if_pos rfl]
   ·rw[if_neg h1,if_neg h1]
theorem J3 (hk:∀a b,Cb t (fk a) (fk b)=some (decide (a=b))) (k:α):∀(M:List (α×β)) (i:Nat),
 (Dq M k=none∧findKey t (fk k) (Hq fk fv M) i=some none∧D9 M k=fun v=>M++[(k,v)])∨
 ∃j v,Dq M k=some v∧findKey t (fk k) (Hq fk fv M) i=some (some (i+j,fv v))∧D9 M k=fun v=>M.set j (k,v)
 |[],i=>.inl ⟨rfl,rfl,rfl⟩
 |(a,b)::M,i=>by
  by_cases h:k=a
  ·subst h
   refine .inr ⟨0,b,by simp[Dq],?_,by funext v;simp[D9]⟩
   simp only[Hq,List.map_cons,findKey,hk,decide_true,Nat.add_zero]
  ·rcases J3 hk k M (i+1)with⟨h1,h2,h3⟩|⟨j,v,h1,h2,h3⟩
   ·refine .inl ⟨by simp[Dq,h,h1],?_,by funext v;simp[D9,h,h3]⟩
    simp only[Hq,List.map_cons,findKey,hk,decide_eq_false h]at h2 ⊢
    exact h2
   ·refine .inr ⟨j+1,v,by simp[Dq,h,h1],?_,by funext v;simp[D9,h,h3]⟩
    simp only[Hq,List.map_cons,findKey,hk,decide_eq_false h]at h2 ⊢
    rw[h2];congr 3;omega
theorem IC (hk:∀a b,Cb t (fk a) (fk b)=some (decide (a=b))) {M:List (α×β)} {k:α} {K:Option (Nat×AV)→Prop}
 (h1:Dq M k=none→K none) (h2:∀i v,Dq M k=some v→K (some (i,fv v))):MN t (fk k) (Hq fk fv M) K:=by
 rcases J3 (fv:=fv) hk k M 0 with⟨g1,g2,_⟩|⟨j,v,g1,g2,_⟩
 ·exact⟨_,g2,h1 g1⟩
 ·exact⟨_,g2,h2 _ _ g1⟩
theorem Nc (hk:∀a b,Cb t (fk a) (fk b)=some (decide (a=b))) {M:List (α×β)} {k:α} {v:β} {K:List (AV×AV)→Prop}
 (h:K (Hq fk fv (D9 M k v))):Xf t (fk k) (fv v) (Hq fk fv M) K:=by
 rcases J3 (fv:=fv) hk k M 0 with⟨g1,g2,g3⟩|⟨j,w,g1,g2,g3⟩
 ·refine⟨_,g2,?_⟩
  rw[g3]at h
  simpa[Acz,Hq]using h
 ·refine⟨_,g2,?_⟩
  rw[g3]at h
  simpa[Acz,Hq,List.map_set]using h
end
theorem Es (a b:Int):Cb .int (.int .i64 a) (.int .i64 b)=some (decide (a=b)):=by
 simp only[Cb,if_true];rfl
abbrev OC (M:List (Int×Int)):List (AV×AV):=Hq (.int .i64) (.int .i64) M
theorem fkI {M:List (Int×Int)} {k:Int} {K:Option (Nat×AV)→Prop}
 (h1:Dq M k=none→K none) (h2:∀i v,Dq M k=some v→K (some (i,.int .i64 v))):MN .int (.int .i64 k) (OC M) K:=IC Es h1 h2
theorem msI {M:List (Int×Int)} {k v:Int} {K:List (AV×AV)→Prop} (h:K (OC (D9 M k v))):Xf .int (.int .i64 k) (.int .i64 v) (OC M) K:=Nc Es h
end AI
end Go.Proofs.YtiimoiecghmebaaDoor
