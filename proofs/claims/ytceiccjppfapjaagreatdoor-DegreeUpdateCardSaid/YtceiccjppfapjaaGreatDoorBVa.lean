/- The evaluator, step by step on symbols: what must hold for it to end in 'Q'. The evaluator, step by step on symbols: operations. The evaluator, step by step on symbols: regions, code, loops, functions. Loops by an invariant; what a function answers, as a predicate. Lists of numbers as abstract values; small facts that the steps need. -/
import Derived.Test.YtceiccjppfapjaaGreatDoorBSe
set_option linter.unusedVariables false
set_option maxRecDepth 4000
namespace Go.Proofs.YtceiccjppfapjaaGreatDoor
namespace AI
open Go.RowKit
variable {AP:Nat→Option Jh}
structure Run (AP:Nat→Option Jh) (c:AZ) (env:Env) (s:Ap) (Q:AA→Env→Ap→Prop):Prop where
 mk::(h:∃N e env' s',F6 (run AP N) N c env s=some (e,env',s')∧Q e env' s')
def Op1 (AP:Nat→Option Jh) (o:CZ) (env:Env) (s:Ap) (K:A8→Ap→Prop):Prop:=
 ∃N out s',Ar (run AP N) o env s=some (out,s')∧K out s'
def Ops (AP:Nat→Option Jh) (os:List Ba) (env:Env) (s:Ap) (Q:AA→Env→Ap→Prop):Prop:=
 ∃N e env' s',FD (run AP N) os env s=some (e,env',s')∧Q e env' s'
structure Pure (AP:Nat→Option Jh) (f:Nat) (args:List AV) (v:AV):Prop where
 mk::(h:∃N,EO (run AP N) f args=some v)
structure Au (AP:Nat→Option Jh) (f:Nat) (args:List AV) (s:Ap) (K:A8→Ap→Prop):Prop where
 mk::(h:∃N out s',run AP N f args s=some (out,s')∧K out s')
theorem BK {n n':Nat} (h:n≤n'):GL (run AP n) (run AP n'):=Vx h
theorem Run.mono {c:AZ} {env:Env} {s:Ap} {Q Q':AA→Env→Ap→Prop} (h:Run AP c env s Q) (hq:∀e env s,Q e env s→Q' e env s):Run AP c env s Q':=by
 obtain⟨N,e,env',s',h1,h2⟩:=h
 exact⟨N,e,env',s',h1,hq _ _ _ h2⟩
def AV.force {R:Sort _} (v:AV) (f:AV→R):R:=
 match v with
 | .bool b=>f (.bool b)
 | .int k n=>f (.int k n)
 | .str s=>f (.str s)
 | .sl nn xs=>f (.sl nn xs)
 | .zc=>f .zc
 | .own o g a b=>f (.own o g a b)
 | .agg cs=>f (.agg cs)
 | .BH cs=>f (.BH cs)
 | .ref o g i a=>f (.ref o g i a)
 | .Dx cs=>f (.Dx cs)
 | .fn g cs=>f (.fn g cs)
 | .map o g=>f (.map o g)
 | .fmap es=>f (.fmap es)
 | .iface t v=>f (.iface t v)
 | .KP=>f .KP
 | .DY=>f .DY
 | .Hw=>f .Hw
 | .Jb=>f .Jb
 | .undef=>f .undef
 | .junk=>f .junk
theorem force_eq {R:Sort _} (v:AV) (f:AV→R):v.force f=f v:=by cases v<;>rfl
def NC (b:Bool) (t e:Prop):Prop:=match b with
 |true=>t
 |false=>e
theorem TL {b:Bool} {t e:Prop} (h1:b=true→t) (h2:b=false→e):NC b t e:=by
 cases b
 ·exact h2 rfl
 ·exact h1 rfl
structure Pm (p t e:Prop):Prop where
 mk::(yes:p→t) (no:¬p→e)
structure need (p t:Prop):Prop where
 mk::(l:p) (r:t)
theorem CO {p t:Prop} (h1:p) (h2:t):need p t:=⟨h1,h2⟩
structure JQ (k:IntKind) (z:Int) (K:AV→Prop):Prop where
 mk::(h:∃y,k.wrap z=y∧K (.int k y))
theorem BQ {k:IntKind} {z y:Int} {K:AV→Prop} (h:k.wrap z=y) (h2:K (.int k y)):JQ k z K:=⟨y,h,h2⟩
structure Bq {α:Type} (xs:List α) (i:Nat) (K:α→Prop):Prop where
 mk::(h:∃x,nth xs i=some x∧K x)
theorem Aq {α:Type} {xs:List α} {i:Nat} {K:α→Prop} {x:α} (h:nth xs i=some x) (h2:K x):Bq xs i K:=⟨x,h,h2⟩
structure NH {α:Type} (o:Option α) (K:α→Prop):Prop where
 mk::(h:∃x,o=some x∧K x)
theorem Ag {α:Type} {o:Option α} {K:α→Prop} {x:α} (h:o=some x) (h2:K x):NH o K:=⟨x,h,h2⟩
structure Aan (AP:Nat→Option Jh) (f:Nat) (args:List AV) (K:AV→Prop):Prop where
 mk::(h:∃v,Pure AP f args v∧K v)
def settle (v:AV) (K:AV→Prop):Prop:=match v with
 | .bool b=>NC b (K (.bool true)) (K (.bool false))
 |v=>v.force K
theorem VD (v:AV) (K:AV→Prop):settle v K↔K v:=by
 cases v<;>first|exact Iff.rfl|skip
 rename_i b
 cases b<;>exact Iff.rfl
def VH {α:Type}:List α→Nat→α→(List α→Prop)→Prop
 |[],_,_,K=>K []
 |_::xs,0,y,K=>K (y::xs)
 |x::xs,n+1,y,K=>VH xs n y fun ys=>K (x::ys)
theorem G7 {α:Type}:∀(l:List α) (n:Nat) (y:α) (K:List α→Prop),VH l n y K↔K (l.set n y)
 |[],_,_,_=>Iff.rfl
 |_::_,0,_,_=>Iff.rfl
 |x::xs,n+1,y,K=>G7 xs n y fun ys=>K (x::ys)
def Adh {α:Type}:List α→α→(List α→Prop)→Prop
 |[],y,K=>K [y]
 |x::xs,y,K=>Adh xs y fun ys=>K (x::ys)
theorem SA {α:Type}:∀(l:List α) (y:α) (K:List α→Prop),Adh l y K↔K (l++[y])
 |[],_,_=>Iff.rfl
 |x::xs,y,K=>SA xs y fun ys=>K (x::ys)
def YV (s:Ap) (mk:Nat→Nat→AV) (ob:Nat→Obj) (K:A8→Ap→Prop):Prop:=
 Adh s.σ (ob s.ctr) fun σ=>K (.ok (mk s.σ.length s.ctr)) ⟨σ,s.ctr+1⟩
structure eqK {α:Type} (a:α) (K:α→Prop):Prop where
 mk::(h:∃b,a=b∧K b)
theorem BG {α:Type} {a b:α} {K:α→Prop} (h1:a=b) (h:K b):eqK a K:=⟨_,h1,h⟩
def Adi (op:BinOp) (k:IntKind) (a b:Int) (K:AV→Prop):Prop:=
 match op with
 | .add=>JQ k (a+b) K
 | .sub=>JQ k (a-b) K
 | .mul=>JQ k (a*b) K
 | .quo=>need (b≠0) (JQ k (a.tdiv b) K)
 | .rem=>need (b≠0) (K (.int k (a.tmod b)))
 | .eql=>Pm (a=b) (K (.bool true)) (K (.bool false))
 | .neq=>Pm (a=b) (K (.bool false)) (K (.bool true))
 | .lss=>Pm (a<b) (K (.bool true)) (K (.bool false))
 | .leq=>Pm (a≤b) (K (.bool true)) (K (.bool false))
 | .gtr=>Pm (b<a) (K (.bool true)) (K (.bool false))
 | .geq=>Pm (b≤a) (K (.bool true)) (K (.bool false))
 | .and=>eqK (k.wrap (BitVec.ofInt k.bits a &&& BitVec.ofInt k.bits b).toNat) fun z=>K (.int k z)
 | .or=>eqK (k.wrap (BitVec.ofInt k.bits a ||| BitVec.ofInt k.bits b).toNat) fun z=>K (.int k z)
 | .xor=>eqK (k.wrap (BitVec.ofInt k.bits a ^^^ BitVec.ofInt k.bits b).toNat) fun z=>K (.int k z)
 | .shl=>need (0≤b) (JQ k (a*2 ^ (min b.toNat k.bits)) K)
 | .shr=>need (0≤b) (eqK (a.fdiv (2 ^ (min b.toNat k.bits))) fun z=>K (.int k z))
 |_=>False
def Adj (op:BinOp) (a b:List UInt8) (K:AV→Prop):Prop:=
 match op with
 | .eql=>Pm (a=b) (K (.bool true)) (K (.bool false))
 | .neq=>Pm (a=b) (K (.bool false)) (K (.bool true))
 | .lss=>NC (Op.bytesLess a b) (K (.bool true)) (K (.bool false))
 | .leq=>NC (Op.bytesLess a b||a==b) (K (.bool true)) (K (.bool false))
 | .gtr=>NC (Op.bytesLess a b||a==b) (K (.bool false)) (K (.bool true))
 | .geq=>NC (Op.bytesLess a b) (K (.bool false)) (K (.bool true))
 | .add=>need (a.length+b.length<2 ^ 63) (K (.str (a++b)))
 |_=>False
def AgF (op:BinOp) (k k':IntKind) (t:Prop):Prop:=match op with
 | .shl=>t
 | .shr=>t
 |_=>need (k=k') t
theorem Aeu {op:BinOp} {k k':IntKind} {t:Prop} (h:AgF op k k' t):(k=k'∨op=.shl∨op=.shr)∧t:=by
 unfold AgF at h
 split at h
 ·exact⟨.inr (.inl rfl),h⟩
 ·exact⟨.inr (.inr rfl),h⟩
 ·exact⟨.inl h.1,h.2⟩
theorem Ajm {op:BinOp} {k k':IntKind} {t:OQ} {a b:Int} (h:k=k'∨op=.shl∨op=.shr):bin op t (.int k a) (.int k' b)=KR op k a b:=by
 simp only[bin]
 split
 ·rfl
 ·rename_i hk
  rcases h with h|rfl|rfl
  ·exact absurd h hk
  ·rfl
  ·rfl
def Amm (op:BinOp) (t:OQ) (x y:AV) (K:AV→Prop):Prop:=
 match x,y with
 | .int k a,.int k' b=>AgF op k k' (Adi op k a b K)
 | .str a,.str b=>Adj op a b K
 |x,y=>NH (bin op t x y) fun v=>settle v K
theorem AbT {op:BinOp} {t:OQ} {x y:AV} {K:AV→Prop} (h:Amm op t x y K):∃v,bin op t x y=some v∧K v:=by
 unfold Amm at h
 split at h
 ·rename_i k a k' b
  obtain⟨hk,h⟩:=Aeu h
  rw[Ajm hk]
  unfold Adi at h
  cases op<;>simp only at h
  case add=>obtain⟨y,h1,h2⟩:=h;exact⟨_,rfl,by rw[h1];exact h2⟩
  case sub=>obtain⟨y,h1,h2⟩:=h;exact⟨_,rfl,by rw[h1];exact h2⟩
  case mul=>obtain⟨y,h1,h2⟩:=h;exact⟨_,rfl,by rw[h1];exact h2⟩
  case quo=>obtain⟨h0,y,h1,h2⟩:=h;exact⟨_,by simp only[KR,if_neg h0];rfl,by rw[h1];exact h2⟩
  case rem=>obtain⟨h0,h2⟩:=h;exact⟨_,by simp only[KR,if_neg h0],h2⟩
  case and=>obtain⟨z,rfl,h2⟩:=h;exact⟨_,rfl,h2⟩
  case or=>obtain⟨z,rfl,h2⟩:=h;exact⟨_,rfl,h2⟩
  case xor=>obtain⟨z,rfl,h2⟩:=h;exact⟨_,rfl,h2⟩
  case shl=>obtain⟨h0,y,h1,h2⟩:=h;exact⟨_,by simp only[KR,if_neg (Int.not_lt.2 h0)];rfl,by rw[h1];exact h2⟩
  case shr=>obtain⟨h0,z,rfl,h2⟩:=h;exact⟨_,by simp only[KR,if_neg (Int.not_lt.2 h0)],h2⟩
  case eql=>
   by_cases c:a=b
   ·exact⟨_,rfl,by have:=h.1 c;simpa only[c,beq_self_eq_true,bne_self_eq_false,Bool.not_true]using this⟩
   ·exact⟨_,rfl,by have:=h.2 c;simpa only[bne,beq_false_of_ne c,Bool.not_false]using this⟩
  case neq=>
   by_cases c:a=b
   ·exact⟨_,rfl,by have:=h.1 c;simpa only[c,beq_self_eq_true,bne_self_eq_false,Bool.not_true]using this⟩
   ·exact⟨_,rfl,by have:=h.2 c;simpa only[bne,beq_false_of_ne c,Bool.not_false]using this⟩
  case lss=>
   by_cases c:a<b
   ·exact⟨_,rfl,by simpa[c]using h.1 c⟩
   ·exact⟨_,rfl,by simpa[c]using h.2 c⟩
  case leq=>
   by_cases c:a≤b
   ·exact⟨_,rfl,by simpa[c]using h.1 c⟩
   ·exact⟨_,rfl,by simpa[c]using h.2 c⟩
  case gtr=>
   by_cases c:b<a
   ·exact⟨_,rfl,by simpa[c]using h.1 c⟩
   ·exact⟨_,rfl,by simpa[c]using h.2 c⟩
  case geq=>
   by_cases c:b≤a
   ·exact⟨_,rfl,by simpa[c]using h.1 c⟩
   ·exact⟨_,rfl,by simpa[c]using h.2 c⟩
 ·rename_i a b
  simp only[bin]
  unfold Adj at h
  cases op<;>simp only at h
  case add=>obtain⟨h0,h2⟩:=h;exact⟨_,by simp only[AbU,if_pos h0],h2⟩
  case eql=>
   by_cases c:a=b
   ·exact⟨_,rfl,by have:=h.1 c;simpa only[c,beq_self_eq_true,bne_self_eq_false,Bool.not_true]using this⟩
   ·exact⟨_,rfl,by have:=h.2 c;simpa only[bne,beq_false_of_ne c,Bool.not_false]using this⟩
  case neq=>
   by_cases c:a=b
   ·exact⟨_,rfl,by have:=h.1 c;simpa only[c,beq_self_eq_true,bne_self_eq_false,Bool.not_true]using this⟩
   ·exact⟨_,rfl,by have:=h.2 c;simpa only[bne,beq_false_of_ne c,Bool.not_false]using this⟩
  case lss=>cases c:Op.bytesLess a b<;>rw[c]at h<;>exact⟨_,rfl,by rw[c];exact h⟩
  case leq=>cases c:(Op.bytesLess a b||a==b)<;>rw[c]at h<;>exact⟨_,rfl,by rw[c];exact h⟩
  case gtr=>cases c:(Op.bytesLess a b||a==b)<;>rw[c]at h<;>exact⟨_,rfl,by rw[c];exact h⟩
  case geq=>cases c:Op.bytesLess a b<;>rw[c]at h<;>exact⟨_,rfl,by rw[c];exact h⟩
 ·obtain⟨v,h1,h2⟩:=h
  exact⟨v,h1,(VD v K).1 h2⟩
end AI
end Go.Proofs.YtceiccjppfapjaaGreatDoor
namespace Go.Proofs.YtceiccjppfapjaaGreatDoor
namespace AI
open Go.RowKit
variable {AP:Nat→Option Jh}
def done (v:AV) (s:Ap) (K:A8→Ap→Prop):Prop:=settle v fun v=>K (.ok v) s
def AgG:AY:=fun _ _ _=>none
def Aao (o:CZ) (env:Env) (s:Ap) (K:A8→Ap→Prop):Prop:=
 NH (Ar AgG o env s) fun r=>match r with
    |(.ok v,s')=>done v s' K
    |(.DW v,s')=>K (.DW v) s'
def Adk (σ:List Obj) (n:Nat) (r:AV) (R:AV→Prop):Prop:=match r with
 | .own o g off len=>match n with
   |0=>False
   |n+1=>match nth σ o with
    |some (.arr g' _ nn cl elems)=>match cl with
     |true=>need (g=g'∧off+len≤elems.length) (eqK (sub elems off len) fun xs=>R (.sl nn xs))
     |false=>NH (snap σ (n+1) (.own o g off len)) R
    |_=>False
 |r=>NH (snap σ n r) R
theorem TP {σ:List Obj} {n:Nat} {r:AV} {R:AV→Prop} (h:Adk σ n r R):∃v,snap σ n r=some v∧R v:=by
 unfold Adk at h
 split at h
 ·rename_i o g off len
  split at h
  ·cases h
  ·split at h
   ·rename_i g' es nn cl elems ho
    split at h
    ·obtain⟨h1,xs,rfl,h2⟩:=h
     refine⟨_,?_,h2⟩
     simp only[snap,ho,if_pos h1,if_true]
    ·obtain⟨v,h1,h2⟩:=h;exact⟨v,h1,h2⟩
   ·cases h
 ·obtain⟨v,h1,h2⟩:=h;exact⟨v,h1,h2⟩
def VI (σ:List Obj):Nat→List AV→(List AV→Prop)→Prop
 |_,[],K=>K []
 |0,_::_,_=>False
 |n+1,v::vs,K=>Adk σ n v fun a=>VI σ n vs fun r=>K (a::r)
theorem Jz {σ:List Obj}:∀{n:Nat} {vs:List AV} {K:List AV→Prop},VI σ n vs K→∃r,EP σ n vs=some r∧K r
 |n,[],K,h=>⟨[],by cases n<;>rfl,by cases n<;>exact h⟩
 |0,_::_,_,h=>by cases h
 |n+1,v::vs,K,h=>by
  obtain⟨a,h1,h2⟩:=TP h
  obtain⟨r,h3,h4⟩:=Jz h2
  exact⟨_,by simp only[EP,h1,h3],h4⟩
def Adl (σ:List Obj) (n:Nat) (r:AV) (R:AV→Prop):Prop:=match r with
 | .BH cs=>match n with
   |0=>False
   |n+1=>VI σ n cs fun vs=>R (.BH vs)
 | .agg cs=>match n with
   |0=>False
   |n+1=>VI σ n cs fun vs=>R (.agg vs)
 |r=>Adk σ n r R
theorem Aap {σ:List Obj} {n:Nat} {r:AV} {R:AV→Prop} (h:Adl σ n r R):∃v,snap σ n r=some v∧R v:=by
 unfold Adl at h
 split at h
 ·split at h
  ·cases h
  ·obtain⟨vs,h1,h2⟩:=Jz h
   exact⟨_,by simp only[snap,h1,Option.map_some],h2⟩
 ·split at h
  ·cases h
  ·obtain⟨vs,h1,h2⟩:=Jz h
   exact⟨_,by simp only[snap,h1,Option.map_some],h2⟩
 ·exact TP h
def AgH (AP:Nat→Option Jh) (m:Mode) (f:Nat) (args:List AV) (s:Ap) (K:A8→Ap→Prop):Prop:=
 match m with
 | .pure=>need (Ec args=true) (Aan AP f args fun v=>done v s K)
 | .borrow=>VI s.σ FM args fun args'=>Aan AP f args' fun v=>need (v.scalar=true) (done v s K)
 | .share=>Au AP f args s fun out s'=>match out with
   | .ok r=>NH (compact s.σ.length r s') fun r=>done r.1 r.2 K
   | .DW v=>need (v.closed=true) (K (.DW v) ⟨s'.σ.take s.σ.length,s'.ctr⟩)
 | .own=>∃N r s',Bv (run AP N) .own f args s=some (.ok r,s')∧done r s' K
 | .keep=>Au AP f args s fun out s'=>match out with
   | .ok r=>done r s' K
   | .DW v=>K (.DW v) s'
structure KD (g g' es es' len:Nat) (nn cl c:Bool) (elems ys:List AV) (bytes:Nat) (K:Nat→Bool→Bool→List AV→Prop):Prop where
 mk::(h:(g=g'∧es=es'∧len≤elems.length∧BI es ys∧roomy bytes (len+ys.length))∧K (len+ys.length) (nn||!ys.isEmpty) (cl&&c) (elems.take len++ys))
def Amn (a b:Bool) (K:Bool→Prop):Prop:=match b with
 |true=>K a
 |false=>K false
theorem Aaq (a b:Bool) (K:Bool→Prop):Amn a b K↔K (a&&b):=by cases a<;>cases b<;>exact Iff.rfl
def AgI (b:Bool) (K:Bool→Prop):Prop:=match b with
 |true=>K true
 |false=>K false
theorem DN (b:Bool) (K:Bool→Prop):AgI b K↔K b:=by cases b<;>exact Iff.rfl
def Adm (env:Env):List (Nat×AO)→(List (Nat×AV)→Prop)→Prop
 |[],K=>K []
 |(j,x)::ps,K=>(x.val env).force fun v=>Adm env ps fun r=>K ((j,v)::r)
theorem XQ (env:Env):∀(ps:List (Nat×AO)) (K:List (Nat×AV)→Prop),Adm env ps K↔K (RZ env ps)
 |[],_=>Iff.rfl
 |(j,x)::ps,K=>by simp only[Adm,force_eq,RZ];exact XQ env ps _
def H6 (z:AV):Nat→List (Nat×AV)→Nat→(List AV→Prop)→Prop
 |0,_,_,K=>K []
 |n+1,[],i,K=>H6 z n [] (i+1) fun r=>K (z::r)
 |n+1,(j,v)::ps,i,K=>bif Nat.beq i j then H6 z n ps (i+1) fun r=>K (v::r)else H6 z n ((j,v)::ps) (i+1) fun r=>K (z::r)
theorem I4 (z:AV):∀(n:Nat) (ps:List (Nat×AV)) (i:Nat) (K:List AV→Prop),H6 z n ps i K↔K (Ci z n ps i)
 |0,_,_,_=>by simp only[H6,Ci]
 |n+1,[],i,K=>by simp only[H6,Ci];exact I4 z n [] (i+1) _
 |n+1,(j,v)::ps,i,K=>by
  simp only[H6,Ci]
  cases Nat.beq i j
  ·exact I4 z n _ (i+1) _
  ·exact I4 z n _ (i+1) _
def AbV (es:Nat) (v:AV) (s:Ap) (K:List AV→Bool→Prop):Prop:=match v with
 | .sl _ xs=>K xs true
 | .zc=>K [] true
 |v=>NH (elemsOf s es v) fun r=>K r.1 r.2
theorem YW {es:Nat} {v:AV} {s:Ap} {K:List AV→Bool→Prop} (h:AbV es v s K):∃ys c,elemsOf s es v=some (ys,c)∧K ys c:=by
 unfold AbV at h
 split at h
 ·exact⟨_,_,rfl,h⟩
 ·exact⟨_,_,rfl,h⟩
 ·obtain⟨⟨ys,c⟩,h1,h2⟩:=h
  exact⟨ys,c,h1,h2⟩
def Ajn (off j:Nat) (K:Nat→Prop):Prop:=match off with
 |0=>K j
 |n+1=>K (n+1+j)
theorem Aar (off j:Nat) (K:Nat→Prop):Ajn off j K↔K (off+j):=by
 cases off with
 |zero=>simp[Ajn]
 |succ n=>exact Iff.rfl
structure Aas (t:OQ) (k:AV) (ents:List (AV×AV)) (K:Option (Nat×AV)→Prop):Prop where
 mk::(h:∃r,findKey t k ents 0=some r∧K r)
def AgJ (k v:AV) (ents:List (AV×AV)) (r:Option (Nat×AV)):List (AV×AV):=match r with
 |some (i,_)=>ents.set i (k,v)
 |none=>ents++[(k,v)]
structure AgK (t:OQ) (k v:AV) (ents:List (AV×AV)) (K:List (AV×AV)→Prop):Prop where
 mk::(h:∃r,findKey t k ents 0=some r∧K (AgJ k v ents r))
def YX (env:Env) (d:Nat) (x:Option AO) (K:Nat→Prop):Prop:=match x with
 |none=>K d
 |some x=>match x.val env with
  | .int _ n=>need (0≤n) (K n.toNat)
  |_=>False
def UA (env:Env) (len:Nat) (lo hi:Option AO) (K:Nat→Nat→Prop):Prop:=
 YX env len hi fun h=>YX env 0 lo fun l=>need (l≤h∧h≤len) (K l h)
theorem QD {env:Env} {d:Nat} {x:Option AO} {K:Nat→Prop} (h:YX env d x K):∃n,(match x with|none=>some d|some x=>bound (x.val env))=some n∧K n:=by
 unfold YX at h
 split at h
 ·exact⟨d,rfl,h⟩
 ·rename_i x
  split at h
  ·rename_i k n hv
   exact⟨n.toNat,by simp only[hv,bound,if_pos h.1],h.2⟩
  ·cases h
theorem KT {env:Env} {len:Nat} {lo hi:Option AO} {K:Nat→Nat→Prop} (h:UA env len lo hi K):∃l u,bounds env len lo hi=some (l,u)∧K l u:=by
 obtain⟨u,h1,h2⟩:=QD h
 obtain⟨l,h3,h4,h5⟩:=QD h2
 refine⟨l,u,?_,h5⟩
 unfold bounds
 cases hi<;>cases lo<;>simp_all
def LU (AP:Nat→Option Jh) (o:CZ) (env:Env) (s:Ap) (K:A8→Ap→Prop):Prop:=
 match o with
 | .mov x=>done (x.val env) s K
 | .KO es=>YV s (fun o g=>.own o g 0 0) (fun g=>.arr g es false true []) K
 | .MR off e2 es cs=>match nth cs off with
   |some (.sl false [])=>need (0<e2) (YV s (fun o g=>.own o g 0 0) (fun g=>.arr g e2 false true []) fun out s1=>match out with
        | .ok v=>YV s1 (fun o g=>.ref o g 0 0) (fun g=>.arr g es true (AV.agg (cs.set off v)).closed [.agg (cs.set off v)]) K
        | .DW _=>False)
   |_=>False
 | .pick c a b=>match c.val env with
   | .bool c=>NC c (done (a.val env) s K) (done (b.val env) s K)
   |_=>False
 | .alloc es z=>YV s (fun o g=>.ref o g 0 0) (fun g=>.arr g es true z.closed [z]) K
 | .box es x=>(x.val env).force fun v=>need ((v.storable&&v.cells.length==es)=true) (YV s (fun o g=>.ref o g 0 0) (fun g=>.arr g es true v.closed [v]) K)
 | .build z parts=>NH (Fp z (MS env parts)) fun cs=>K (.ok (.agg cs)) s
 | .load sz a=>match a.val env with
   | .Dx cs=>NH (loadCells cs sz) fun v=>done v s K
   | .ref o g i off=>match nth s.σ o with
     |some (.arr g' _ _ _ elems)=>need (g=g') (Bq elems i fun x=>NH (loadCells (x.cells.drop off) sz) fun v=>done v s K)
     |_=>False
   |_=>False
 | .store sz a x=>match a.val env with
   | .ref o g i off=>match nth s.σ o with
     |some (.arr g' es nn cl elems)=>need (g=g') (Bq elems i fun y=>(x.val env).force fun v=>need ((v.storable&&v.cells.length==sz&&off+sz≤es)=true)
       (Amn cl v.closed fun cl'=>eqK (elems.set i (BN y off v)) fun es'=>VH s.σ o (.arr g' es nn cl' es') fun σ=>K (.ok .undef) ⟨σ,s.ctr⟩))
     |_=>False
   |_=>False
 | .SB x=>match x.val env with
   | .ref o g i off=>K (.ok (.ref o g i off)) s
   | .Dx cs=>K (.ok (.Dx cs)) s
   | .fn f cs=>K (.ok (.fn f cs)) s
   |_=>False
 | .bin op t x y=>Amm op t (x.val env) (y.val env) fun v=>K (.ok v) s
 | .un op x=>match op,x.val env with
   | .not,.bool b=>NC b (K (.ok (.bool false)) s) (K (.ok (.bool true)) s)
   | .neg,.int k n=>JQ k (0-n) fun v=>K (.ok v) s
   |_,_=>False
 | .conv k x=>match x.val env with
   | .int _ n=>JQ k n fun v=>K (.ok v) s
   |_=>False
 | .field off sz x=>match x.val env with
   | .agg cs=>NH (loadCells (cs.drop off) sz) fun v=>done v s K
   |_=>False
 | .VJ off x=>match x.val env with
   | .Dx cs=>K (.ok (.Dx (cs.drop off))) s
   | .ref o g i off'=>K (.ok (.ref o g i (off'+off))) s
   |_=>False
 | .VK es x i=>match x.val env,i.val env with
   | .sl _ xs,.int _ i=>need (0≤i) (Bq xs i.toNat fun v=>need (v.cells.length=es) (K (.ok (.Dx v.cells)) s))
   | .own o g off len,.int _ i=>match nth s.σ o with
     |some (.arr g' es' _ _ _)=>need (g=g'∧es=es'∧0≤i∧i<len) (Ajn off i.toNat fun j=>K (.ok (.ref o g j 0)) s)
     |_=>False
   |_,_=>False
 | .len k x=>match k,x.val env with
   | .slice,.sl _ xs=>eqK xs.length fun n=>K (.ok (.int .i64 n)) s
   | .slice,.own _ _ _ n=>K (.ok (.int .i64 n)) s
   | .str,.str bs=>K (.ok (.int .i64 bs.length)) s
   | .map,.map o g=>match nth s.σ o with
     |some (.mp g' _ ents)=>need (g=g') (K (.ok (.int .i64 ents.length)) s)
     |_=>False
   | .map,.fmap ents=>K (.ok (.int .i64 ents.length)) s
   |_,_=>Aao (.len k x) env s K
 | .Qv=>YV s (fun o g=>.map o g) (fun g=>.mp g true []) K
 | .lookup t z Uw m k=>match m.val env with
   | .map o g=>match nth s.σ o with
     |some (.mp g' _ ents)=>need (g=g'∧KE t (k.val env)=true) (Aas t (k.val env) ents fun r=>match r with
      |some (_,v)=>bif Uw then K (.ok (.BH [v,.bool true])) s else done v s K
      |none=>bif Uw then K (.ok (.BH [z,.bool false])) s else done z s K)
     |_=>False
   | .fmap ents=>need (KE t (k.val env)=true) (Aas t (k.val env) ents fun r=>match r with
        |some (_,v)=>bif Uw then K (.ok (.BH [v,.bool true])) s else done v s K
        |none=>bif Uw then K (.ok (.BH [z,.bool false])) s else done z s K)
   |_=>Aao (.lookup t z Uw m k) env s K
 | .mapset t m k v=>match m.val env with
   | .map o g=>match nth s.σ o with
     |some (.mp g' cl ents)=>(v.val env).force fun vv=>need (g=g'∧KE t (k.val env)=true∧vv.storable=true)
       (Amn cl vv.closed fun cl'=>AgK t (k.val env) vv ents fun Adn=>VH s.σ o (.mp g' cl' Adn) fun σ=>K (.ok .undef) ⟨σ,s.ctr⟩)
     |_=>False
   |_=>False
 | .delete t m k=>match m.val env with
   | .map o g=>match nth s.σ o with
     |some (.mp g' cl ents)=>need (g=g'∧KE t (k.val env)=true) (Aas t (k.val env) ents fun r=>match r with
      |some (i,_)=>VH s.σ o (.mp g' cl (ents.eraseIdx i)) fun σ=>K (.ok .undef) ⟨σ,s.ctr⟩
      |none=>K (.ok .undef) s)
     |_=>False
   |_=>False
 | .lit own es z len parts=>Adm env parts fun ps=>need (VL es len ps 0=true) (H6 z len ps 0 fun xs=>
    bif own then AgI (Jw ps) fun c=>YV s (fun o g=>.own o g 0 len) (fun g=>.arr g es true c xs) K
    else bif Nat.beq len 0 then K (.ok .zc) s else need (Jw ps=true) (K (.ok (.sl true xs)) s))
 | .AbW x i=>match x.val env,i.val env with
   | .str bs,.int _ i=>need (0≤i) (Bq bs i.toNat fun b=>K (.ok (.int .u8 b.toNat)) s)
   |_,_=>False
 | .slice es x lo hi=>match x.val env with
   | .sl nn xs=>UA env xs.length lo hi fun l h=>need (BI es xs) (eqK (sub xs l (h-l)) fun ys=>K (.ok (.sl nn ys)) s)
   | .own o g off len=>match nth s.σ o with
     |some (.arr g' es' _ _ _)=>need (g=g'∧es=es') (UA env len lo hi fun l h=>Ajn off l fun j=>K (.ok (.own o g j (h-l))) s)
     |_=>False
   |_=>Aao (.slice es x lo hi) env s K
 | .Oi x lo hi=>match x.val env with
   | .str bs=>UA env bs.length lo hi fun l h=>eqK ((bs.drop l).take (h-l)) fun r=>K (.ok (.str r)) s
   |_=>False
 | .append es bytes a x=>AbV es (x.val env) s fun ys c=>match a.val env with
   | .own o g 0 len=>match nth s.σ o with
     |some (.arr g' es' nn cl' elems)=>KD g g' es es' len nn cl' c elems ys bytes fun n nn cl es'=>VH s.σ o (.arr s.ctr es nn cl es') fun σ=>K (.ok (.own o s.ctr 0 n)) ⟨σ,s.ctr+1⟩
     |_=>False
   |v=>NH (EJ es bytes s v ys c) fun r=>done r.1 r.2 K
 | .Jy es bytes z len cap=>match len.val env,cap.val env with
   | .int _ l,.int _ c=>need (0≤l∧l≤c∧roomy bytes c.toNat) (eqK (List.replicate l.toNat z) fun xs=>YV s (fun o g=>.own o g 0 l.toNat) (fun g=>.arr g es true z.closed xs) K)
   |_,_=>False
 | .ext x i=>match x.val env with
   | .BH cs=>NH (nth cs i) fun v=>done v s K
   |_=>False
 | .call m f args=>AgH AP m f (vals env args) s K
 | .Ja m x args=>match x.val env with
   | .fn f caps=>AgH AP m f (vals env args++caps) s K
   |_=>False
 |o=>Aao o env s K
theorem Aev (C:AY):GL AgG C:=fun _ _ _ _ h=>by cases h
theorem Dt (v:AV) (s:Ap) (K:A8→Ap→Prop):done v s K↔K (.ok v) s:=VD v _
theorem KF {o:CZ} {env:Env} {s:Ap} {K:A8→Ap→Prop} (h:Aao o env s K):Op1 AP o env s K:=by
 obtain⟨⟨out,s'⟩,h1,h2⟩:=h
 refine⟨0,out,s',CW (Aev _) h1,?_⟩
 cases out with
 |ok v=>exact(Dt v s' K).1 h2
 |DW v=>exact h2
theorem TQ {m:Mode} {f:Nat} {args:List AV} {s:Ap} {K:A8→Ap→Prop} (h:AgH AP m f args s K):∃N out s',Bv (run AP N) m f args s=some (out,s')∧K out s':=by
 cases m with
 |pure=>
  obtain⟨hc,v,⟨N,hp⟩,hk⟩:=h
  exact⟨N,.ok v,s,by simp only[Bv,if_pos hc,hp,Option.map_some],(Dt v s K).1 hk⟩
 |borrow=>
  obtain⟨args',ha,v,⟨N,hp⟩,hs,hk⟩:=Jz h
  exact⟨N,.ok v,s,by simp only[Bv,ha,hp,if_pos hs],(Dt v s K).1 hk⟩
 |share=>
  obtain⟨N,out,s',hr,hk⟩:=h
  cases out with
  |ok r=>
   obtain⟨⟨r',s''⟩,h1,h2⟩:=hk
   exact⟨N,.ok r',s'',by simp only[Bv,hr,h1,Option.map_some],(Dt r' s'' K).1 h2⟩
  |DW v=>
   obtain⟨h1,h2⟩:=hk
   exact⟨N,.DW v,_,by simp only[Bv,hr,if_pos h1],h2⟩
 |own=>
  obtain⟨N,r,s',h1,h2⟩:=h
  exact⟨N,.ok r,s',h1,(Dt r s' K).1 h2⟩
 |keep=>
  obtain⟨N,out,s',hr,hk⟩:=h
  cases out with
  |ok r=>exact⟨N,.ok r,s',hr,(Dt r s' K).1 hk⟩
  |DW v=>exact⟨N,.DW v,s',hr,hk⟩
theorem Jf {s:Ap} {mk:Nat→Nat→AV} {ob:Nat→Obj} {K:A8→Ap→Prop}:YV s mk ob K↔K (.ok (mk s.σ.length s.ctr)) (push s (ob s.ctr)):=SA _ _ _
theorem IU {o:CZ} {env:Env} {s:Ap} {K:A8→Ap→Prop} (h:LU AP o env s K):Op1 AP o env s K:=by
 cases o
 case mov x=>exact⟨0,_,_,rfl,(Dt _ _ _).1 h⟩
 case KO es=>simp only[LU]at h;exact⟨0,_,_,rfl,Jf.1 h⟩
 case MR off e2 es cs=>
  simp only[LU]at h
  split at h
  case h_2=>cases h
  rename_i hoff
  obtain⟨he,h⟩:=h
  have h:=Jf.1 h
  have h:=Jf.1 h
  refine⟨0,_,_,?_,h⟩
  simp only[Ar,hoff,if_pos he]
  simp[push]
 case pick c a b=>
  simp only[LU]at h
  split at h
  ·rename_i c' hc
   cases c'
   ·exact⟨0,_,_,by simp only[Ar,hc],(Dt _ _ _).1 h⟩
   ·exact⟨0,_,_,by simp only[Ar,hc],(Dt _ _ _).1 h⟩
  ·cases h
 case alloc es z=>simp only[LU]at h;exact⟨0,_,_,rfl,Jf.1 h⟩
 case box es x=>
  simp only[LU,force_eq]at h
  obtain⟨h1,h2⟩:=h
  exact⟨0,_,_,by simp only[Ar,if_pos h1],Jf.1 h2⟩
 case build z ps=>
  obtain⟨cs,h1,h2⟩:=h
  exact⟨0,_,_,by simp only[Ar,h1,Option.map_some],h2⟩
 case load sz a=>
  simp only[LU]at h
  split at h
  ·rename_i cs hv
   obtain⟨v,h1,h2⟩:=h
   exact⟨0,_,_,by simp only[Ar,hv,ok,h1,Option.map_some],(Dt _ _ _).1 h2⟩
  ·rename_i o g i off hv
   split at h
   ·rename_i g' es nn cl elems ho
    obtain⟨hg,x,hx,v,h1,h2⟩:=h
    exact⟨0,_,_,by simp only[Ar,hv,ho,if_pos hg,hx,ok,h1,Option.map_some],(Dt _ _ _).1 h2⟩
   ·cases h
  ·cases h
 case store sz a x=>
  simp only[LU]at h
  split at h
  ·rename_i o g i off hv
   split at h
   ·rename_i g' es nn cl elems ho
    obtain⟨hg,y,hy,h⟩:=h
    rw[force_eq]at h
    obtain⟨h1,h2⟩:=h
    rw[Aaq]at h2
    obtain⟨es',rfl,h2⟩:=h2
    rw[G7]at h2
    exact⟨0,_,_,by simp only[Ar,hv,ho,if_pos hg,hy,h1,if_true],h2⟩
   ·cases h
  ·cases h
 case SB x=>
  simp only[LU]at h
  split at h
  ·rename_i hv;exact⟨0,_,_,by simp only[Ar,hv],h⟩
  ·rename_i hv;exact⟨0,_,_,by simp only[Ar,hv],h⟩
  ·rename_i hv;exact⟨0,_,_,by simp only[Ar,hv],h⟩
  ·cases h
 case bin op t x y=>
  obtain⟨v,h1,h2⟩:=AbT h
  exact⟨0,_,_,by simp only[Ar,ok,h1,Option.map_some],h2⟩
 case un op x=>
  simp only[LU]at h
  split at h
  ·rename_i b hv
   cases b
   ·exact⟨0,_,_,by simp only[Ar,hv,Bool.not_false],h⟩
   ·exact⟨0,_,_,by simp only[Ar,hv,Bool.not_true],h⟩
  ·rename_i k n hv
   obtain⟨y,h1,h2⟩:=h
   exact⟨0,_,_,by simp only[Ar,hv,h1],h2⟩
  ·cases h
 case conv k x=>
  simp only[LU]at h
  split at h
  ·rename_i k' n hv
   obtain⟨y,h1,h2⟩:=h
   exact⟨0,_,_,by simp only[Ar,hv,h1],h2⟩
  ·cases h
 case field off sz x=>
  simp only[LU]at h
  split at h
  ·rename_i cs hv
   obtain⟨v,h1,h2⟩:=h
   exact⟨0,_,_,by simp only[Ar,hv,ok,h1,Option.map_some],(Dt _ _ _).1 h2⟩
  ·cases h
 case VJ off x=>
  simp only[LU]at h
  split at h
  ·rename_i hv;exact⟨0,_,_,by simp only[Ar,hv],h⟩
  ·rename_i hv;exact⟨0,_,_,by simp only[Ar,hv],h⟩
  ·cases h
 case VK es x i=>
  simp only[LU]at h
  split at h
  ·rename_i nn xs k n hx hi
   obtain⟨h0,v,h1,h2,h3⟩:=h
   exact⟨0,_,_,by simp only[Ar,hx,hi,if_pos h0,h1,if_pos h2],h3⟩
  ·rename_i o g off len k n hx hi
   split at h
   ·rename_i g' es' nn cl elems ho
    obtain⟨h1,h2⟩:=h
    rw[Aar]at h2
    exact⟨0,_,_,by simp only[Ar,hx,hi,ho,if_pos h1],h2⟩
   ·cases h
  ·cases h
 case len k x=>
  simp only[LU]at h
  split at h
  ·rename_i hv
   obtain⟨n,rfl,h⟩:=h
   exact⟨0,_,_,by simp only[Ar,hv],h⟩
  ·rename_i hv;exact⟨0,_,_,by simp only[Ar,hv],h⟩
  ·rename_i hv;exact⟨0,_,_,by simp only[Ar,hv],h⟩
  ·rename_i o g hv
   split at h
   ·rename_i g' cl ents ho
    obtain⟨h1,h2⟩:=h
    exact⟨0,_,_,by simp only[Ar,hv,ho,if_pos h1],h2⟩
   ·cases h
  ·rename_i hv;exact⟨0,_,_,by simp only[Ar,hv],h⟩
  ·exact KF h
 case AbW x i=>
  simp only[LU]at h
  split at h
  ·rename_i bs k n hx hi
   obtain⟨h1,b,h2,h3⟩:=h
   exact⟨0,_,_,by simp only[Ar,hx,hi,if_pos h1,h2],h3⟩
  ·cases h
 case slice es x lo hi=>
  simp only[LU]at h
  split at h
  ·rename_i nn xs hx
   obtain⟨l,u,h1,h2,ys,rfl,h3⟩:=KT h
   exact⟨0,_,_,by simp only[Ar,hx,h1,if_pos h2],h3⟩
  ·rename_i o g off len hx
   split at h
   ·rename_i g' es' nn cl elems ho
    obtain⟨hg,h⟩:=h
    obtain⟨l,u,h1,h2⟩:=KT h
    rw[Aar]at h2
    exact⟨0,_,_,by simp only[Ar,hx,ho,if_pos hg,h1],h2⟩
   ·cases h
  ·exact KF h
 case Oi x lo hi=>
  simp only[LU]at h
  split at h
  ·rename_i bs hx
   obtain⟨l,u,h1,r,rfl,h2⟩:=KT h
   exact⟨0,_,_,by simp only[Ar,hx,h1],h2⟩
  ·cases h
 case Qv=>simp only[LU]at h;exact⟨0,_,_,rfl,Jf.1 h⟩
 case lookup t z Uw m k=>
  simp only[LU]at h
  split at h
  ·rename_i o g hv
   split at h
   ·rename_i g' cl ents ho
    obtain⟨h1,r,h2,h3⟩:=h
    cases r with
    |none=>
     cases Uw
     ·exact⟨0,_,_,by simp only[Ar,hv,ho,if_pos h1,h2];rfl,(Dt _ _ _).1 h3⟩
     ·exact⟨0,_,_,by simp only[Ar,hv,ho,if_pos h1,h2];rfl,h3⟩
    |some p=>
     cases Uw
     ·exact⟨0,_,_,by simp only[Ar,hv,ho,if_pos h1,h2];rfl,(Dt _ _ _).1 h3⟩
     ·exact⟨0,_,_,by simp only[Ar,hv,ho,if_pos h1,h2];rfl,h3⟩
   ·cases h
  ·rename_i ents hv
   obtain⟨h1,r,h2,h3⟩:=h
   cases r with
   |none=>
    cases Uw
    ·exact⟨0,_,_,by simp only[Ar,hv,if_pos h1,h2];rfl,(Dt _ _ _).1 h3⟩
    ·exact⟨0,_,_,by simp only[Ar,hv,if_pos h1,h2];rfl,h3⟩
   |some p=>
    cases Uw
    ·exact⟨0,_,_,by simp only[Ar,hv,if_pos h1,h2];rfl,(Dt _ _ _).1 h3⟩
    ·exact⟨0,_,_,by simp only[Ar,hv,if_pos h1,h2];rfl,h3⟩
  ·exact KF h
 case mapset t m k v=>
  simp only[LU]at h
  split at h
  ·rename_i o g hv
   split at h
   ·rename_i g' cl ents ho
    rw[force_eq]at h
    obtain⟨h1,h2⟩:=h
    rw[Aaq]at h2
    obtain⟨r,h2,h3⟩:=h2
    rw[G7]at h3
    cases r with
    |none=>exact⟨0,_,_,by simp only[Ar,hv,ho,if_pos h1,h2];rfl,h3⟩
    |some p=>exact⟨0,_,_,by simp only[Ar,hv,ho,if_pos h1,h2];rfl,h3⟩
   ·cases h
  ·cases h
 case delete t m k=>
  simp only[LU]at h
  split at h
  ·rename_i o g hv
   split at h
   ·rename_i g' cl ents ho
    obtain⟨h1,r,h2,h3⟩:=h
    cases r with
    |none=>exact⟨0,_,_,by simp only[Ar,hv,ho,if_pos h1,h2],h3⟩
    |some p=>
     simp only at h3
     rw[G7]at h3
     exact⟨0,_,_,by simp only[Ar,hv,ho,if_pos h1,h2],h3⟩
   ·cases h
  ·cases h
 case lit own es z len parts=>
  simp only[LU,XQ]at h
  obtain⟨h1,h2⟩:=h
  rw[I4]at h2
  cases own
  ·rw[cond_false]at h2
   cases hb:Nat.beq len 0
   ·rw[hb,cond_false]at h2
    have hne:len≠0:=fun e=>by subst e;simp at hb
    exact⟨0,_,_,by simp only[Ar,if_pos h1,if_neg hne,if_pos h2.1];rfl,h2.2⟩
   ·rw[hb,cond_true]at h2
    have he:len=0:=Nat.eq_of_beq_eq_true hb
    exact⟨0,_,_,by simp only[Ar,if_pos h1,if_pos he];rfl,h2⟩
  ·rw[cond_true,DN]at h2
   exact⟨0,_,_,by simp only[Ar,if_pos h1,if_true],Jf.1 h2⟩
 case append es bytes a x=>
  simp only[LU]at h
  obtain⟨ys,cl,h1,h⟩:=YW h
  split at h
  ·rename_i o g len hv
   split at h
   ·rename_i g' es' nn cl' elems ho
    obtain⟨h2,h3⟩:=h
    rw[G7]at h3
    exact⟨0,_,_,by simp only[Ar,h1,hv,EJ,ho,if_pos h2,Option.map_some],h3⟩
   ·cases h
  ·obtain⟨⟨v,s'⟩,h2,h3⟩:=h
   exact⟨0,_,_,by simp only[Ar,h1,h2,Option.map_some],(Dt _ _ _).1 h3⟩
 case Jy es bytes z len cap=>
  simp only[LU]at h
  split at h
  ·rename_i k l k' c hl hc
   obtain⟨h1,xs,rfl,h2⟩:=h
   exact⟨0,_,_,by simp only[Ar,hl,hc,if_pos h1],Jf.1 h2⟩
  ·cases h
 case ext x i=>
  simp only[LU]at h
  split at h
  ·rename_i cs hv
   obtain⟨v,h1,h2⟩:=h
   exact⟨0,_,_,by simp only[Ar,hv,ok,h1,Option.map_some],(Dt _ _ _).1 h2⟩
  ·cases h
 case call m f args=>exact TQ h
 case Ja m x args=>
  simp only[LU]at h
  split at h
  ·rename_i f caps hv
   obtain⟨N,out,s',h1,h2⟩:=TQ h
   exact⟨N,out,s',by simp only[Ar,hv];exact h1,h2⟩
  ·cases h
 all_goals exact KF h
end AI
end Go.Proofs.YtceiccjppfapjaaGreatDoor
namespace Go.Proofs.YtceiccjppfapjaaGreatDoor
namespace AI
open Go.RowKit
variable {AP:Nat→Option Jh}
def He (g:Option (Nat×Bool)) (env:Env) (t e:Prop):Prop:=match g with
 |none=>t
 |some (r,b)=>match env.get r with
  | .bool b'=>NC (b'==b) t e
  | .undef=>e
  |_=>False
def AgL (k:Env→Ap→Prop) (d:Option Nat) (env:Env) (Q:AA→Env→Ap→Prop) (out:A8) (s:Ap):Prop:=match out with
 | .ok v=>k (put d v env) s
 | .DW v=>Q (.DW v) env s
def Aat (AP:Nat→Option Jh) (ops:List Ba):Env→Ap→(AA→Env→Ap→Prop)→Prop:=
 List.rec (motive:=fun _=>Env→Ap→(AA→Env→Ap→Prop)→Prop) (fun env s Q=>Q .normal env s)
    (fun o _ ih env s Q=>He o.guard env (LU AP o.op env s (AgL (fun env s=>ih env s Q) o.dst env Q)) (ih (put o.dst .undef env) s Q)) ops
theorem Aew (o:Ba) (os:List Ba) (env:Env) (s:Ap) (Q:AA→Env→Ap→Prop):Aat AP (o::os) env s Q=He o.guard env
 (LU AP o.op env s (AgL (fun env s=>Aat AP os env s Q) o.dst env Q))
 (Aat AP os (put o.dst .undef env) s Q):=rfl
theorem MW:∀{os:List Ba} {env:Env} {s:Ap} {Q:AA→Env→Ap→Prop},Aat AP os env s Q→Ops AP os env s Q
 |[],env,s,Q,h=>⟨0,_,_,_,rfl,h⟩
 |o::os,env,s,Q,h=>by
  have Lh:wanted o.guard env=some false→Aat AP os (put o.dst .undef env) s Q→Ops AP (o::os) env s Q:=by
   intro hw h
   obtain⟨N,e,env',s',h1,h2⟩:=MW h
   exact⟨N,e,env',s',by simp only[FD,hw];exact h1,h2⟩
  have hdo:wanted o.guard env=some true→LU AP o.op env s (AgL (fun env s=>Aat AP os env s Q) o.dst env Q)→Ops AP (o::os) env s Q:=by
   intro hw h
   obtain⟨N,out,s1,h1,h2⟩:=IU h
   cases out with
   |ok v=>
    obtain⟨N',e,env',s',h3,h4⟩:=MW h2
    refine⟨max N N',e,env',s',?_,h4⟩
    simp only[FD,hw,CW (BK (Nat.le_max_left N N')) h1]
    exact Gh (BK (Nat.le_max_right N N')) h3
   |DW v=>exact⟨N,_,_,_,by simp only[FD,hw,h1],h2⟩
  rw[Aew]at h
  unfold He at h
  split at h
  ·rename_i hg
   exact hdo (by rw[hg];rfl) h
  ·rename_i r b hg
   split at h
   ·rename_i b' hb
    cases hbb:(b'==b)
    ·rw[hbb]at h
     exact Lh (by rw[hg];simp only[wanted,hb,hbb]) h
    ·rw[hbb]at h
     exact hdo (by rw[hg];simp only[wanted,hb,hbb]) h
   ·rename_i hb
    exact Lh (by rw[hg];simp only[wanted,hb]) h
   ·cases h
def MX:List Nat→Env→(Env→Prop)→Prop
 |[],_,K=>K []
 |t::ts,env,K=>(env.get t).force fun v=>MX ts env fun e=>K ((t,v)::e)
theorem EX:∀(ts:List Nat) (env:Env) (K:Env→Prop),MX ts env K↔K (commit env ts)
 |[],_,_=>Iff.rfl
 |t::ts,env,K=>by
  simp only[MX,force_eq,commit]
  exact EX ts env _
def Xe:List Nat→Env→Ap→(Env→Ap→Prop)→Prop
 |[],env,s,K=>K env s
 |t::ts,env,s,K=>match env.get t with
  | .own o g off len=>match nth s.σ o with
    |some (.arr g' _ nn cl elems)=>need (g=g'∧cl=true∧off+len≤elems.length) (eqK (sub elems off len) fun xs=>VH s.σ o .dead fun σ=>Xe ts ((t,.sl nn xs)::env) ⟨σ,s.ctr⟩ K)
    |_=>False
  | .ref o g i off=>match nth s.σ o with
    |some (.arr g' _ nn cl elems)=>need (g=g'∧cl=true) (Bq elems i fun x=>VH s.σ o .dead fun σ=>Xe ts ((t,.Dx (x.cells.drop off))::env) ⟨σ,s.ctr⟩ K)
    |_=>False
  | .map o g=>match nth s.σ o with
    |some (.mp g' cl ents)=>need (g=g'∧cl=true∧Aaf ents=true) (VH s.σ o .dead fun σ=>Xe ts ((t,.fmap ents)::env) ⟨σ,s.ctr⟩ K)
    |_=>False
  | .sl nn xs=>Xe ts ((t,.sl nn xs)::env) s K
  | .zc=>Xe ts ((t,.zc)::env) s K
  |_=>False
theorem Gi:∀{ts:List Nat} {env:Env} {s:Ap} {K:Env→Ap→Prop},Xe ts env s K→∃env' s',Jc ts env s=some (env',s')∧K env' s'
 |[],env,s,K,h=>⟨env,s,rfl,h⟩
 |t::ts,env,s,K,h=>by
  simp only[Xe]at h
  split at h
  ·rename_i o g off len hv
   split at h
   ·rename_i g' es nn cl elems ho
    obtain⟨⟨rfl,rfl,hf⟩,xs,rfl,h⟩:=h
    rw[G7]at h
    obtain⟨env',s',h1,h2⟩:=Gi h
    exact⟨env',s',by simp only[Jc,hv,ho,true_and,if_pos hf];exact h1,h2⟩
   ·cases h
  ·rename_i o g i off hv
   split at h
   ·rename_i g' es nn cl elems ho
    obtain⟨⟨rfl,rfl⟩,⟨x,hx,h⟩⟩:=h
    rw[G7]at h
    obtain⟨env',s',h1,h2⟩:=Gi h
    exact⟨env',s',by simp only[Jc,hv,ho,if_pos,hx];exact h1,h2⟩
   ·cases h
  ·rename_i o g hv
   split at h
   ·rename_i g' cl ents ho
    obtain⟨⟨rfl,rfl,hk⟩,h⟩:=h
    rw[G7]at h
    obtain⟨env',s',h1,h2⟩:=Gi h
    exact⟨env',s',by simp only[Jc,hv,ho,true_and,if_pos hk];exact h1,h2⟩
   ·cases h
  ·rename_i nn xs hv
   obtain⟨env',s',h1,h2⟩:=Gi h
   exact⟨env',s',by simp only[Jc,hv];exact h1,h2⟩
  ·rename_i hv
   obtain⟨env',s',h1,h2⟩:=Gi h
   exact⟨env',s',by simp only[Jc,hv];exact h1,h2⟩
  ·cases h
def XR {α:Type}:Nat→List α→(List α→Prop)→Prop
 |0,_,K=>K []
 |_+1,[],K=>K []
 |n+1,x::xs,K=>XR n xs fun ys=>K (x::ys)
theorem SC {α:Type}:∀(n:Nat) (l:List α) (K:List α→Prop),XR n l K↔K (l.take n)
 |0,_,_=>by simp[XR]
 |_+1,[],_=>by simp[XR]
 |n+1,x::xs,K=>SC n xs fun ys=>K (x::ys)
def AgM (tr:Option Nat) (s:Ap) (K:Ap→Prop):Prop:=match tr with
 |none=>K s
 |some k=>XR (kept k s.σ.length) s.σ fun σ=>K ⟨σ,s.ctr⟩
theorem P6 (tr:Option Nat) (s:Ap) (K:Ap→Prop):AgM tr s K↔K (truncate tr s):=by
 cases tr with
 |none=>exact Iff.rfl
 |some k=>exact SC _ s.σ _
def AgN (live:List Nat) (tr:Option Nat) (Q:AA→Env→Ap→Prop) (e:AA) (env:Env) (s:Ap):Prop:=match e with
 | .normal=>MX live env fun env=>AgM tr s fun s=>Q .normal env s
 |e=>Q e env s
def NI (k:Env→Ap→Prop) (Q:AA→Env→Ap→Prop) (e:AA) (env:Env) (s:Ap):Prop:=match e with
 | .normal=>k env s
 |e=>Q e env s
def Aex (id:Nat) (Q:AA→Env→Ap→Prop) (e:AA) (env:Env) (s:Ap):Prop:=match e with
 | .exit j=>NC (Nat.beq j id) (Q .normal env s) (Q (.exit j) env s)
 |e=>Q e env s
def YZ (AP:Nat→Option Jh) (o:CZ) (r g:Nat) (env:Env) (s:Ap) (K:AV→Option (Nat×Obj)→Nat→Prop):Prop:=
 LU AP o env s fun out s'=>match out with
    | .DW _=>False
    | .ok v=>match o.cls with
      |some .e=>K v none 0
      |some .r=>K v none 0
      |some .w=>match o.writes r env with
       |[t]=>match nth s'.σ t with
        |some ob=>K v (some (t,ob)) 0
        |none=>False
       |_=>False
      |some .a=>match nth s'.σ v.idx with
       |some ob=>bif Nat.blt v.idx s.σ.length then K (v.moved v.idx g) (some (v.idx,ob.TG g)) 1
        else match nth s.σ r with
           |some .dead=>K (v.moved r g) (some (r,ob.TG g)) 1
           |_=>False
       |none=>False
      |none=>False
theorem Y0 {o:CZ} {r g:Nat} {env:Env} {s:Ap} {K:AV→Option (Nat×Obj)→Nat→Prop} (h:YZ AP o r g env s K):∃N v u b,JL (run AP N) o r g env s=some (v,u,b)∧K v u b:=by
 obtain⟨N,out,s',h1,h2⟩:=IU h
 cases out with
 |DW v=>cases h2
 |ok v=>
  simp only at h2
  split at h2
  ·rename_i hc;exact⟨N,_,_,_,by simp only[JL,hc,h1],h2⟩
  ·rename_i hc;exact⟨N,_,_,_,by simp only[JL,hc,h1],h2⟩
  ·rename_i hc
   split at h2
   ·rename_i t ht
    split at h2
    ·rename_i ob hob;exact⟨N,_,_,_,by simp only[JL,hc,h1,ht,hob],h2⟩
    ·cases h2
   ·cases h2
  ·rename_i hc
   split at h2
   ·rename_i ob hob
    cases hb:Nat.blt v.idx s.σ.length
    ·rw[hb,cond_false]at h2
     have hlt:¬v.idx<s.σ.length:=fun hlt=>by
      have:=(show (Nat.blt v.idx s.σ.length=true) from Nat.blt_eq▸hlt)
      rw[hb]at this;cases this
     split at h2
     ·rename_i hd
      exact⟨N,_,_,_,by simp only[JL,hc,h1,hob,if_neg hlt,hd],h2⟩
     ·cases h2
    ·rw[hb,cond_true]at h2
     exact⟨N,_,_,_,by simp only[JL,hc,h1,hob,if_pos (show v.idx<s.σ.length from Nat.blt_eq▸hb)],h2⟩
   ·cases h2
  ·cases h2
def OT (u:Option (Nat×Obj)) (b:Nat) (s:Ap) (K:Ap→Prop):Prop:=match u with
 |some (t,ob)=>VH s.σ t ob fun σ=>K ⟨σ,s.ctr+b⟩
 |none=>K ⟨s.σ,s.ctr+b⟩
theorem TR (u:Option (Nat×Obj)) (b:Nat) (s:Ap) (K:Ap→Prop):OT u b s K↔K (F9 u b s):=by
 unfold OT F9
 split
 ·exact G7 _ _ _ _
 ·exact Iff.rfl
def AbX (AP:Nat→Option Jh) (ops:List Ba):Nat→Nat→Env→Ap→(List Eff→Prop)→Prop:=
 List.rec (motive:=fun _=>Nat→Nat→Env→Ap→(List Eff→Prop)→Prop) (fun _ _ _ _ K=>K [])
    (fun o _ ih r g env s K=>He o.guard env
      (YZ AP o.op r g env s fun v u b=>OT u b s fun s'=>ih (r+rank o.op) (g+1) (put o.dst v env) s' fun es=>K (⟨o.dst,v,o.op.reads r env,o.op.writes r env,u,b⟩::es))
      (ih (r+rank o.op) (g+1) (put o.dst .undef env) s fun es=>K (⟨o.dst,.undef,[],[],none,0⟩::es))) ops
theorem Aey (o:Ba) (os:List Ba) (r g:Nat) (env:Env) (s:Ap) (K:List Eff→Prop):AbX AP (o::os) r g env s K=He o.guard env
 (YZ AP o.op r g env s fun v u b=>OT u b s fun s'=>AbX AP os (r+rank o.op) (g+1) (put o.dst v env) s' fun es=>K (⟨o.dst,v,o.op.reads r env,o.op.writes r env,u,b⟩::es))
 (AbX AP os (r+rank o.op) (g+1) (put o.dst .undef env) s fun es=>K (⟨o.dst,.undef,[],[],none,0⟩::es)):=rfl
theorem P7:∀{os:List Ba} {r g:Nat} {env:Env} {s:Ap} {K:List Eff→Prop},AbX AP os r g env s K→∃N es,Jq (run AP N) os r g env s=some es∧K es
 |[],r,g,env,s,K,h=>⟨0,_,rfl,h⟩
 |o::os,r,g,env,s,K,h=>by
  have Lh:wanted o.guard env=some false→(AbX AP os (r+rank o.op) (g+1) (put o.dst .undef env) s fun es=>K (⟨o.dst,.undef,[],[],none,0⟩::es))→∃N es,Jq (run AP N) (o::os) r g env s=some es∧K es:=by
   intro hw h
   obtain⟨N,es,h1,h2⟩:=P7 h
   exact⟨N,_,by simp only[Jq,hw,h1],h2⟩
  have hdo:wanted o.guard env=some true→(YZ AP o.op r g env s fun v u b=>OT u b s fun s'=>AbX AP os (r+rank o.op) (g+1) (put o.dst v env) s' fun es=>K (⟨o.dst,v,o.op.reads r env,o.op.writes r env,u,b⟩::es))→∃N es,Jq (run AP N) (o::os) r g env s=some es∧K es:=by
   intro hw h
   obtain⟨N,v,u,b,h1,h2⟩:=Y0 h
   rw[TR]at h2
   obtain⟨N',es,h3,h4⟩:=P7 h2
   refine⟨max N N',_,?_,h4⟩
   simp only[Jq,hw,Vw (BK (Nat.le_max_left N N')) h1,JO (BK (AP:=AP) (Nat.le_max_right N N')) h3]
  rw[Aey]at h
  unfold He at h
  split at h
  ·rename_i hg
   exact hdo (by rw[hg];rfl) h
  ·rename_i r' b hg
   split at h
   ·rename_i b' hb
    cases hbb:(b'==b)
    ·rw[hbb]at h
     exact Lh (by rw[hg];simp only[wanted,hb,hbb]) h
    ·rw[hbb]at h
     exact hdo (by rw[hg];simp only[wanted,hb,hbb]) h
   ·rename_i hb
    exact Lh (by rw[hg];simp only[wanted,hb]) h
   ·cases h
def AgO {α:Type}:List α→List α→(List α→Prop)→Prop
 |[],ys,K=>K ys
 |x::xs,ys,K=>AgO xs ys fun r=>K (x::r)
theorem XT {α:Type}:∀(xs ys:List α) (K:List α→Prop),AgO xs ys K↔K (xs++ys)
 |[],_,_=>Iff.rfl
 |x::xs,ys,K=>XT xs ys _
def UC:List Eff→Ap→(Ap→Prop)→Prop
 |[],s,K=>K s
 |e::es,s,K=>OT e.upd e.bump s fun s=>UC es s K
theorem TS:∀(es:List Eff) (s:Ap) (K:Ap→Prop),UC es s K↔K (N8 es s)
 |[],_,_=>Iff.rfl
 |e::es,s,K=>by rw[UC,TR,N8];exact TS es _ K
def Amq (n:Nat) (σ:List Obj) (K:List Obj→Prop):Prop:=match n with
 |0=>K σ
 |n+1=>AgO σ (List.replicate (n+1) .dead) K
theorem AgP (n:Nat) (σ:List Obj) (K:List Obj→Prop):Amq n σ K↔K (σ++List.replicate n .dead):=by
 cases n with
 |zero=>simp[Amq]
 |succ n=>exact XT _ _ _
def Aau {α:Type}:Nat→List α→(List α→Prop)→Prop
 |0,xs,K=>K xs
 |_+1,[],K=>K []
 |n+1,_::xs,K=>Aau n xs K
theorem XU {α:Type}:∀(n:Nat) (l:List α) (K:List α→Prop),Aau n l K↔K (l.drop n)
 |0,_,_=>by simp[Aau]
 |_+1,[],_=>by simp[Aau]
 |n+1,_::xs,K=>XU n xs K
def AgQ (AP:Nat→Option Jh) (m:Nat) (un:List (Nat×Nat)) (ops:List Ba) (env:Env) (s:Ap) (K:Env→Ap→Prop):Prop:=
 XR m ops fun hd=>Amq (ranks hd) s.σ fun σ=>AbX AP hd s.σ.length s.ctr env ⟨σ,s.ctr+m⟩ fun es=>
    need (Lr es un=true) (UC es ⟨σ,s.ctr+m⟩ fun s1=>K (PO es env) s1)
theorem Aav {m:Nat} {un:List (Nat×Nat)} {ops:List Ba} {env:Env} {s:Ap} {K:Env→Ap→Prop} (h:AgQ AP m un ops env s K):∃N Dq s1,Oa (run AP N) m un ops env s=some (Dq,s1)∧K Dq s1:=by
 unfold AgQ at h
 rw[SC,AgP]at h
 obtain⟨N,es,h1,h2,h3⟩:=P7 h
 rw[TS]at h3
 exact⟨N,_,_,by simp only[Oa,h1,if_pos h2],h3⟩
def AgR (AP:Nat→Option Jh) (op:CZ) (env:Env) (v:AV):List Ap→Prop→Prop
 |[],T=>T
 |S::r,T=>LU AP op env S fun out _=>match out with
  | .ok u=>need (IZ u v=true) (AgR AP op env v r T)
  | .DW _=>False
def AgS (AP:Nat→Option Jh) (S:Ap):List (CZ×Env×AV)→Prop→Prop
 |[],T=>T
 |(op,env,v)::r,T=>LU AP op env S fun out _=>match out with
  | .ok u=>need (IZ u v=true) (AgS AP S r T)
  | .DW _=>False
theorem TT {op:CZ} {env:Env} {v:AV}:∀{past:List Ap} {T:Prop},AgR AP op env v past T→(∃ N,MJ (run AP N) op env v past=true)∧T
 |[],T,h=>⟨⟨0,rfl⟩,h⟩
 |S::r,T,h=>by
  obtain⟨N,out,s',h1,h2⟩:=IU h
  cases out with
  |DW u=>exact h2.elim
  |ok u=>
   obtain⟨h3,h4⟩:=h2
   obtain⟨⟨N',h5⟩,h6⟩:=TT h4
   refine⟨⟨max N N',?_⟩,h6⟩
   simp only[MJ,CW (BK (Nat.le_max_left N N')) h1,h3,Kz (BK (Nat.le_max_right N N')) h5,Bool.and_self]
theorem TU {S:Ap}:∀{pend:List (CZ×Env×AV)} {T:Prop},AgS AP S pend T→(∃ N,MK (run AP N) S pend=true)∧T
 |[],T,h=>⟨⟨0,rfl⟩,h⟩
 |(op,env,v)::r,T,h=>by
  obtain⟨N,out,s',h1,h2⟩:=IU h
  cases out with
  |DW u=>exact h2.elim
  |ok u=>
   obtain⟨h3,h4⟩:=h2
   obtain⟨⟨N',h5⟩,h6⟩:=TU h4
   refine⟨⟨max N N',?_⟩,h6⟩
   simp only[MK,CW (BK (Nat.le_max_left N N')) h1,h3,KA (BK (Nat.le_max_right N N')) h5,Bool.and_self]
def Oj (AP:Nat→Option Jh) (E:List Nat) (ops:List Ba):Nat→Env→Ap→Prop→Prop:=
 List.rec (motive:=fun _=>Nat→Env→Ap→Prop→Prop) (fun _ _ _ T=>T)
    (fun o _ ih i env s T=>bif Ef i E then He o.guard env
      (LU AP o.op env s fun out _=>match out with
        | .ok v=>bif flt o then ih (i+1) (put o.dst v env) s T else False
        | .DW _=>False)
      (ih (i+1) (put o.dst .undef env) s T)
      else ih (i+1) env s T) ops
theorem Aaw (E:List Nat) (o:Ba) (os:List Ba) (i:Nat) (env:Env) (s:Ap) (T:Prop):Oj AP E (o::os) i env s T=bif Ef i E then He o.guard env
        (LU AP o.op env s fun out _=>match out with
          | .ok v=>bif flt o then Oj AP E os (i+1) (put o.dst v env) s T else False
          | .DW _=>False)
        (Oj AP E os (i+1) (put o.dst .undef env) s T)
 else Oj AP E os (i+1) env s T:=rfl
theorem JA {E:List Nat}:∀{os:List Ba} {i:Nat} {env:Env} {s:Ap} {T:Prop},Oj AP E os i env s T→(∃ N,Fg (run AP N) E os i env s=true)∧T
 |[],i,env,s,T,h=>⟨⟨0,rfl⟩,h⟩
 |o::os,i,env,s,T,h=>by
  rw[Aaw]at h
  cases hm:Ef i E with
  |false=>
   rw[hm,cond_false]at h
   obtain⟨⟨N,h1⟩,h2⟩:=JA h
   exact⟨⟨N,by simp only[Fg,hm,Bool.false_eq_true,if_false];exact h1⟩,h2⟩
  |true=>
   rw[hm,cond_true]at h
   have Lh:wanted o.guard env=some false→Oj AP E os (i+1) (put o.dst .undef env) s T→(∃ N,Fg (run AP N) E (o::os) i env s=true)∧T:=by
        intro hw h
        obtain⟨⟨N,h1⟩,h2⟩:=JA h
        exact⟨⟨N,by simp only[Fg,hm,if_true,hw];exact h1⟩,h2⟩
   have hdo:wanted o.guard env=some true→(LU AP o.op env s fun out _=>match out with
    | .ok v=>bif flt o then Oj AP E os (i+1) (put o.dst v env) s T else False
    | .DW _=>False)→(∃ N,Fg (run AP N) E (o::os) i env s=true)∧T:=by
        intro hw h
        obtain⟨N,out,s1,h1,h2⟩:=IU h
        cases out with
        |DW v=>exact h2.elim
        |ok v=>
         dsimp only at h2
         cases hf:flt o with
         |false=>rw[hf]at h2;exact h2.elim
         |true=>
          rw[hf,cond_true]at h2
          obtain⟨⟨N',h3⟩,h4⟩:=JA h2
          refine⟨⟨max N N',?_⟩,h4⟩
          simp only[Fg,hm,if_true,hw,CW (BK (AP:=AP) (Nat.le_max_left N N')) h1,hf,Gu (BK (AP:=AP) (Nat.le_max_right N N')) h3,Bool.and_self]
   unfold He at h
   split at h
   ·rename_i hg
    exact hdo (by rw[hg];rfl) h
   ·rename_i r b hg
    split at h
    ·rename_i b' hb
     cases hbb:(b'==b)
     ·rw[hbb]at h
      exact Lh (by rw[hg];simp only[wanted,hb,hbb]) h
     ·rw[hbb]at h
      exact hdo (by rw[hg];simp only[wanted,hb,hbb]) h
    ·rename_i hb
     exact Lh (by rw[hg];simp only[wanted,hb]) h
    ·cases h
def Aax (AP:Nat→Option Jh) (m:Nat) (W pc:List Nat) (o:Ba) (os:List Ba) (i:Nat) (k:Env→Ap→List (CZ×Env×AV)→List Ap→Prop) (Q:AA→Env→Ap→Prop) (env:Env) (s:Ap) (pend:List (CZ×Env×AV)) (past:List Ap) (out:A8) (s1:Ap):Prop:=match out with
 | .DW v=>match pc with
   |p::E=>bif Nat.beq i p&&!(Ef i W||(flt o||Nat.blt i m))then Oj AP E os (i+1) env s (Q (.DW v) [] s1)else False
   |[]=>False
 | .ok v=>bif Ef i W then bif o.op.GK then AgR AP o.op env v past (k (put o.dst v env) s ((o.op,env,v)::pend) past)else False
   else bif flt o||Nat.blt i m then k (put o.dst v env) s pend past
   else AgS AP s1 pend (k (put o.dst v env) s1 pend (s::past))
def AbY (AP:Nat→Option Jh) (m:Nat) (W pc:List Nat) (ops:List Ba):Nat→Env→Ap→List (CZ×Env×AV)→List Ap→(AA→Env→Ap→Prop)→Prop:=
 List.rec (motive:=fun _=>Nat→Env→Ap→List (CZ×Env×AV)→List Ap→(AA→Env→Ap→Prop)→Prop) (fun _ env s _ _ K=>K .normal env s)
    (fun o os ih i env s pend past K=>He o.guard env (LU AP o.op env s (Aax AP m W pc o os i (fun env s pend past=>ih (i+1) env s pend past K) K env s pend past))
      (ih (i+1) (put o.dst .undef env) s pend past K)) ops
theorem Aez (m:Nat) (W pc:List Nat) (o:Ba) (os:List Ba) (i:Nat) (env:Env) (s:Ap) (pend:List (CZ×Env×AV)) (past:List Ap) (K:AA→Env→Ap→Prop):AbY AP m W pc (o::os) i env s pend past K=He o.guard env
 (LU AP o.op env s (Aax AP m W pc o os i (fun env s pend past=>AbY AP m W pc os (i+1) env s pend past K) K env s pend past))
 (AbY AP m W pc os (i+1) (put o.dst .undef env) s pend past K):=rfl
theorem JR {m:Nat} {W pc:List Nat}:∀{os:List Ba} {i:Nat} {env:Env} {s:Ap} {pend:List (CZ×Env×AV)} {past:List Ap} {K:AA→Env→Ap→Prop},AbY AP m W pc os i env s pend past K→∃N x env' s',HY (run AP N) m W pc os i env s pend past=some (x,env',s')∧K x env' s'
 |[],i,env,s,pend,past,K,h=>⟨0,_,_,_,rfl,h⟩
 |o::os,i,env,s,pend,past,K,h=>by
  have Lh:wanted o.guard env=some false→AbY AP m W pc os (i+1) (put o.dst .undef env) s pend past K→∃N x env' s',HY (run AP N) m W pc (o::os) i env s pend past=some (x,env',s')∧K x env' s':=by
   intro hw h
   obtain⟨N,x,env',s',h1,h2⟩:=JR h
   exact⟨N,x,env',s',by simp only[HY,hw];exact h1,h2⟩
  have hdo:wanted o.guard env=some true→LU AP o.op env s (Aax AP m W pc o os i (fun env s pend past=>AbY AP m W pc os (i+1) env s pend past K) K env s pend past)→∃N x env' s',HY (run AP N) m W pc (o::os) i env s pend past=some (x,env',s')∧K x env' s':=by
   intro hw h
   obtain⟨N,out,s1,h1,h2⟩:=IU h
   cases out with
   |DW v=>
    simp only[Aax]at h2
    cases pc with
    |nil=>exact h2.elim
    |cons p E=>
     dsimp only at h2
     cases hc:(Nat.beq i p&&!(Ef i W||(flt o||Nat.blt i m)))with
     |false=>rw[hc]at h2;exact h2.elim
     |true=>
      rw[hc,cond_true]at h2
      obtain⟨⟨N1,h3⟩,h4⟩:=JA h2
      refine⟨max N N1,_,_,_,?_,h4⟩
      simp only[HY,hw,CW (BK (AP:=AP) (Nat.le_max_left N N1)) h1,hc,Gu (BK (AP:=AP) (Nat.le_max_right N N1)) h3,Bool.and_self,if_true]
   |ok v=>
    simp only[Aax]at h2
    cases hm:Ef i W with
    |true=>
     rw[hm,cond_true]at h2
     cases hp:o.op.GK with
     |false=>rw[hp]at h2;exact h2.elim
     |true=>
      rw[hp,cond_true]at h2
      obtain⟨⟨N1,h3⟩,h4⟩:=TT h2
      obtain⟨N2,x,env',s',h5,h6⟩:=JR h4
      refine⟨max N (max N1 N2),x,env',s',?_,h6⟩
      simp only[HY,hw,CW (BK (AP:=AP) (Nat.le_max_left N (max N1 N2))) h1,hm,hp,Kz (BK (AP:=AP) (show N1≤max N (max N1 N2) by omega)) h3,Bool.and_self,if_true]
      exact Fj (BK (show N2≤max N (max N1 N2) by omega)) h5
    |false=>
     rw[hm,cond_false]at h2
     cases hf:(flt o||Nat.blt i m)with
     |true=>
      rw[hf,cond_true]at h2
      obtain⟨N2,x,env',s',h5,h6⟩:=JR h2
      refine⟨max N N2,x,env',s',?_,h6⟩
      simp only[HY,hw,CW (BK (AP:=AP) (Nat.le_max_left N N2)) h1,hm,hf,if_true,Bool.false_eq_true,if_false]
      exact Fj (BK (Nat.le_max_right N N2)) h5
     |false=>
      rw[hf,cond_false]at h2
      obtain⟨⟨N1,h3⟩,h4⟩:=TU h2
      obtain⟨N2,x,env',s',h5,h6⟩:=JR h4
      refine⟨max N (max N1 N2),x,env',s',?_,h6⟩
      simp only[HY,hw,CW (BK (AP:=AP) (Nat.le_max_left N (max N1 N2))) h1,hm,hf,KA (BK (AP:=AP) (show N1≤max N (max N1 N2) by omega)) h3,if_true,Bool.false_eq_true,if_false]
      exact Fj (BK (show N2≤max N (max N1 N2) by omega)) h5
  rw[Aez]at h
  unfold He at h
  split at h
  ·rename_i hg
   exact hdo (by rw[hg];rfl) h
  ·rename_i r b hg
   split at h
   ·rename_i b' hb
    cases hbb:(b'==b)
    ·rw[hbb]at h
     exact Lh (by rw[hg];simp only[wanted,hb,hbb]) h
    ·rw[hbb]at h
     exact hdo (by rw[hg];simp only[wanted,hb,hbb]) h
   ·rename_i hb
    exact Lh (by rw[hg];simp only[wanted,hb]) h
   ·cases h
def AgT (v:AV) (A B:Prop):Prop:=match v with
 | .bool c=>NC c A B
 |_=>False
def vC (AP:Nat→Option Jh) (c:AZ):Env→Ap→(AA→Env→Ap→Prop)→Prop:=
 AZ.rec (motive:=fun _=>Env→Ap→(AA→Env→Ap→Prop)→Prop)
    (fun env s Q=>Q .normal env s)
    (fun _ MO ops live tr env s Q=>Xe MO env s fun env s=>Aat AP ops env s (AgN live tr Q))
    (fun m un MO ops live tr env s Q=>Xe MO env s fun env s=>AgQ AP m un ops env s fun Dq s1=>Aau m ops fun tl=>Aat AP tl Dq s1 (AgN live tr Q))
    (fun m W pc MO ops live tr env s Q=>Xe MO env s fun env s=>AbY AP m W pc ops 0 env s [] [] (AgN live tr Q))
    (fun _ _ iha ihb env s Q=>iha env s (NI (fun env s=>ihb env s Q) Q))
    (fun c _ _ iha ihb env s Q=>AgT (c.val env) (iha env s Q) (ihb env s Q))
    (fun id _ iha env s Q=>iha env s (Aex id Q))
    (fun live a _ env s Q=>MX live env fun env=>Run AP (.loop live a) env s Q)
    (fun id env s Q=>Q (.exit id) env s)
    (fun env s Q=>Q .ret env s) c
theorem VO {env:Env} {t:Nat}:∀{ts:List Nat},t∈ts→(commit env ts).get t=env.get t
 |[],h=>by simp at h
 |t'::ts,h=>by
  simp only[commit,Env.get]
  cases hb:Nat.beq t' t
  ·have hne:t≠t':=fun e=>by subst e;simp at hb
   rw[cond_false]
   exact VO ((List.mem_cons.1 h).resolve_left hne)
  ·rw[cond_true,Nat.eq_of_beq_eq_true hb]
theorem QE {env env':Env}:∀{ts:List Nat},(∀ t∈ts,env.get t=env'.get t)→commit env ts=commit env' ts
 |[],_=>rfl
 |t::ts,h=>by simp only[commit];rw[h t (by simp),QE fun t' h'=>h t' (by simp[h'])]
theorem Xf (env:Env) (ts:List Nat):commit (commit env ts) ts=commit env ts:=QE fun _ h=>VO h
theorem Ol {live:List Nat} {a:AZ} {env:Env} {s:Ap} {Q:AA→Env→Ap→Prop} (h:Run AP (.loop live a) (commit env live) s Q):Run AP (.loop live a) env s Q:=by
 obtain⟨N,e,env',s',h1,h2⟩:=h
 refine⟨N,e,env',s',?_,h2⟩
 simp only[F6]at h1 ⊢
 cases N with
 |zero=>simp[iter]at h1
 |succ N=>
  simp only[iter,Xf]at h1 ⊢
  exact h1
theorem JU:∀{c:AZ} {env:Env} {s:Ap} {Q:AA→Env→Ap→Prop},vC AP c env s Q→Run AP c env s Q:=by
 intro c
 induction c with
 |skip=>intro env s Q h;exact⟨0,_,_,_,rfl,h⟩
 |exit id=>intro env s Q h;exact⟨0,_,_,_,rfl,h⟩
 |ret=>intro env s Q h;exact⟨0,_,_,_,rfl,h⟩
 |region hd MO ops live tr=>
  intro env s Q h
  obtain⟨Dq,s1,h1,h2⟩:=Gi h
  obtain⟨N,e,Ia,s2,h3,h4⟩:=MW h2
  cases e with
  |normal=>exact⟨N,_,_,_,by simp only[F6,h1,h3],(P6 _ _ _).1 ((EX _ _ _).1 h4)⟩
  |exit id=>exact⟨N,_,_,_,by simp only[F6,h1,h3],h4⟩
  |ret=>exact⟨N,_,_,_,by simp only[F6,h1,h3],h4⟩
  |DW v=>exact⟨N,_,_,_,by simp only[F6,h1,h3],h4⟩
 |mix m W pc MO ops live tr=>
  intro env s Q h
  obtain⟨Dq,s1,h1,h2⟩:=Gi h
  obtain⟨N,e,Ia,s2,h3,h4⟩:=JR h2
  cases e with
  |normal=>exact⟨N,_,_,_,by simp only[F6,h1,h3],(P6 _ _ _).1 ((EX _ _ _).1 h4)⟩
  |exit id=>exact⟨N,_,_,_,by simp only[F6,h1,h3],h4⟩
  |ret=>exact⟨N,_,_,_,by simp only[F6,h1,h3],h4⟩
  |DW v=>exact⟨N,_,_,_,by simp only[F6,h1,h3],h4⟩
 |par m un MO ops live tr=>
  intro env s Q h
  obtain⟨Dq,s1,h1,h2⟩:=Gi h
  obtain⟨N',Apg,s1',hh,h2⟩:=Aav h2
  rw[XU]at h2
  obtain⟨N,e,Ia,s2,h3,h4⟩:=MW h2
  have hh':Oa (run AP (max N N')) m un ops Dq s1=some (Apg,s1'):=by
   unfold Oa at hh ⊢
   split at hh
   ·rename_i es hes
    rw[JO (BK (Nat.le_max_right N N')) hes]
    exact hh
   ·cases hh
  have h3':=Gh (BK (AP:=AP) (Nat.le_max_left N N')) h3
  cases e with
  |normal=>exact⟨max N N',_,_,_,by simp only[F6,h1,hh',h3'],(P6 _ _ _).1 ((EX _ _ _).1 h4)⟩
  |exit id=>exact⟨max N N',_,_,_,by simp only[F6,h1,hh',h3'],h4⟩
  |ret=>exact⟨max N N',_,_,_,by simp only[F6,h1,hh',h3'],h4⟩
  |DW v=>exact⟨max N N',_,_,_,by simp only[F6,h1,hh',h3'],h4⟩
 |seq a b iha ihb=>
  intro env s Q h
  obtain⟨N,e,Dq,s1,h1,h2⟩:=iha h
  cases e with
  |normal=>
   obtain⟨N',e',Ia,s2,h3,h4⟩:=ihb h2
   have h1':=Di (BK (AP:=AP) (Nat.le_max_left N N')) (Nat.le_max_left N N') h1
   have h3':=Di (BK (AP:=AP) (Nat.le_max_right N N')) (Nat.le_max_right N N') h3
   exact⟨max N N',e',Ia,s2,by simp only[F6,h1',h3'],h4⟩
  |exit id=>exact⟨N,_,_,_,by simp only[F6,h1],h2⟩
  |ret=>exact⟨N,_,_,_,by simp only[F6,h1],h2⟩
  |DW v=>exact⟨N,_,_,_,by simp only[F6,h1],h2⟩
 |cond c a b iha ihb=>
  intro env s Q h
  change AgT (c.val env) (vC AP a env s Q) (vC AP b env s Q)at h
  unfold AgT at h
  split at h
  ·rename_i c' hc
   cases c'
   ·obtain⟨N,e,Dq,s1,h1,h2⟩:=ihb h
    exact⟨N,e,Dq,s1,by simp only[F6,hc,h1],h2⟩
   ·obtain⟨N,e,Dq,s1,h1,h2⟩:=iha h
    exact⟨N,e,Dq,s1,by simp only[F6,hc,h1],h2⟩
  ·cases h
 |block id a iha=>
  intro env s Q h
  obtain⟨N,e,Dq,s1,h1,h2⟩:=iha h
  cases e with
  |normal=>exact⟨N,_,_,_,by simp only[F6,h1],h2⟩
  |exit j=>
   simp only[Aex]at h2
   cases hb:Nat.beq j id
   ·rw[hb]at h2
    have hne:j≠id:=fun e=>by subst e;simp at hb
    exact⟨N,_,_,_,by simp only[F6,h1,if_neg hne],h2⟩
   ·rw[hb]at h2
    exact⟨N,_,_,_,by simp only[F6,h1,if_pos (Nat.eq_of_beq_eq_true hb)],h2⟩
  |ret=>exact⟨N,_,_,_,by simp only[F6,h1],h2⟩
  |DW v=>exact⟨N,_,_,_,by simp only[F6,h1],h2⟩
 |loop live a iha=>
  intro env s Q h
  exact Ol ((EX _ _ _).1 h)
def AbZ (AP:Nat→Option Jh) (live:List Nat) (a:AZ) (Q:AA→Env→Ap→Prop) (e:AA) (env:Env) (s:Ap):Prop:=match e with
 | .normal=>MX live env fun env=>Run AP (.loop live a) env s Q
 |e=>Q e env s
theorem XV {live:List Nat} {a:AZ} {env:Env} {s:Ap} {Q:AA→Env→Ap→Prop} (h:vC AP a env s (AbZ AP live a Q)) (hc:commit env live=env):Run AP (.loop live a) env s Q:=by
 obtain⟨N,e,Dq,s1,h1,h2⟩:=JU h
 cases e with
 |normal=>
  obtain⟨N',e',Ia,s2,h3,h4⟩:=Ol ((EX _ _ _).1 h2)
  refine⟨max N N'+1,e',Ia,s2,?_,h4⟩
  have h1':=Di (BK (AP:=AP) (show N≤max N N'+1 by omega)) (show N≤max N N'+1 by omega) h1
  simp only[F6]at h3 ⊢
  rw[iter.eq_2]
  rw[hc,h1']
  exact OL (fun env s r hr=>Di (BK (by omega)) (by omega) hr) (by omega) h3
 |exit id=>exact⟨N+1,_,_,_,by simp only[F6,iter.eq_2,hc,Di (BK (AP:=AP) (Nat.le_succ N)) (Nat.le_succ N) h1],h2⟩
 |ret=>exact⟨N+1,_,_,_,by simp only[F6,iter.eq_2,hc,Di (BK (AP:=AP) (Nat.le_succ N)) (Nat.le_succ N) h1],h2⟩
 |DW v=>exact⟨N+1,_,_,_,by simp only[F6,iter.eq_2,hc,Di (BK (AP:=AP) (Nat.le_succ N)) (Nat.le_succ N) h1],h2⟩
def AeA (fn:Jd) (K:A8→Ap→Prop) (e:AA) (env:Env) (s:Ap):Prop:=match e with
 | .normal=>NH (Fh env s fn.results) fun vs=>K (.ok (Jr vs)) s
 | .ret=>NH (Fh env s fn.results) fun vs=>K (.ok (Jr vs)) s
 | .DW v=>K (.DW v) s
 | .exit _=>False
theorem VP {f:Nat} {fn:Jd} {args:List AV} {s:Ap} {K:A8→Ap→Prop} (hf:AP f=some (.code fn)) (hl:args.length=fn.np) (h:Run AP fn.body (params args 0) s (AeA fn K)):Au AP f args s K:=by
 obtain⟨N,e,env,s',h1,h2⟩:=h
 cases e with
 |normal=>
  obtain⟨vs,h3,h4⟩:=h2
  exact⟨N+1,_,_,by simp only[run,hf,if_pos hl,evF,h1,h3,Option.map_some],h4⟩
 |ret=>
  obtain⟨vs,h3,h4⟩:=h2
  exact⟨N+1,_,_,by simp only[run,hf,if_pos hl,evF,h1,h3,Option.map_some],h4⟩
 |DW v=>exact⟨N+1,_,_,by simp only[run,hf,if_pos hl,evF,h1],h2⟩
 |exit id=>cases h2
end AI
end Go.Proofs.YtceiccjppfapjaaGreatDoor
namespace Go.Proofs.YtceiccjppfapjaaGreatDoor
namespace AI
open Go.RowKit
variable {AP:Nat→Option Jh}
def Ajo (live:List Nat) (I:Env→Ap→Prop) (Q:AA→Env→Ap→Prop) (e:AA) (env:Env) (s:Ap):Prop:=match e with
 | .normal=>MX live env fun env=>I env s
 |e=>Q e env s
structure again (I:Nat→Env→Ap→Prop) (m:Nat) (env:Env) (s:Ap):Prop where
 mk::(h:∃m',m'<m∧I m' env s)
theorem Ae {live:List Nat} {a:AZ} {Q:AA→Env→Ap→Prop} (I:Nat→Env→Ap→Prop)
 (hI:∀m env s,I m env s→commit env live=env∧vC AP a env s (Ajo live (again I m) Q)):
 ∀m env s,I m env s→Run AP (.loop live a) env s Q:=by
 intro m
 induction m using Nat.strongRecOn with
 |ind m ih=>
  intro env s h
  obtain⟨hc,h1⟩:=hI m env s h
  obtain⟨N,e,Dq,s1,h2,h3⟩:=JU h1
  have hr:Run AP a env s (AbZ AP live a Q):=by
   refine⟨N,e,Dq,s1,h2,?_⟩
   cases e with
   |normal=>
    simp only[Ajo,AbZ,EX]at h3 ⊢
    obtain⟨m',hm,h4⟩:=h3
    exact ih m' hm _ _ h4
   |exit id=>exact h3
   |ret=>exact h3
   |DW v=>exact h3
  obtain⟨N,e,Dq,s1,h1,h2⟩:=hr
  cases e with
  |normal=>
   obtain⟨N',e',Ia,s2,h3,h4⟩:=Ol ((EX _ _ _).1 h2)
   refine⟨max N N'+1,e',Ia,s2,?_,h4⟩
   have h1':=Di (BK (AP:=AP) (show N≤max N N'+1 by omega)) (show N≤max N N'+1 by omega) h1
   simp only[F6]at h3 ⊢
   rw[iter.eq_2]
   rw[hc,h1']
   exact OL (fun env s r hr=>Di (BK (by omega)) (by omega) hr) (by omega) h3
  |exit id=>exact⟨N+1,_,_,_,by simp only[F6,iter.eq_2,hc,Di (BK (AP:=AP) (Nat.le_succ N)) (Nat.le_succ N) h1],h2⟩
  |ret=>exact⟨N+1,_,_,_,by simp only[F6,iter.eq_2,hc,Di (BK (AP:=AP) (Nat.le_succ N)) (Nat.le_succ N) h1],h2⟩
  |DW v=>exact⟨N+1,_,_,_,by simp only[F6,iter.eq_2,hc,Di (BK (AP:=AP) (Nat.le_succ N)) (Nat.le_succ N) h1],h2⟩
structure Af (AP:Nat→Option Jh) (f:Nat) (args:List AV) (R:AV→Prop):Prop where
 mk::(h:∃v,Pure AP f args v∧R v)
def Amr (R:AV→Prop) (out:A8) (s:Ap):Prop:=match out with
 | .ok r=>Adl s.σ FM r R
 | .DW _=>False
theorem Ac {f:Nat} {fn:Jd} {args:List AV} {R:AV→Prop} (hf:AP f=some (.code fn)) (hl:args.length=fn.np) (h:vC AP fn.body (params args 0) ⟨[],0⟩ (AeA fn (Amr R))):Af AP f args R:=by
 obtain⟨N,out,s',h1,h2⟩:=VP hf hl (JU h)
 cases out with
 |ok r=>
  have h2:Adl s'.σ FM r R:=h2
  obtain⟨v,h3,h4⟩:=Aap h2
  exact⟨v,⟨N,by simp only[EO,h1];exact h3⟩,h4⟩
 |DW r=>cases h2
theorem Aa {f:Nat} {args:List AV} {R:AV→Prop} {K:AV→Prop} (h:Af AP f args R) (h2:∀v,R v→K v):Aan AP f args K:=by
 obtain⟨v,h3,h4⟩:=h
 exact⟨v,h3,h2 v h4⟩
theorem Bo {f:Nat} {args:List AV} {p:Prop} [Decidable p] {K:AV→Prop} (h:Af AP f args (· =.bool (decide p))) (h1:p→K (.bool true)) (h2:¬p→K (.bool false)):Aan AP f args K:=by
 refine Aa h ?_
 rintro _ rfl
 by_cases hp:p
 ·rw[decide_eq_true hp];exact h1 hp
 ·rw[decide_eq_false hp];exact h2 hp
theorem Au.mono {f:Nat} {args:List AV} {s:Ap} {K K':A8→Ap→Prop} (h:Au AP f args s K) (hk:∀out s,K out s→K' out s):Au AP f args s K':=by
 obtain⟨N,out,s',h1,h2⟩:=h
 exact⟨N,out,s',h1,hk _ _ h2⟩
theorem Bc {p:Prop} [Decidable p] (h:p):AV.bool true=AV.bool (decide p):=by rw[decide_eq_true h]
theorem Am {p:Prop} [Decidable p] (h:¬p):AV.bool false=AV.bool (decide p):=by rw[decide_eq_false h]
theorem Af.mono {f:Nat} {args:List AV} {R R':AV→Prop} (h:Af AP f args R) (h2:∀v,R v→R' v):Af AP f args R':=by
 obtain⟨v,h3,h4⟩:=h
 exact⟨v,h3,h2 v h4⟩
theorem Ah {f:Nat} {fn:Jd} {args:List AV} {s:Ap} {K:A8→Ap→Prop} (hf:AP f=some (.code fn)) (hl:args.length=fn.np) (h:vC AP fn.body (params args 0) s (AeA fn K)):Au AP f args s K:=
 VP hf hl (JU h)
end AI
end Go.Proofs.YtceiccjppfapjaaGreatDoor
namespace Go.Proofs.YtceiccjppfapjaaGreatDoor
namespace AI
def ints (l:List Int):List AV:=l.map (.int .i64)
abbrev Xn (nn:Bool) (l:List Int):AV:=.sl nn (ints l)
@[simp] theorem lI (l:List Int):(ints l).length=l.length:=by simp[ints]
theorem AgU {l:List Int} {i:Nat} {x:Int} (h:l[i]?=some x):nth (ints l) i=some (.int .i64 x):=by simp[ints,Bd,h]
theorem nI {l:List Int} {i:Nat} (h:i<l.length):nth (ints l) i=some (.int .i64 l[i]):=AgU (List.getElem?_eq_getElem h)
theorem wrap_i64 {z:Int} (h:-2^63≤z) (h2:z<2^63):IntKind.i64.wrap z=z:=by
 rw[IntKind.wrap_i64];omega
theorem nIN {l:List Int} {i:Nat} (h:i<l.length):nth (ints l) (Int.toNat (Nat.cast i))=some (.int .i64 l[i]):=nI h
theorem Aay {es:Nat} {x:AV} (h:x.cells.length=es):BI es [x]:=by intro y hy;simp at hy;exact hy▸h
theorem Oe {b n:Nat} (h:n*b≤2 ^ 46):roomy b n:=h
def iss (E:List (Bool×List Int)):List AV:=E.map fun p=>.sl p.1 (ints p.2)
@[simp] theorem lS (E:List (Bool×List Int)):(iss E).length=E.length:=by simp[iss]
theorem nS {E:List (Bool×List Int)} {i:Nat} (h:i<E.length):nth (iss E) i=some (.sl E[i].1 (ints E[i].2)):=by simp[iss,Bd,h]
theorem nSN {E:List (Bool×List Int)} {i:Nat} (h:i<E.length):nth (iss E) (Int.toNat (Nat.cast i))=some (.sl E[i].1 (ints E[i].2)):=nS h
theorem CJ {α:Type} {l:List α} {i:Nat} (h:¬(i:Int)<(l.length:Int)):l.take i=l:=List.take_of_length_le (by omega)
theorem Bz {α:Type} {p:α→Prop} {l:List α} {i:Nat} (h:i<l.length) (h1:∀x∈l.take i,p x) (h2:p l[i]):∀x∈l.take (i+1),p x:=by
 intro x hx
 rw[List.take_succ_eq_append_getElem h,List.mem_append,List.mem_singleton]at hx
 rcases hx with hx|rfl
 ·exact h1 x hx
 ·exact h2
theorem tIN {l:List Int} {i:Nat} {x y:Int}:(ints l).set (Int.toNat (Nat.cast i)) (BN (.int .i64 x) 0 (.int .i64 y))=ints (l.set i y):=by
 simp[ints,BN,AV.cells,List.map_set]
theorem tI {l:List Int} {i:Nat} {x y:Int}:(ints l).set i (BN (.int .i64 x) 0 (.int .i64 y))=ints (l.set i y):=tIN
theorem uI {l:List Int}:sub (ints l) 0 l.length=ints l:=by
 unfold sub;rw[List.drop_zero,List.take_of_length_le (by simp)]
theorem uS {l:List (Bool×List Int)}:sub (iss l) 0 l.length=iss l:=by
 unfold sub;rw[List.drop_zero,List.take_of_length_le (by simp)]
theorem uIS {l:List Int} {x:Int}:sub (ints (l++[x])) 0 (l.length+1)=ints (l++[x]):=by
 have:=uI (l:=l++[x]);rwa [List.length_append]at this
theorem uSS {l:List (Bool×List Int)} {x:Bool×List Int}:sub (iss (l++[x])) 0 (l.length+1)=iss (l++[x]):=by
 have:=uS (l:=l++[x]);rwa [List.length_append]at this
theorem rIN (n:Nat) (z:Int):List.replicate (Int.toNat (Nat.cast n)) (AV.int .i64 z)=ints (List.replicate n z):=by simp[ints]
theorem rI (n:Nat) (z:Int):List.replicate n (AV.int .i64 z)=ints (List.replicate n z):=by simp[ints]
theorem nY {l:List UInt8} {i:Nat} (h:i<l.length):nth l i=some l[i]:=by simp[Bd,h]
theorem nYN {l:List UInt8} {i:Nat} (h:i<l.length):nth l (Int.toNat (Nat.cast i))=some l[i]:=nY h
def bools (l:List Bool):List AV:=l.map .bool
@[simp] theorem lB (l:List Bool):(bools l).length=l.length:=by simp[bools]
theorem nB {l:List Bool} {i:Nat} (h:i<l.length):nth (bools l) i=some (.bool l[i]):=by simp[bools,Bd,h]
theorem nBN {l:List Bool} {i:Nat} (h:i<l.length):nth (bools l) (Int.toNat (Nat.cast i))=some (.bool l[i]):=nB h
theorem tBN {l:List Bool} {i:Nat} {x y:Bool}:(bools l).set (Int.toNat (Nat.cast i)) (BN (.bool x) 0 (.bool y))=bools (l.set i y):=by
 simp[bools,BN,AV.cells,List.map_set]
theorem tB {l:List Bool} {i:Nat} {x y:Bool}:(bools l).set i (BN (.bool x) 0 (.bool y))=bools (l.set i y):=tBN
theorem uB {l:List Bool}:sub (bools l) 0 l.length=bools l:=by
 unfold sub;rw[List.drop_zero,List.take_of_length_le (by simp)]
theorem rBN (n:Nat) (z:Bool):List.replicate (Int.toNat (Nat.cast n)) (AV.bool z)=bools (List.replicate n z):=by simp[bools]
section
variable {α β:Type} [DecidableEq α] {fk:α→AV} {fv:β→AV} {t:OQ}
def VQ (fk:α→AV) (fv:β→AV) (M:List (α×β)):List (AV×AV):=M.map fun p=>(fk p.1,fv p.2)
def Jv:List (α×β)→α→Option β
 |[],_=>none
 |(k',v)::M,k=>if k=k' then some v else Jv M k
def Uj:List (α×β)→α→β→List (α×β)
 |[],k,v=>[(k,v)]
 |(k',v')::M,k,v=>if k=k' then(k,v)::M else(k',v')::Uj M k v
theorem Aed (M:List (α×β)) (k k':α) (v:β):Jv (Uj M k v) k'=if k'=k then some v else Jv M k':=by
 induction M with
 |nil=>simp[Uj,Jv]
 |cons p M ih=>
  obtain⟨a,b⟩:=p
  simp only[Uj]
  by_cases h:k=a
  ·subst h;simp only[if_pos,Jv];split<;>simp_all
  ·rw[if_neg h]
   simp only[Jv,ih]
   by_cases h1:k'=a
   ·subst h1;rw[if_pos rfl,if_neg (fun e=>h e.symm),if_pos rfl]
   ·rw[if_neg h1,if_neg h1]
theorem MZ (hk:∀a b,DR t (fk a) (fk b)=some (decide (a=b))) (k:α):∀(M:List (α×β)) (i:Nat),
 (Jv M k=none∧findKey t (fk k) (VQ fk fv M) i=some none∧Uj M k=fun v=>M++[(k,v)])∨
 ∃j v,Jv M k=some v∧findKey t (fk k) (VQ fk fv M) i=some (some (i+j,fv v))∧Uj M k=fun v=>M.set j (k,v)
 |[],i=>.inl ⟨rfl,rfl,rfl⟩
 |(a,b)::M,i=>by
  by_cases h:k=a
  ·subst h
   refine .inr ⟨0,b,by simp[Jv],?_,by funext v;simp[Uj]⟩
   simp only[VQ,List.map_cons,findKey,hk,decide_true,Nat.add_zero]
  ·rcases MZ hk k M (i+1)with⟨h1,h2,h3⟩|⟨j,v,h1,h2,h3⟩
   ·refine .inl ⟨by simp[Jv,h,h1],?_,by funext v;simp[Uj,h,h3]⟩
    simp only[VQ,List.map_cons,findKey,hk,decide_eq_false h]at h2 ⊢
    exact h2
   ·refine .inr ⟨j+1,v,by simp[Jv,h,h1],?_,by funext v;simp[Uj,h,h3]⟩
    simp only[VQ,List.map_cons,findKey,hk,decide_eq_false h]at h2 ⊢
    rw[h2];congr 3;omega
theorem Ab0 (hk:∀a b,DR t (fk a) (fk b)=some (decide (a=b))) {M:List (α×β)} {k:α} {K:Option (Nat×AV)→Prop}
 (h1:Jv M k=none→K none) (h2:∀i v,Jv M k=some v→K (some (i,fv v))):Aas t (fk k) (VQ fk fv M) K:=by
 rcases MZ (fv:=fv) hk k M 0 with⟨g1,g2,_⟩|⟨j,v,g1,g2,_⟩
 ·exact⟨_,g2,h1 g1⟩
 ·exact⟨_,g2,h2 _ _ g1⟩
theorem Ab1 (hk:∀a b,DR t (fk a) (fk b)=some (decide (a=b))) {M:List (α×β)} {k:α} {v:β} {K:List (AV×AV)→Prop}
 (h:K (VQ fk fv (Uj M k v))):AgK t (fk k) (fv v) (VQ fk fv M) K:=by
 rcases MZ (fv:=fv) hk k M 0 with⟨g1,g2,g3⟩|⟨j,w,g1,g2,g3⟩
 ·refine⟨_,g2,?_⟩
  rw[g3]at h
  simpa[AgJ,VQ]using h
 ·refine⟨_,g2,?_⟩
  rw[g3]at h
  simpa[AgJ,VQ,List.map_set]using h
end
theorem VR (a b:Int):DR .int (.int .i64 a) (.int .i64 b)=some (decide (a=b)):=by
 simp only[DR,if_true];rfl
abbrev Xv (M:List (Int×Int)):List (AV×AV):=VQ (.int .i64) (.int .i64) M
theorem fkI {M:List (Int×Int)} {k:Int} {K:Option (Nat×AV)→Prop}
 (h1:Jv M k=none→K none) (h2:∀i v,Jv M k=some v→K (some (i,.int .i64 v))):Aas .int (.int .i64 k) (Xv M) K:=Ab0 VR h1 h2
theorem msI {M:List (Int×Int)} {k v:Int} {K:List (AV×AV)→Prop} (h:K (Xv (Uj M k v))):AgK .int (.int .i64 k) (.int .i64 v) (Xv M) K:=Ab1 VR h
end AI
end Go.Proofs.YtceiccjppfapjaaGreatDoor
