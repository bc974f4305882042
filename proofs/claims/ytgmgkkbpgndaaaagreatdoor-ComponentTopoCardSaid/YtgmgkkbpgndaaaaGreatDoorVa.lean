/- The evaluator, step by step on symbols: what must hold for it to end in 'Q'. The evaluator, step by step on symbols: operations. The evaluator, step by step on symbols: regions, code, loops, functions. Loops by an invariant; what a function answers, as a predicate. Lists of numbers as abstract values; small facts that the steps need. -/
import Derived.Test.YtgmgkkbpgndaaaaGreatDoorSe
set_option linter.unusedVariables false
set_option maxRecDepth 4000
namespace Go.Proofs.YtgmgkkbpgndaaaaGreatDoor
namespace AI
open Go.RowKit
variable {AP:Nat→Option AFn}
structure Run (AP:Nat→Option AFn) (c:ACode) (env:Env) (s:Sto) (Q:AExit→Env→Sto→Prop):Prop where
 mk::(h:∃N e env' s',evC (run AP N) N c env s=some (e,env',s')∧Q e env' s')
def Op1 (AP:Nat→Option AFn) (o:AOp) (env:Env) (s:Sto) (K:AOut→Sto→Prop):Prop:=
 ∃N out s',evOp (run AP N) o env s=some (out,s')∧K out s'
def Ops (AP:Nat→Option AFn) (os:List AOper) (env:Env) (s:Sto) (Q:AExit→Env→Sto→Prop):Prop:=
 ∃N e env' s',evOps (run AP N) os env s=some (e,env',s')∧Q e env' s'
structure Pure (AP:Nat→Option AFn) (f:Nat) (args:List AV) (v:AV):Prop where
 mk::(h:∃N,pureCall (run AP N) f args=some v)
structure Calls1 (AP:Nat→Option AFn) (f:Nat) (args:List AV) (s:Sto) (K:AOut→Sto→Prop):Prop where
 mk::(h:∃N out s',run AP N f args s=some (out,s')∧K out s')
theorem le_call {n n':Nat} (h:n≤n'):CallLe (run AP n) (run AP n'):=run_mono h
theorem Run.mono {c:ACode} {env:Env} {s:Sto} {Q Q':AExit→Env→Sto→Prop} (h:Run AP c env s Q) (hq:∀e env s,Q e env s→Q' e env s):Run AP c env s Q':=by
 obtain⟨N,e,env',s',h1,h2⟩:=h
 exact⟨N,e,env',s',h1,hq _ _ _ h2⟩
def AV.force {R:Sort _} (v:AV) (f:AV→R):R:=
 match v with
 | .bool b=>f (.bool b)
 | .int k n=>f (.int k n)
 | .str s=>f (.str s)
 | .sl nn xs=>f (.sl nn xs)
 | .zc=>f .zc
 | .own o g a b=>f (.own o g a b)
 | .agg cs=>f (.agg cs)
 | .tup cs=>f (.tup cs)
 | .ref o g i a=>f (.ref o g i a)
 | .fref cs=>f (.fref cs)
 | .fn g cs=>f (.fn g cs)
 | .map o g=>f (.map o g)
 | .fmap es=>f (.fmap es)
 | .iface t v=>f (.iface t v)
 | .nilp=>f .nilp
 | .nilmap=>f .nilmap
 | .nilfn=>f .nilfn
 | .nilif=>f .nilif
 | .undef=>f .undef
 | .junk=>f .junk
theorem force_eq {R:Sort _} (v:AV) (f:AV→R):v.force f=f v:=by cases v<;>rfl
def bcase (b:Bool) (t e:Prop):Prop:=match b with
 |true=>t
 |false=>e
theorem bcase_intro {b:Bool} {t e:Prop} (h1:b=true→t) (h2:b=false→e):bcase b t e:=by
 cases b
 ·exact h2 rfl
 ·exact h1 rfl
structure pcase (p t e:Prop):Prop where
 mk::(yes:p→t) (no:¬p→e)
theorem pcase_intro {p t e:Prop} (h1:p→t) (h2:¬p→e):pcase p t e:=⟨h1,h2⟩
structure need (p t:Prop):Prop where
 mk::(l:p) (r:t)
theorem need_intro {p t:Prop} (h1:p) (h2:t):need p t:=⟨h1,h2⟩
structure wrapK (k:IntKind) (z:Int) (K:AV→Prop):Prop where
 mk::(h:∃y,k.wrap z=y∧K (.int k y))
theorem wrapK_intro {k:IntKind} {z y:Int} {K:AV→Prop} (h:k.wrap z=y) (h2:K (.int k y)):wrapK k z K:=⟨y,h,h2⟩
structure nthK {α:Type} (xs:List α) (i:Nat) (K:α→Prop):Prop where
 mk::(h:∃x,nth xs i=some x∧K x)
theorem nthK_intro {α:Type} {xs:List α} {i:Nat} {K:α→Prop} {x:α} (h:nth xs i=some x) (h2:K x):nthK xs i K:=⟨x,h,h2⟩
structure getK {α:Type} (o:Option α) (K:α→Prop):Prop where
 mk::(h:∃x,o=some x∧K x)
theorem getK_intro {α:Type} {o:Option α} {K:α→Prop} {x:α} (h:o=some x) (h2:K x):getK o K:=⟨x,h,h2⟩
structure callK (AP:Nat→Option AFn) (f:Nat) (args:List AV) (K:AV→Prop):Prop where
 mk::(h:∃v,Pure AP f args v∧K v)
theorem callK_intro {f:Nat} {args:List AV} {K:AV→Prop} {v:AV} (h:Pure AP f args v) (h2:K v):callK AP f args K:=⟨v,h,h2⟩
def settle (v:AV) (K:AV→Prop):Prop:=match v with
 | .bool b=>bcase b (K (.bool true)) (K (.bool false))
 |v=>v.force K
theorem settle_iff (v:AV) (K:AV→Prop):settle v K↔K v:=by
 cases v<;>first|exact Iff.rfl|skip
 rename_i b
 cases b<;>exact Iff.rfl
def setK {α:Type}:List α→Nat→α→(List α→Prop)→Prop
 |[],_,_,K=>K []
 |_::xs,0,y,K=>K (y::xs)
 |x::xs,n+1,y,K=>setK xs n y fun ys=>K (x::ys)
theorem setK_iff {α:Type}:∀(l:List α) (n:Nat) (y:α) (K:List α→Prop),setK l n y K↔K (l.set n y)
 |[],_,_,_=>Iff.rfl
 |_::_,0,_,_=>Iff.rfl
 |x::xs,n+1,y,K=>setK_iff xs n y fun ys=>K (x::ys)
def snocK {α:Type}:List α→α→(List α→Prop)→Prop
 |[],y,K=>K [y]
 |x::xs,y,K=>snocK xs y fun ys=>K (x::ys)
theorem snocK_iff {α:Type}:∀(l:List α) (y:α) (K:List α→Prop),snocK l y K↔K (l++[y])
 |[],_,_=>Iff.rfl
 |x::xs,y,K=>snocK_iff xs y fun ys=>K (x::ys)
def newK (s:Sto) (mk:Nat→Nat→AV) (ob:Nat→Obj) (K:AOut→Sto→Prop):Prop:=
 snocK s.σ (ob s.ctr) fun σ=>K (.ok (mk s.σ.length s.ctr)) ⟨σ,s.ctr+1⟩
structure eqK {α:Type} (a:α) (K:α→Prop):Prop where
 mk::(h:∃b,a=b∧K b)
theorem eqK_intro {α:Type} {a b:α} {K:α→Prop} (h1:a=b) (h:K b):eqK a K:=⟨_,h1,h⟩
def vBinInt (op:BinOp) (k:IntKind) (a b:Int) (K:AV→Prop):Prop:=
 match op with
 | .add=>wrapK k (a+b) K
 | .sub=>wrapK k (a-b) K
 | .mul=>wrapK k (a*b) K
 | .quo=>need (b≠0) (wrapK k (a.tdiv b) K)
 | .rem=>need (b≠0) (K (.int k (a.tmod b)))
 | .eql=>pcase (a=b) (K (.bool true)) (K (.bool false))
 | .neq=>pcase (a=b) (K (.bool false)) (K (.bool true))
 | .lss=>pcase (a<b) (K (.bool true)) (K (.bool false))
 | .leq=>pcase (a≤b) (K (.bool true)) (K (.bool false))
 | .gtr=>pcase (b<a) (K (.bool true)) (K (.bool false))
 | .geq=>pcase (b≤a) (K (.bool true)) (K (.bool false))
 | .and=>eqK (k.wrap (BitVec.ofInt k.bits a &&& BitVec.ofInt k.bits b).toNat) fun z=>K (.int k z)
 | .or=>eqK (k.wrap (BitVec.ofInt k.bits a ||| BitVec.ofInt k.bits b).toNat) fun z=>K (.int k z)
 | .xor=>eqK (k.wrap (BitVec.ofInt k.bits a ^^^ BitVec.ofInt k.bits b).toNat) fun z=>K (.int k z)
 | .shl=>need (0≤b) (wrapK k (a*2 ^ (min b.toNat k.bits)) K)
 | .shr=>need (0≤b) (eqK (a.fdiv (2 ^ (min b.toNat k.bits))) fun z=>K (.int k z))
 |_=>False
def vBinStr (op:BinOp) (a b:List UInt8) (K:AV→Prop):Prop:=
 match op with
 | .eql=>pcase (a=b) (K (.bool true)) (K (.bool false))
 | .neq=>pcase (a=b) (K (.bool false)) (K (.bool true))
 | .lss=>bcase (Op.bytesLess a b) (K (.bool true)) (K (.bool false))
 | .leq=>bcase (Op.bytesLess a b||a==b) (K (.bool true)) (K (.bool false))
 | .gtr=>bcase (Op.bytesLess a b||a==b) (K (.bool false)) (K (.bool true))
 | .geq=>bcase (Op.bytesLess a b) (K (.bool false)) (K (.bool true))
 | .add=>need (a.length+b.length<2 ^ 63) (K (.str (a++b)))
 |_=>False
def needK (op:BinOp) (k k':IntKind) (t:Prop):Prop:=match op with
 | .shl=>t
 | .shr=>t
 |_=>need (k=k') t
theorem needK_out {op:BinOp} {k k':IntKind} {t:Prop} (h:needK op k k' t):(k=k'∨op=.shl∨op=.shr)∧t:=by
 unfold needK at h
 split at h
 ·exact⟨.inr (.inl rfl),h⟩
 ·exact⟨.inr (.inr rfl),h⟩
 ·exact⟨.inl h.1,h.2⟩
theorem bin_int {op:BinOp} {k k':IntKind} {t:EqT} {a b:Int} (h:k=k'∨op=.shl∨op=.shr):bin op t (.int k a) (.int k' b)=binInt op k a b:=by
 simp only[bin]
 split
 ·rfl
 ·rename_i hk
  rcases h with h|rfl|rfl
  ·exact absurd h hk
  ·rfl
  ·rfl
def vBin (op:BinOp) (t:EqT) (x y:AV) (K:AV→Prop):Prop:=
 match x,y with
 | .int k a,.int k' b=>needK op k k' (vBinInt op k a b K)
 | .str a,.str b=>vBinStr op a b K
 |x,y=>getK (bin op t x y) fun v=>settle v K
theorem vBin_sound {op:BinOp} {t:EqT} {x y:AV} {K:AV→Prop} (h:vBin op t x y K):∃v,bin op t x y=some v∧K v:=by
 unfold vBin at h
 split at h
 ·rename_i k a k' b
  obtain⟨hk,h⟩:=needK_out h
  rw[bin_int hk]
  unfold vBinInt at h
  cases op<;>simp only at h
  case add=>obtain⟨y,h1,h2⟩:=h;exact⟨_,rfl,by rw[h1];exact h2⟩
  case sub=>obtain⟨y,h1,h2⟩:=h;exact⟨_,rfl,by rw[h1];exact h2⟩
  case mul=>obtain⟨y,h1,h2⟩:=h;exact⟨_,rfl,by rw[h1];exact h2⟩
  case quo=>obtain⟨h0,y,h1,h2⟩:=h;exact⟨_,by simp only[binInt,if_neg h0];rfl,by rw[h1];exact h2⟩
  case rem=>obtain⟨h0,h2⟩:=h;exact⟨_,by simp only[binInt,if_neg h0],h2⟩
  case and=>obtain⟨z,rfl,h2⟩:=h;exact⟨_,rfl,h2⟩
  case or=>obtain⟨z,rfl,h2⟩:=h;exact⟨_,rfl,h2⟩
  case xor=>obtain⟨z,rfl,h2⟩:=h;exact⟨_,rfl,h2⟩
  case shl=>obtain⟨h0,y,h1,h2⟩:=h;exact⟨_,by simp only[binInt,if_neg (Int.not_lt.2 h0)];rfl,by rw[h1];exact h2⟩
  case shr=>obtain⟨h0,z,rfl,h2⟩:=h;exact⟨_,by simp only[binInt,if_neg (Int.not_lt.2 h0)],h2⟩
  case eql=>
   by_cases c:a=b
   ·exact⟨_,rfl,by have:=h.1 c;simpa only[c,beq_self_eq_true,bne_self_eq_false,Bool.not_true]using this⟩
   ·exact⟨_,rfl,by have:=h.2 c;simpa only[bne,beq_false_of_ne c,Bool.not_false]using this⟩
  case neq=>
   by_cases c:a=b
   ·exact⟨_,rfl,by have:=h.1 c;simpa only[c,beq_self_eq_true,bne_self_eq_false,Bool.not_true]using this⟩
   ·exact⟨_,rfl,by have:=h.2 c;simpa only[bne,beq_false_of_ne c,Bool.not_false]using this⟩
  case lss=>
   by_cases c:a<b
   ·exact⟨_,rfl,by simpa[c]using h.1 c⟩
   ·exact⟨_,rfl,by simpa[c]using h.2 c⟩
  case leq=>
   by_cases c:a≤b
   ·exact⟨_,rfl,by simpa[c]using h.1 c⟩
   ·exact⟨_,rfl,by simpa[c]using h.2 c⟩
  case gtr=>
   by_cases c:b<a
   ·exact⟨_,rfl,by simpa[c]using h.1 c⟩
   ·exact⟨_,rfl,by simpa[c]using h.2 c⟩
  case geq=>
   by_cases c:b≤a
   ·exact⟨_,rfl,by simpa[c]using h.1 c⟩
   ·exact⟨_,rfl,by simpa[c]using h.2 c⟩
 ·rename_i a b
  simp only[bin]
  unfold vBinStr at h
  cases op<;>simp only at h
  case add=>obtain⟨h0,h2⟩:=h;exact⟨_,by simp only[binStr,if_pos h0],h2⟩
  case eql=>
   by_cases c:a=b
   ·exact⟨_,rfl,by have:=h.1 c;simpa only[c,beq_self_eq_true,bne_self_eq_false,Bool.not_true]using this⟩
   ·exact⟨_,rfl,by have:=h.2 c;simpa only[bne,beq_false_of_ne c,Bool.not_false]using this⟩
  case neq=>
   by_cases c:a=b
   ·exact⟨_,rfl,by have:=h.1 c;simpa only[c,beq_self_eq_true,bne_self_eq_false,Bool.not_true]using this⟩
   ·exact⟨_,rfl,by have:=h.2 c;simpa only[bne,beq_false_of_ne c,Bool.not_false]using this⟩
  case lss=>cases c:Op.bytesLess a b<;>rw[c]at h<;>exact⟨_,rfl,by rw[c];exact h⟩
  case leq=>cases c:(Op.bytesLess a b||a==b)<;>rw[c]at h<;>exact⟨_,rfl,by rw[c];exact h⟩
  case gtr=>cases c:(Op.bytesLess a b||a==b)<;>rw[c]at h<;>exact⟨_,rfl,by rw[c];exact h⟩
  case geq=>cases c:Op.bytesLess a b<;>rw[c]at h<;>exact⟨_,rfl,by rw[c];exact h⟩
 ·obtain⟨v,h1,h2⟩:=h
  exact⟨v,h1,(settle_iff v K).1 h2⟩
end AI
end Go.Proofs.YtgmgkkbpgndaaaaGreatDoor
namespace Go.Proofs.YtgmgkkbpgndaaaaGreatDoor
namespace AI
open Go.RowKit
variable {AP:Nat→Option AFn}
def done (v:AV) (s:Sto) (K:AOut→Sto→Prop):Prop:=settle v fun v=>K (.ok v) s
def noCall:CallF:=fun _ _ _=>none
def vRest (o:AOp) (env:Env) (s:Sto) (K:AOut→Sto→Prop):Prop:=
 getK (evOp noCall o env s) fun r=>match r with
    |(.ok v,s')=>done v s' K
    |(.pan v,s')=>K (.pan v) s'
def snap0 (σ:List Obj) (n:Nat) (r:AV) (R:AV→Prop):Prop:=match r with
 | .own o g off len=>match n with
   |0=>False
   |n+1=>match nth σ o with
    |some (.arr g' _ nn cl elems)=>match cl with
     |true=>need (g=g'∧off+len≤elems.length) (eqK (sub elems off len) fun xs=>R (.sl nn xs))
     |false=>getK (snap σ (n+1) (.own o g off len)) R
    |_=>False
 |r=>getK (snap σ n r) R
theorem snap0_sound {σ:List Obj} {n:Nat} {r:AV} {R:AV→Prop} (h:snap0 σ n r R):∃v,snap σ n r=some v∧R v:=by
 unfold snap0 at h
 split at h
 ·rename_i o g off len
  split at h
  ·cases h
  ·split at h
   ·rename_i g' es nn cl elems ho
    split at h
    ·obtain⟨h1,xs,rfl,h2⟩:=h
     refine⟨_,?_,h2⟩
     simp only[snap,ho,if_pos h1,if_true]
    ·obtain⟨v,h1,h2⟩:=h;exact⟨v,h1,h2⟩
   ·cases h
 ·obtain⟨v,h1,h2⟩:=h;exact⟨v,h1,h2⟩
def snapLK (σ:List Obj):Nat→List AV→(List AV→Prop)→Prop
 |_,[],K=>K []
 |0,_::_,_=>False
 |n+1,v::vs,K=>snap0 σ n v fun a=>snapLK σ n vs fun r=>K (a::r)
theorem snapLK_sound {σ:List Obj}:∀{n:Nat} {vs:List AV} {K:List AV→Prop},snapLK σ n vs K→∃r,snapL σ n vs=some r∧K r
 |n,[],K,h=>⟨[],by cases n<;>rfl,by cases n<;>exact h⟩
 |0,_::_,_,h=>by cases h
 |n+1,v::vs,K,h=>by
  obtain⟨a,h1,h2⟩:=snap0_sound h
  obtain⟨r,h3,h4⟩:=snapLK_sound h2
  exact⟨_,by simp only[snapL,h1,h3],h4⟩
def snapK (σ:List Obj) (n:Nat) (r:AV) (R:AV→Prop):Prop:=match r with
 | .tup cs=>match n with
   |0=>False
   |n+1=>snapLK σ n cs fun vs=>R (.tup vs)
 | .agg cs=>match n with
   |0=>False
   |n+1=>snapLK σ n cs fun vs=>R (.agg vs)
 |r=>snap0 σ n r R
theorem snapK_sound {σ:List Obj} {n:Nat} {r:AV} {R:AV→Prop} (h:snapK σ n r R):∃v,snap σ n r=some v∧R v:=by
 unfold snapK at h
 split at h
 ·split at h
  ·cases h
  ·obtain⟨vs,h1,h2⟩:=snapLK_sound h
   exact⟨_,by simp only[snap,h1,Option.map_some],h2⟩
 ·split at h
  ·cases h
  ·obtain⟨vs,h1,h2⟩:=snapLK_sound h
   exact⟨_,by simp only[snap,h1,Option.map_some],h2⟩
 ·exact snap0_sound h
def vCall (AP:Nat→Option AFn) (m:Mode) (f:Nat) (args:List AV) (s:Sto) (K:AOut→Sto→Prop):Prop:=
 match m with
 | .pure=>need (closedL args=true) (callK AP f args fun v=>done v s K)
 | .borrow=>snapLK s.σ snapDepth args fun args'=>callK AP f args' fun v=>need (v.scalar=true) (done v s K)
 | .share=>Calls1 AP f args s fun out s'=>match out with
   | .ok r=>getK (compact s.σ.length r s') fun r=>done r.1 r.2 K
   | .pan v=>need (v.closed=true) (K (.pan v) ⟨s'.σ.take s.σ.length,s'.ctr⟩)
 | .own=>∃N r s',callMode (run AP N) .own f args s=some (.ok r,s')∧done r s' K
 | .keep=>Calls1 AP f args s fun out s'=>match out with
   | .ok r=>done r s' K
   | .pan v=>K (.pan v) s'
structure appendK (g g' es es' len:Nat) (nn cl c:Bool) (elems ys:List AV) (bytes:Nat) (K:Nat→Bool→Bool→List AV→Prop):Prop where
 mk::(h:(g=g'∧es=es'∧len≤elems.length∧AllSize es ys∧roomy bytes (len+ys.length))∧K (len+ys.length) (nn||!ys.isEmpty) (cl&&c) (elems.take len++ys))
def andK (a b:Bool) (K:Bool→Prop):Prop:=match b with
 |true=>K a
 |false=>K false
theorem andK_iff (a b:Bool) (K:Bool→Prop):andK a b K↔K (a&&b):=by cases a<;>cases b<;>exact Iff.rfl
def forceB (b:Bool) (K:Bool→Prop):Prop:=match b with
 |true=>K true
 |false=>K false
theorem forceB_iff (b:Bool) (K:Bool→Prop):forceB b K↔K b:=by cases b<;>exact Iff.rfl
def vlitK (env:Env):List (Nat×AO)→(List (Nat×AV)→Prop)→Prop
 |[],K=>K []
 |(j,x)::ps,K=>(x.val env).force fun v=>vlitK env ps fun r=>K ((j,v)::r)
theorem vlitK_iff (env:Env):∀(ps:List (Nat×AO)) (K:List (Nat×AV)→Prop),vlitK env ps K↔K (vlit env ps)
 |[],_=>Iff.rfl
 |(j,x)::ps,K=>by simp only[vlitK,force_eq,vlit];exact vlitK_iff env ps _
def litElemsK (z:AV):Nat→List (Nat×AV)→Nat→(List AV→Prop)→Prop
 |0,_,_,K=>K []
 |n+1,[],i,K=>litElemsK z n [] (i+1) fun r=>K (z::r)
 |n+1,(j,v)::ps,i,K=>bif Nat.beq i j then litElemsK z n ps (i+1) fun r=>K (v::r)else litElemsK z n ((j,v)::ps) (i+1) fun r=>K (z::r)
theorem litElemsK_iff (z:AV):∀(n:Nat) (ps:List (Nat×AV)) (i:Nat) (K:List AV→Prop),litElemsK z n ps i K↔K (litElems z n ps i)
 |0,_,_,_=>by simp only[litElemsK,litElems]
 |n+1,[],i,K=>by simp only[litElemsK,litElems];exact litElemsK_iff z n [] (i+1) _
 |n+1,(j,v)::ps,i,K=>by
  simp only[litElemsK,litElems]
  cases Nat.beq i j
  ·exact litElemsK_iff z n _ (i+1) _
  ·exact litElemsK_iff z n _ (i+1) _
def elemsK (es:Nat) (v:AV) (s:Sto) (K:List AV→Bool→Prop):Prop:=match v with
 | .sl _ xs=>K xs true
 | .zc=>K [] true
 |v=>getK (elemsOf s es v) fun r=>K r.1 r.2
theorem elemsK_sound {es:Nat} {v:AV} {s:Sto} {K:List AV→Bool→Prop} (h:elemsK es v s K):∃ys c,elemsOf s es v=some (ys,c)∧K ys c:=by
 unfold elemsK at h
 split at h
 ·exact⟨_,_,rfl,h⟩
 ·exact⟨_,_,rfl,h⟩
 ·obtain⟨⟨ys,c⟩,h1,h2⟩:=h
  exact⟨ys,c,h1,h2⟩
def offK (off j:Nat) (K:Nat→Prop):Prop:=match off with
 |0=>K j
 |n+1=>K (n+1+j)
theorem offK_iff (off j:Nat) (K:Nat→Prop):offK off j K↔K (off+j):=by
 cases off with
 |zero=>simp[offK]
 |succ n=>exact Iff.rfl
structure findK (t:EqT) (k:AV) (ents:List (AV×AV)) (K:Option (Nat×AV)→Prop):Prop where
 mk::(h:∃r,findKey t k ents 0=some r∧K r)
def msetE (k v:AV) (ents:List (AV×AV)) (r:Option (Nat×AV)):List (AV×AV):=match r with
 |some (i,_)=>ents.set i (k,v)
 |none=>ents++[(k,v)]
structure msetK (t:EqT) (k v:AV) (ents:List (AV×AV)) (K:List (AV×AV)→Prop):Prop where
 mk::(h:∃r,findKey t k ents 0=some r∧K (msetE k v ents r))
def boundK (env:Env) (d:Nat) (x:Option AO) (K:Nat→Prop):Prop:=match x with
 |none=>K d
 |some x=>match x.val env with
  | .int _ n=>need (0≤n) (K n.toNat)
  |_=>False
def boundsK (env:Env) (len:Nat) (lo hi:Option AO) (K:Nat→Nat→Prop):Prop:=
 boundK env len hi fun h=>boundK env 0 lo fun l=>need (l≤h∧h≤len) (K l h)
theorem boundK_sound {env:Env} {d:Nat} {x:Option AO} {K:Nat→Prop} (h:boundK env d x K):∃n,(match x with|none=>some d|some x=>bound (x.val env))=some n∧K n:=by
 unfold boundK at h
 split at h
 ·exact⟨d,rfl,h⟩
 ·rename_i x
  split at h
  ·rename_i k n hv
   exact⟨n.toNat,by simp only[hv,bound,if_pos h.1],h.2⟩
  ·cases h
theorem boundsK_sound {env:Env} {len:Nat} {lo hi:Option AO} {K:Nat→Nat→Prop} (h:boundsK env len lo hi K):∃l u,bounds env len lo hi=some (l,u)∧K l u:=by
 obtain⟨u,h1,h2⟩:=boundK_sound h
 obtain⟨l,h3,h4,h5⟩:=boundK_sound h2
 refine⟨l,u,?_,h5⟩
 unfold bounds
 cases hi<;>cases lo<;>simp_all
def vOp (AP:Nat→Option AFn) (o:AOp) (env:Env) (s:Sto) (K:AOut→Sto→Prop):Prop:=
 match o with
 | .mov x=>done (x.val env) s K
 | .newown es=>newK s (fun o g=>.own o g 0 0) (fun g=>.arr g es false true []) K
 | .alloco off e2 es cs=>match nth cs off with
   |some (.sl false [])=>need (0<e2) (newK s (fun o g=>.own o g 0 0) (fun g=>.arr g e2 false true []) fun out s1=>match out with
        | .ok v=>newK s1 (fun o g=>.ref o g 0 0) (fun g=>.arr g es true (AV.agg (cs.set off v)).closed [.agg (cs.set off v)]) K
        | .pan _=>False)
   |_=>False
 | .pick c a b=>match c.val env with
   | .bool c=>bcase c (done (a.val env) s K) (done (b.val env) s K)
   |_=>False
 | .alloc es z=>newK s (fun o g=>.ref o g 0 0) (fun g=>.arr g es true z.closed [z]) K
 | .box es x=>(x.val env).force fun v=>need ((v.storable&&v.cells.length==es)=true) (newK s (fun o g=>.ref o g 0 0) (fun g=>.arr g es true v.closed [v]) K)
 | .build z parts=>getK (buildCells z (vparts env parts)) fun cs=>K (.ok (.agg cs)) s
 | .load sz a=>match a.val env with
   | .fref cs=>getK (loadCells cs sz) fun v=>done v s K
   | .ref o g i off=>match nth s.σ o with
     |some (.arr g' _ _ _ elems)=>need (g=g') (nthK elems i fun x=>getK (loadCells (x.cells.drop off) sz) fun v=>done v s K)
     |_=>False
   |_=>False
 | .store sz a x=>match a.val env with
   | .ref o g i off=>match nth s.σ o with
     |some (.arr g' es nn cl elems)=>need (g=g') (nthK elems i fun y=>(x.val env).force fun v=>need ((v.storable&&v.cells.length==sz&&off+sz≤es)=true)
       (andK cl v.closed fun cl'=>eqK (elems.set i (writeCells y off v)) fun es'=>setK s.σ o (.arr g' es nn cl' es') fun σ=>K (.ok .undef) ⟨σ,s.ctr⟩))
     |_=>False
   |_=>False
 | .nilchk x=>match x.val env with
   | .ref o g i off=>K (.ok (.ref o g i off)) s
   | .fref cs=>K (.ok (.fref cs)) s
   | .fn f cs=>K (.ok (.fn f cs)) s
   |_=>False
 | .bin op t x y=>vBin op t (x.val env) (y.val env) fun v=>K (.ok v) s
 | .un op x=>match op,x.val env with
   | .not,.bool b=>bcase b (K (.ok (.bool false)) s) (K (.ok (.bool true)) s)
   | .neg,.int k n=>wrapK k (0-n) fun v=>K (.ok v) s
   |_,_=>False
 | .conv k x=>match x.val env with
   | .int _ n=>wrapK k n fun v=>K (.ok v) s
   |_=>False
 | .field off sz x=>match x.val env with
   | .agg cs=>getK (loadCells (cs.drop off) sz) fun v=>done v s K
   |_=>False
 | .faddr off x=>match x.val env with
   | .fref cs=>K (.ok (.fref (cs.drop off))) s
   | .ref o g i off'=>K (.ok (.ref o g i (off'+off))) s
   |_=>False
 | .iaddr es x i=>match x.val env,i.val env with
   | .sl _ xs,.int _ i=>need (0≤i) (nthK xs i.toNat fun v=>need (v.cells.length=es) (K (.ok (.fref v.cells)) s))
   | .own o g off len,.int _ i=>match nth s.σ o with
     |some (.arr g' es' _ _ _)=>need (g=g'∧es=es'∧0≤i∧i<len) (offK off i.toNat fun j=>K (.ok (.ref o g j 0)) s)
     |_=>False
   |_,_=>False
 | .len k x=>match k,x.val env with
   | .slice,.sl _ xs=>eqK xs.length fun n=>K (.ok (.int .i64 n)) s
   | .slice,.own _ _ _ n=>K (.ok (.int .i64 n)) s
   | .str,.str bs=>K (.ok (.int .i64 bs.length)) s
   | .map,.map o g=>match nth s.σ o with
     |some (.mp g' _ ents)=>need (g=g') (K (.ok (.int .i64 ents.length)) s)
     |_=>False
   | .map,.fmap ents=>K (.ok (.int .i64 ents.length)) s
   |_,_=>vRest (.len k x) env s K
 | .mkmap=>newK s (fun o g=>.map o g) (fun g=>.mp g true []) K
 | .lookup t z okk m k=>match m.val env with
   | .map o g=>match nth s.σ o with
     |some (.mp g' _ ents)=>need (g=g'∧keyOk t (k.val env)=true) (findK t (k.val env) ents fun r=>match r with
      |some (_,v)=>bif okk then K (.ok (.tup [v,.bool true])) s else done v s K
      |none=>bif okk then K (.ok (.tup [z,.bool false])) s else done z s K)
     |_=>False
   | .fmap ents=>need (keyOk t (k.val env)=true) (findK t (k.val env) ents fun r=>match r with
        |some (_,v)=>bif okk then K (.ok (.tup [v,.bool true])) s else done v s K
        |none=>bif okk then K (.ok (.tup [z,.bool false])) s else done z s K)
   |_=>vRest (.lookup t z okk m k) env s K
 | .mapset t m k v=>match m.val env with
   | .map o g=>match nth s.σ o with
     |some (.mp g' cl ents)=>(v.val env).force fun vv=>need (g=g'∧keyOk t (k.val env)=true∧vv.storable=true)
       (andK cl vv.closed fun cl'=>msetK t (k.val env) vv ents fun ents'=>setK s.σ o (.mp g' cl' ents') fun σ=>K (.ok .undef) ⟨σ,s.ctr⟩)
     |_=>False
   |_=>False
 | .delete t m k=>match m.val env with
   | .map o g=>match nth s.σ o with
     |some (.mp g' cl ents)=>need (g=g'∧keyOk t (k.val env)=true) (findK t (k.val env) ents fun r=>match r with
      |some (i,_)=>setK s.σ o (.mp g' cl (ents.eraseIdx i)) fun σ=>K (.ok .undef) ⟨σ,s.ctr⟩
      |none=>K (.ok .undef) s)
     |_=>False
   |_=>False
 | .lit own es z len parts=>vlitK env parts fun ps=>need (litOk es len ps 0=true) (litElemsK z len ps 0 fun xs=>
    bif own then forceB (closedP ps) fun c=>newK s (fun o g=>.own o g 0 len) (fun g=>.arr g es true c xs) K
    else bif Nat.beq len 0 then K (.ok .zc) s else need (closedP ps=true) (K (.ok (.sl true xs)) s))
 | .sidx x i=>match x.val env,i.val env with
   | .str bs,.int _ i=>need (0≤i) (nthK bs i.toNat fun b=>K (.ok (.int .u8 b.toNat)) s)
   |_,_=>False
 | .slice es x lo hi=>match x.val env with
   | .sl nn xs=>boundsK env xs.length lo hi fun l h=>need (AllSize es xs) (eqK (sub xs l (h-l)) fun ys=>K (.ok (.sl nn ys)) s)
   | .own o g off len=>match nth s.σ o with
     |some (.arr g' es' _ _ _)=>need (g=g'∧es=es') (boundsK env len lo hi fun l h=>offK off l fun j=>K (.ok (.own o g j (h-l))) s)
     |_=>False
   |_=>vRest (.slice es x lo hi) env s K
 | .sslice x lo hi=>match x.val env with
   | .str bs=>boundsK env bs.length lo hi fun l h=>eqK ((bs.drop l).take (h-l)) fun r=>K (.ok (.str r)) s
   |_=>False
 | .append es bytes a x=>elemsK es (x.val env) s fun ys c=>match a.val env with
   | .own o g 0 len=>match nth s.σ o with
     |some (.arr g' es' nn cl' elems)=>appendK g g' es es' len nn cl' c elems ys bytes fun n nn cl es'=>setK s.σ o (.arr s.ctr es nn cl es') fun σ=>K (.ok (.own o s.ctr 0 n)) ⟨σ,s.ctr+1⟩
     |_=>False
   |v=>getK (evAppend es bytes s v ys c) fun r=>done r.1 r.2 K
 | .mkslice es bytes z len cap=>match len.val env,cap.val env with
   | .int _ l,.int _ c=>need (0≤l∧l≤c∧roomy bytes c.toNat) (eqK (List.replicate l.toNat z) fun xs=>newK s (fun o g=>.own o g 0 l.toNat) (fun g=>.arr g es true z.closed xs) K)
   |_,_=>False
 | .ext x i=>match x.val env with
   | .tup cs=>getK (nth cs i) fun v=>done v s K
   |_=>False
 | .call m f args=>vCall AP m f (vals env args) s K
 | .callv m x args=>match x.val env with
   | .fn f caps=>vCall AP m f (vals env args++caps) s K
   |_=>False
 |o=>vRest o env s K
theorem noCall_le (C:CallF):CallLe noCall C:=fun _ _ _ _ h=>by cases h
theorem done_iff (v:AV) (s:Sto) (K:AOut→Sto→Prop):done v s K↔K (.ok v) s:=settle_iff v _
theorem vRest_sound {o:AOp} {env:Env} {s:Sto} {K:AOut→Sto→Prop} (h:vRest o env s K):Op1 AP o env s K:=by
 obtain⟨⟨out,s'⟩,h1,h2⟩:=h
 refine⟨0,out,s',evOp_mono (noCall_le _) h1,?_⟩
 cases out with
 |ok v=>exact(done_iff v s' K).1 h2
 |pan v=>exact h2
theorem vCall_sound {m:Mode} {f:Nat} {args:List AV} {s:Sto} {K:AOut→Sto→Prop} (h:vCall AP m f args s K):∃N out s',callMode (run AP N) m f args s=some (out,s')∧K out s':=by
 cases m with
 |pure=>
  obtain⟨hc,v,⟨N,hp⟩,hk⟩:=h
  exact⟨N,.ok v,s,by simp only[callMode,if_pos hc,hp,Option.map_some],(done_iff v s K).1 hk⟩
 |borrow=>
  obtain⟨args',ha,v,⟨N,hp⟩,hs,hk⟩:=snapLK_sound h
  exact⟨N,.ok v,s,by simp only[callMode,ha,hp,if_pos hs],(done_iff v s K).1 hk⟩
 |share=>
  obtain⟨N,out,s',hr,hk⟩:=h
  cases out with
  |ok r=>
   obtain⟨⟨r',s''⟩,h1,h2⟩:=hk
   exact⟨N,.ok r',s'',by simp only[callMode,hr,h1,Option.map_some],(done_iff r' s'' K).1 h2⟩
  |pan v=>
   obtain⟨h1,h2⟩:=hk
   exact⟨N,.pan v,_,by simp only[callMode,hr,if_pos h1],h2⟩
 |own=>
  obtain⟨N,r,s',h1,h2⟩:=h
  exact⟨N,.ok r,s',h1,(done_iff r s' K).1 h2⟩
 |keep=>
  obtain⟨N,out,s',hr,hk⟩:=h
  cases out with
  |ok r=>exact⟨N,.ok r,s',hr,(done_iff r s' K).1 hk⟩
  |pan v=>exact⟨N,.pan v,s',hr,hk⟩
theorem newK_iff {s:Sto} {mk:Nat→Nat→AV} {ob:Nat→Obj} {K:AOut→Sto→Prop}:newK s mk ob K↔K (.ok (mk s.σ.length s.ctr)) (push s (ob s.ctr)):=snocK_iff _ _ _
theorem vOp_sound {o:AOp} {env:Env} {s:Sto} {K:AOut→Sto→Prop} (h:vOp AP o env s K):Op1 AP o env s K:=by
 cases o
 case mov x=>exact⟨0,_,_,rfl,(done_iff _ _ _).1 h⟩
 case newown es=>simp only[vOp]at h;exact⟨0,_,_,rfl,newK_iff.1 h⟩
 case alloco off e2 es cs=>
  simp only[vOp]at h
  split at h
  case h_2=>cases h
  rename_i hoff
  obtain⟨he,h⟩:=h
  have h:=newK_iff.1 h
  have h:=newK_iff.1 h
  refine⟨0,_,_,?_,h⟩
  simp only[evOp,hoff,if_pos he]
  simp[push]
 case pick c a b=>
  simp only[vOp]at h
  split at h
  ·rename_i c' hc
   cases c'
   ·exact⟨0,_,_,by simp only[evOp,hc],(done_iff _ _ _).1 h⟩
   ·exact⟨0,_,_,by simp only[evOp,hc],(done_iff _ _ _).1 h⟩
  ·cases h
 case alloc es z=>simp only[vOp]at h;exact⟨0,_,_,rfl,newK_iff.1 h⟩
 case box es x=>
  simp only[vOp,force_eq]at h
  obtain⟨h1,h2⟩:=h
  exact⟨0,_,_,by simp only[evOp,if_pos h1],newK_iff.1 h2⟩
 case build z ps=>
  obtain⟨cs,h1,h2⟩:=h
  exact⟨0,_,_,by simp only[evOp,h1,Option.map_some],h2⟩
 case load sz a=>
  simp only[vOp]at h
  split at h
  ·rename_i cs hv
   obtain⟨v,h1,h2⟩:=h
   exact⟨0,_,_,by simp only[evOp,hv,ok,h1,Option.map_some],(done_iff _ _ _).1 h2⟩
  ·rename_i o g i off hv
   split at h
   ·rename_i g' es nn cl elems ho
    obtain⟨hg,x,hx,v,h1,h2⟩:=h
    exact⟨0,_,_,by simp only[evOp,hv,ho,if_pos hg,hx,ok,h1,Option.map_some],(done_iff _ _ _).1 h2⟩
   ·cases h
  ·cases h
 case store sz a x=>
  simp only[vOp]at h
  split at h
  ·rename_i o g i off hv
   split at h
   ·rename_i g' es nn cl elems ho
    obtain⟨hg,y,hy,h⟩:=h
    rw[force_eq]at h
    obtain⟨h1,h2⟩:=h
    rw[andK_iff]at h2
    obtain⟨es',rfl,h2⟩:=h2
    rw[setK_iff]at h2
    exact⟨0,_,_,by simp only[evOp,hv,ho,if_pos hg,hy,h1,if_true],h2⟩
   ·cases h
  ·cases h
 case nilchk x=>
  simp only[vOp]at h
  split at h
  ·rename_i hv;exact⟨0,_,_,by simp only[evOp,hv],h⟩
  ·rename_i hv;exact⟨0,_,_,by simp only[evOp,hv],h⟩
  ·rename_i hv;exact⟨0,_,_,by simp only[evOp,hv],h⟩
  ·cases h
 case bin op t x y=>
  obtain⟨v,h1,h2⟩:=vBin_sound h
  exact⟨0,_,_,by simp only[evOp,ok,h1,Option.map_some],h2⟩
 case un op x=>
  simp only[vOp]at h
  split at h
  ·rename_i b hv
   cases b
   ·exact⟨0,_,_,by simp only[evOp,hv,Bool.not_false],h⟩
   ·exact⟨0,_,_,by simp only[evOp,hv,Bool.not_true],h⟩
  ·rename_i k n hv
   obtain⟨y,h1,h2⟩:=h
   exact⟨0,_,_,by simp only[evOp,hv,h1],h2⟩
  ·cases h
 case conv k x=>
  simp only[vOp]at h
  split at h
  ·rename_i k' n hv
   obtain⟨y,h1,h2⟩:=h
   exact⟨0,_,_,by simp only[evOp,hv,h1],h2⟩
  ·cases h
 case field off sz x=>
  simp only[vOp]at h
  split at h
  ·rename_i cs hv
   obtain⟨v,h1,h2⟩:=h
   exact⟨0,_,_,by simp only[evOp,hv,ok,h1,Option.map_some],(done_iff _ _ _).1 h2⟩
  ·cases h
 case faddr off x=>
  simp only[vOp]at h
  split at h
  ·rename_i hv;exact⟨0,_,_,by simp only[evOp,hv],h⟩
  ·rename_i hv;exact⟨0,_,_,by simp only[evOp,hv],h⟩
  ·cases h
 case iaddr es x i=>
  simp only[vOp]at h
  split at h
  ·rename_i nn xs k n hx hi
   obtain⟨h0,v,h1,h2,h3⟩:=h
   exact⟨0,_,_,by simp only[evOp,hx,hi,if_pos h0,h1,if_pos h2],h3⟩
  ·rename_i o g off len k n hx hi
   split at h
   ·rename_i g' es' nn cl elems ho
    obtain⟨h1,h2⟩:=h
    rw[offK_iff]at h2
    exact⟨0,_,_,by simp only[evOp,hx,hi,ho,if_pos h1],h2⟩
   ·cases h
  ·cases h
 case len k x=>
  simp only[vOp]at h
  split at h
  ·rename_i hv
   obtain⟨n,rfl,h⟩:=h
   exact⟨0,_,_,by simp only[evOp,hv],h⟩
  ·rename_i hv;exact⟨0,_,_,by simp only[evOp,hv],h⟩
  ·rename_i hv;exact⟨0,_,_,by simp only[evOp,hv],h⟩
  ·rename_i o g hv
   split at h
   ·rename_i g' cl ents ho
    obtain⟨h1,h2⟩:=h
    exact⟨0,_,_,by simp only[evOp,hv,ho,if_pos h1],h2⟩
   ·cases h
  ·rename_i hv;exact⟨0,_,_,by simp only[evOp,hv],h⟩
  ·exact vRest_sound h
 case sidx x i=>
  simp only[vOp]at h
  split at h
  ·rename_i bs k n hx hi
   obtain⟨h1,b,h2,h3⟩:=h
   exact⟨0,_,_,by simp only[evOp,hx,hi,if_pos h1,h2],h3⟩
  ·cases h
 case slice es x lo hi=>
  simp only[vOp]at h
  split at h
  ·rename_i nn xs hx
   obtain⟨l,u,h1,h2,ys,rfl,h3⟩:=boundsK_sound h
   exact⟨0,_,_,by simp only[evOp,hx,h1,if_pos h2],h3⟩
  ·rename_i o g off len hx
   split at h
   ·rename_i g' es' nn cl elems ho
    obtain⟨hg,h⟩:=h
    obtain⟨l,u,h1,h2⟩:=boundsK_sound h
    rw[offK_iff]at h2
    exact⟨0,_,_,by simp only[evOp,hx,ho,if_pos hg,h1],h2⟩
   ·cases h
  ·exact vRest_sound h
 case sslice x lo hi=>
  simp only[vOp]at h
  split at h
  ·rename_i bs hx
   obtain⟨l,u,h1,r,rfl,h2⟩:=boundsK_sound h
   exact⟨0,_,_,by simp only[evOp,hx,h1],h2⟩
  ·cases h
 case mkmap=>simp only[vOp]at h;exact⟨0,_,_,rfl,newK_iff.1 h⟩
 case lookup t z okk m k=>
  simp only[vOp]at h
  split at h
  ·rename_i o g hv
   split at h
   ·rename_i g' cl ents ho
    obtain⟨h1,r,h2,h3⟩:=h
    cases r with
    |none=>
     cases okk
     ·exact⟨0,_,_,by simp only[evOp,hv,ho,if_pos h1,h2];rfl,(done_iff _ _ _).1 h3⟩
     ·exact⟨0,_,_,by simp only[evOp,hv,ho,if_pos h1,h2];rfl,h3⟩
    |some p=>
     cases okk
     ·exact⟨0,_,_,by simp only[evOp,hv,ho,if_pos h1,h2];rfl,(done_iff _ _ _).1 h3⟩
     ·exact⟨0,_,_,by simp only[evOp,hv,ho,if_pos h1,h2];rfl,h3⟩
   ·cases h
  ·rename_i ents hv
   obtain⟨h1,r,h2,h3⟩:=h
   cases r with
   |none=>
    cases okk
    ·exact⟨0,_,_,by simp only[evOp,hv,if_pos h1,h2];rfl,(done_iff _ _ _).1 h3⟩
    ·exact⟨0,_,_,by simp only[evOp,hv,if_pos h1,h2];rfl,h3⟩
   |some p=>
    cases okk
    ·exact⟨0,_,_,by simp only[evOp,hv,if_pos h1,h2];rfl,(done_iff _ _ _).1 h3⟩
    ·exact⟨0,_,_,by simp only[evOp,hv,if_pos h1,h2];rfl,h3⟩
  ·exact vRest_sound h
 case mapset t m k v=>
  simp only[vOp]at h
  split at h
  ·rename_i o g hv
   split at h
   ·rename_i g' cl ents ho
    rw[force_eq]at h
    obtain⟨h1,h2⟩:=h
    rw[andK_iff]at h2
    obtain⟨r,h2,h3⟩:=h2
    rw[setK_iff]at h3
    cases r with
    |none=>exact⟨0,_,_,by simp only[evOp,hv,ho,if_pos h1,h2];rfl,h3⟩
    |some p=>exact⟨0,_,_,by simp only[evOp,hv,ho,if_pos h1,h2];rfl,h3⟩
   ·cases h
  ·cases h
 case delete t m k=>
  simp only[vOp]at h
  split at h
  ·rename_i o g hv
   split at h
   ·rename_i g' cl ents ho
    obtain⟨h1,r,h2,h3⟩:=h
    cases r with
    |none=>exact⟨0,_,_,by simp only[evOp,hv,ho,if_pos h1,h2],h3⟩
    |some p=>
     simp only at h3
     rw[setK_iff]at h3
     exact⟨0,_,_,by simp only[evOp,hv,ho,if_pos h1,h2],h3⟩
   ·cases h
  ·cases h
 case lit own es z len parts=>
  simp only[vOp,vlitK_iff]at h
  obtain⟨h1,h2⟩:=h
  rw[litElemsK_iff]at h2
  cases own
  ·rw[cond_false]at h2
   cases hb:Nat.beq len 0
   ·rw[hb,cond_false]at h2
    have hne:len≠0:=fun e=>by subst e;simp at hb
    exact⟨0,_,_,by simp only[evOp,if_pos h1,if_neg hne,if_pos h2.1];rfl,h2.2⟩
   ·rw[hb,cond_true]at h2
    have he:len=0:=Nat.eq_of_beq_eq_true hb
    exact⟨0,_,_,by simp only[evOp,if_pos h1,if_pos he];rfl,h2⟩
  ·rw[cond_true,forceB_iff]at h2
   exact⟨0,_,_,by simp only[evOp,if_pos h1,if_true],newK_iff.1 h2⟩
 case append es bytes a x=>
  simp only[vOp]at h
  obtain⟨ys,cl,h1,h⟩:=elemsK_sound h
  split at h
  ·rename_i o g len hv
   split at h
   ·rename_i g' es' nn cl' elems ho
    obtain⟨h2,h3⟩:=h
    rw[setK_iff]at h3
    exact⟨0,_,_,by simp only[evOp,h1,hv,evAppend,ho,if_pos h2,Option.map_some],h3⟩
   ·cases h
  ·obtain⟨⟨v,s'⟩,h2,h3⟩:=h
   exact⟨0,_,_,by simp only[evOp,h1,h2,Option.map_some],(done_iff _ _ _).1 h3⟩
 case mkslice es bytes z len cap=>
  simp only[vOp]at h
  split at h
  ·rename_i k l k' c hl hc
   obtain⟨h1,xs,rfl,h2⟩:=h
   exact⟨0,_,_,by simp only[evOp,hl,hc,if_pos h1],newK_iff.1 h2⟩
  ·cases h
 case ext x i=>
  simp only[vOp]at h
  split at h
  ·rename_i cs hv
   obtain⟨v,h1,h2⟩:=h
   exact⟨0,_,_,by simp only[evOp,hv,ok,h1,Option.map_some],(done_iff _ _ _).1 h2⟩
  ·cases h
 case call m f args=>exact vCall_sound h
 case callv m x args=>
  simp only[vOp]at h
  split at h
  ·rename_i f caps hv
   obtain⟨N,out,s',h1,h2⟩:=vCall_sound h
   exact⟨N,out,s',by simp only[evOp,hv];exact h1,h2⟩
  ·cases h
 all_goals exact vRest_sound h
end AI
end Go.Proofs.YtgmgkkbpgndaaaaGreatDoor
namespace Go.Proofs.YtgmgkkbpgndaaaaGreatDoor
namespace AI
open Go.RowKit
variable {AP:Nat→Option AFn}
def vWanted (g:Option (Nat×Bool)) (env:Env) (t e:Prop):Prop:=match g with
 |none=>t
 |some (r,b)=>match env.get r with
  | .bool b'=>bcase (b'==b) t e
  | .undef=>e
  |_=>False
def vNext (k:Env→Sto→Prop) (d:Option Nat) (env:Env) (Q:AExit→Env→Sto→Prop) (out:AOut) (s:Sto):Prop:=match out with
 | .ok v=>k (put d v env) s
 | .pan v=>Q (.pan v) env s
def vOps (AP:Nat→Option AFn) (ops:List AOper):Env→Sto→(AExit→Env→Sto→Prop)→Prop:=
 List.rec (motive:=fun _=>Env→Sto→(AExit→Env→Sto→Prop)→Prop) (fun env s Q=>Q .normal env s)
    (fun o _ ih env s Q=>vWanted o.guard env (vOp AP o.op env s (vNext (fun env s=>ih env s Q) o.dst env Q)) (ih (put o.dst .undef env) s Q)) ops
theorem vOps_cons (o:AOper) (os:List AOper) (env:Env) (s:Sto) (Q:AExit→Env→Sto→Prop):vOps AP (o::os) env s Q=vWanted o.guard env
 (vOp AP o.op env s (vNext (fun env s=>vOps AP os env s Q) o.dst env Q))
 (vOps AP os (put o.dst .undef env) s Q):=rfl
theorem vOps_sound:∀{os:List AOper} {env:Env} {s:Sto} {Q:AExit→Env→Sto→Prop},vOps AP os env s Q→Ops AP os env s Q
 |[],env,s,Q,h=>⟨0,_,_,_,rfl,h⟩
 |o::os,env,s,Q,h=>by
  have hskip:wanted o.guard env=some false→vOps AP os (put o.dst .undef env) s Q→Ops AP (o::os) env s Q:=by
   intro hw h
   obtain⟨N,e,env',s',h1,h2⟩:=vOps_sound h
   exact⟨N,e,env',s',by simp only[evOps,hw];exact h1,h2⟩
  have hdo:wanted o.guard env=some true→vOp AP o.op env s (vNext (fun env s=>vOps AP os env s Q) o.dst env Q)→Ops AP (o::os) env s Q:=by
   intro hw h
   obtain⟨N,out,s1,h1,h2⟩:=vOp_sound h
   cases out with
   |ok v=>
    obtain⟨N',e,env',s',h3,h4⟩:=vOps_sound h2
    refine⟨max N N',e,env',s',?_,h4⟩
    simp only[evOps,hw,evOp_mono (le_call (Nat.le_max_left N N')) h1]
    exact evOps_mono (le_call (Nat.le_max_right N N')) h3
   |pan v=>exact⟨N,_,_,_,by simp only[evOps,hw,h1],h2⟩
  rw[vOps_cons]at h
  unfold vWanted at h
  split at h
  ·rename_i hg
   exact hdo (by rw[hg];rfl) h
  ·rename_i r b hg
   split at h
   ·rename_i b' hb
    cases hbb:(b'==b)
    ·rw[hbb]at h
     exact hskip (by rw[hg];simp only[wanted,hb,hbb]) h
    ·rw[hbb]at h
     exact hdo (by rw[hg];simp only[wanted,hb,hbb]) h
   ·rename_i hb
    exact hskip (by rw[hg];simp only[wanted,hb]) h
   ·cases h
def commitK:List Nat→Env→(Env→Prop)→Prop
 |[],_,K=>K []
 |t::ts,env,K=>(env.get t).force fun v=>commitK ts env fun e=>K ((t,v)::e)
theorem commitK_iff:∀(ts:List Nat) (env:Env) (K:Env→Prop),commitK ts env K↔K (commit env ts)
 |[],_,_=>Iff.rfl
 |t::ts,env,K=>by
  simp only[commitK,force_eq,commit]
  exact commitK_iff ts env _
def vFrz:List Nat→Env→Sto→(Env→Sto→Prop)→Prop
 |[],env,s,K=>K env s
 |t::ts,env,s,K=>match env.get t with
  | .own o g off len=>match nth s.σ o with
    |some (.arr g' _ nn cl elems)=>need (g=g'∧cl=true∧off+len≤elems.length) (eqK (sub elems off len) fun xs=>setK s.σ o .dead fun σ=>vFrz ts ((t,.sl nn xs)::env) ⟨σ,s.ctr⟩ K)
    |_=>False
  | .ref o g i off=>match nth s.σ o with
    |some (.arr g' _ nn cl elems)=>need (g=g'∧cl=true) (nthK elems i fun x=>setK s.σ o .dead fun σ=>vFrz ts ((t,.fref (x.cells.drop off))::env) ⟨σ,s.ctr⟩ K)
    |_=>False
  | .map o g=>match nth s.σ o with
    |some (.mp g' cl ents)=>need (g=g'∧cl=true∧keysC ents=true) (setK s.σ o .dead fun σ=>vFrz ts ((t,.fmap ents)::env) ⟨σ,s.ctr⟩ K)
    |_=>False
  | .sl nn xs=>vFrz ts ((t,.sl nn xs)::env) s K
  | .zc=>vFrz ts ((t,.zc)::env) s K
  |_=>False
theorem vFrz_sound:∀{ts:List Nat} {env:Env} {s:Sto} {K:Env→Sto→Prop},vFrz ts env s K→∃env' s',evFrz ts env s=some (env',s')∧K env' s'
 |[],env,s,K,h=>⟨env,s,rfl,h⟩
 |t::ts,env,s,K,h=>by
  simp only[vFrz]at h
  split at h
  ·rename_i o g off len hv
   split at h
   ·rename_i g' es nn cl elems ho
    obtain⟨⟨rfl,rfl,hf⟩,xs,rfl,h⟩:=h
    rw[setK_iff]at h
    obtain⟨env',s',h1,h2⟩:=vFrz_sound h
    exact⟨env',s',by simp only[evFrz,hv,ho,true_and,if_pos hf];exact h1,h2⟩
   ·cases h
  ·rename_i o g i off hv
   split at h
   ·rename_i g' es nn cl elems ho
    obtain⟨⟨rfl,rfl⟩,⟨x,hx,h⟩⟩:=h
    rw[setK_iff]at h
    obtain⟨env',s',h1,h2⟩:=vFrz_sound h
    exact⟨env',s',by simp only[evFrz,hv,ho,if_pos,hx];exact h1,h2⟩
   ·cases h
  ·rename_i o g hv
   split at h
   ·rename_i g' cl ents ho
    obtain⟨⟨rfl,rfl,hk⟩,h⟩:=h
    rw[setK_iff]at h
    obtain⟨env',s',h1,h2⟩:=vFrz_sound h
    exact⟨env',s',by simp only[evFrz,hv,ho,true_and,if_pos hk];exact h1,h2⟩
   ·cases h
  ·rename_i nn xs hv
   obtain⟨env',s',h1,h2⟩:=vFrz_sound h
   exact⟨env',s',by simp only[evFrz,hv];exact h1,h2⟩
  ·rename_i hv
   obtain⟨env',s',h1,h2⟩:=vFrz_sound h
   exact⟨env',s',by simp only[evFrz,hv];exact h1,h2⟩
  ·cases h
def takeK {α:Type}:Nat→List α→(List α→Prop)→Prop
 |0,_,K=>K []
 |_+1,[],K=>K []
 |n+1,x::xs,K=>takeK n xs fun ys=>K (x::ys)
theorem takeK_iff {α:Type}:∀(n:Nat) (l:List α) (K:List α→Prop),takeK n l K↔K (l.take n)
 |0,_,_=>by simp[takeK]
 |_+1,[],_=>by simp[takeK]
 |n+1,x::xs,K=>takeK_iff n xs fun ys=>K (x::ys)
def truncK (tr:Option Nat) (s:Sto) (K:Sto→Prop):Prop:=match tr with
 |none=>K s
 |some k=>takeK (kept k s.σ.length) s.σ fun σ=>K ⟨σ,s.ctr⟩
theorem truncK_iff (tr:Option Nat) (s:Sto) (K:Sto→Prop):truncK tr s K↔K (truncate tr s):=by
 cases tr with
 |none=>exact Iff.rfl
 |some k=>exact takeK_iff _ s.σ _
def vTail (live:List Nat) (tr:Option Nat) (Q:AExit→Env→Sto→Prop) (e:AExit) (env:Env) (s:Sto):Prop:=match e with
 | .normal=>commitK live env fun env=>truncK tr s fun s=>Q .normal env s
 |e=>Q e env s
def vSeq (k:Env→Sto→Prop) (Q:AExit→Env→Sto→Prop) (e:AExit) (env:Env) (s:Sto):Prop:=match e with
 | .normal=>k env s
 |e=>Q e env s
def vBlk (id:Nat) (Q:AExit→Env→Sto→Prop) (e:AExit) (env:Env) (s:Sto):Prop:=match e with
 | .exit j=>bcase (Nat.beq j id) (Q .normal env s) (Q (.exit j) env s)
 |e=>Q e env s
def vParOp (AP:Nat→Option AFn) (o:AOp) (r g:Nat) (env:Env) (s:Sto) (K:AV→Option (Nat×Obj)→Nat→Prop):Prop:=
 vOp AP o env s fun out s'=>match out with
    | .pan _=>False
    | .ok v=>match o.cls with
      |some .e=>K v none 0
      |some .r=>K v none 0
      |some .w=>match o.writes r env with
       |[t]=>match nth s'.σ t with
        |some ob=>K v (some (t,ob)) 0
        |none=>False
       |_=>False
      |some .a=>match nth s'.σ v.idx with
       |some ob=>bif Nat.blt v.idx s.σ.length then K (v.moved v.idx g) (some (v.idx,ob.regen g)) 1
        else match nth s.σ r with
           |some .dead=>K (v.moved r g) (some (r,ob.regen g)) 1
           |_=>False
       |none=>False
      |none=>False
theorem vParOp_sound {o:AOp} {r g:Nat} {env:Env} {s:Sto} {K:AV→Option (Nat×Obj)→Nat→Prop} (h:vParOp AP o r g env s K):∃N v u b,parOp (run AP N) o r g env s=some (v,u,b)∧K v u b:=by
 obtain⟨N,out,s',h1,h2⟩:=vOp_sound h
 cases out with
 |pan v=>cases h2
 |ok v=>
  simp only at h2
  split at h2
  ·rename_i hc;exact⟨N,_,_,_,by simp only[parOp,hc,h1],h2⟩
  ·rename_i hc;exact⟨N,_,_,_,by simp only[parOp,hc,h1],h2⟩
  ·rename_i hc
   split at h2
   ·rename_i t ht
    split at h2
    ·rename_i ob hob;exact⟨N,_,_,_,by simp only[parOp,hc,h1,ht,hob],h2⟩
    ·cases h2
   ·cases h2
  ·rename_i hc
   split at h2
   ·rename_i ob hob
    cases hb:Nat.blt v.idx s.σ.length
    ·rw[hb,cond_false]at h2
     have hlt:¬v.idx<s.σ.length:=fun hlt=>by
      have:=(show (Nat.blt v.idx s.σ.length=true) from Nat.blt_eq▸hlt)
      rw[hb]at this;cases this
     split at h2
     ·rename_i hd
      exact⟨N,_,_,_,by simp only[parOp,hc,h1,hob,if_neg hlt,hd],h2⟩
     ·cases h2
    ·rw[hb,cond_true]at h2
     exact⟨N,_,_,_,by simp only[parOp,hc,h1,hob,if_pos (show v.idx<s.σ.length from Nat.blt_eq▸hb)],h2⟩
   ·cases h2
  ·cases h2
def applyUK (u:Option (Nat×Obj)) (b:Nat) (s:Sto) (K:Sto→Prop):Prop:=match u with
 |some (t,ob)=>setK s.σ t ob fun σ=>K ⟨σ,s.ctr+b⟩
 |none=>K ⟨s.σ,s.ctr+b⟩
theorem applyUK_iff (u:Option (Nat×Obj)) (b:Nat) (s:Sto) (K:Sto→Prop):applyUK u b s K↔K (applyU u b s):=by
 unfold applyUK applyU
 split
 ·exact setK_iff _ _ _ _
 ·exact Iff.rfl
def vPar (AP:Nat→Option AFn) (ops:List AOper):Nat→Nat→Env→Sto→(List Eff→Prop)→Prop:=
 List.rec (motive:=fun _=>Nat→Nat→Env→Sto→(List Eff→Prop)→Prop) (fun _ _ _ _ K=>K [])
    (fun o _ ih r g env s K=>vWanted o.guard env
      (vParOp AP o.op r g env s fun v u b=>applyUK u b s fun s'=>ih (r+rank o.op) (g+1) (put o.dst v env) s' fun es=>K (⟨o.dst,v,o.op.reads r env,o.op.writes r env,u,b⟩::es))
      (ih (r+rank o.op) (g+1) (put o.dst .undef env) s fun es=>K (⟨o.dst,.undef,[],[],none,0⟩::es))) ops
theorem vPar_cons (o:AOper) (os:List AOper) (r g:Nat) (env:Env) (s:Sto) (K:List Eff→Prop):vPar AP (o::os) r g env s K=vWanted o.guard env
 (vParOp AP o.op r g env s fun v u b=>applyUK u b s fun s'=>vPar AP os (r+rank o.op) (g+1) (put o.dst v env) s' fun es=>K (⟨o.dst,v,o.op.reads r env,o.op.writes r env,u,b⟩::es))
 (vPar AP os (r+rank o.op) (g+1) (put o.dst .undef env) s fun es=>K (⟨o.dst,.undef,[],[],none,0⟩::es)):=rfl
theorem vPar_sound:∀{os:List AOper} {r g:Nat} {env:Env} {s:Sto} {K:List Eff→Prop},vPar AP os r g env s K→∃N es,evPar (run AP N) os r g env s=some es∧K es
 |[],r,g,env,s,K,h=>⟨0,_,rfl,h⟩
 |o::os,r,g,env,s,K,h=>by
  have hskip:wanted o.guard env=some false→(vPar AP os (r+rank o.op) (g+1) (put o.dst .undef env) s fun es=>K (⟨o.dst,.undef,[],[],none,0⟩::es))→∃N es,evPar (run AP N) (o::os) r g env s=some es∧K es:=by
   intro hw h
   obtain⟨N,es,h1,h2⟩:=vPar_sound h
   exact⟨N,_,by simp only[evPar,hw,h1],h2⟩
  have hdo:wanted o.guard env=some true→(vParOp AP o.op r g env s fun v u b=>applyUK u b s fun s'=>vPar AP os (r+rank o.op) (g+1) (put o.dst v env) s' fun es=>K (⟨o.dst,v,o.op.reads r env,o.op.writes r env,u,b⟩::es))→∃N es,evPar (run AP N) (o::os) r g env s=some es∧K es:=by
   intro hw h
   obtain⟨N,v,u,b,h1,h2⟩:=vParOp_sound h
   rw[applyUK_iff]at h2
   obtain⟨N',es,h3,h4⟩:=vPar_sound h2
   refine⟨max N N',_,?_,h4⟩
   simp only[evPar,hw,parOp_mono (le_call (Nat.le_max_left N N')) h1,evPar_mono (le_call (AP:=AP) (Nat.le_max_right N N')) h3]
  rw[vPar_cons]at h
  unfold vWanted at h
  split at h
  ·rename_i hg
   exact hdo (by rw[hg];rfl) h
  ·rename_i r' b hg
   split at h
   ·rename_i b' hb
    cases hbb:(b'==b)
    ·rw[hbb]at h
     exact hskip (by rw[hg];simp only[wanted,hb,hbb]) h
    ·rw[hbb]at h
     exact hdo (by rw[hg];simp only[wanted,hb,hbb]) h
   ·rename_i hb
    exact hskip (by rw[hg];simp only[wanted,hb]) h
   ·cases h
def appSK {α:Type}:List α→List α→(List α→Prop)→Prop
 |[],ys,K=>K ys
 |x::xs,ys,K=>appSK xs ys fun r=>K (x::r)
theorem appSK_iff {α:Type}:∀(xs ys:List α) (K:List α→Prop),appSK xs ys K↔K (xs++ys)
 |[],_,_=>Iff.rfl
 |x::xs,ys,K=>appSK_iff xs ys _
def effStoK:List Eff→Sto→(Sto→Prop)→Prop
 |[],s,K=>K s
 |e::es,s,K=>applyUK e.upd e.bump s fun s=>effStoK es s K
theorem effStoK_iff:∀(es:List Eff) (s:Sto) (K:Sto→Prop),effStoK es s K↔K (effSto es s)
 |[],_,_=>Iff.rfl
 |e::es,s,K=>by rw[effStoK,applyUK_iff,effSto];exact effStoK_iff es _ K
def padK (n:Nat) (σ:List Obj) (K:List Obj→Prop):Prop:=match n with
 |0=>K σ
 |n+1=>appSK σ (List.replicate (n+1) .dead) K
theorem padK_iff (n:Nat) (σ:List Obj) (K:List Obj→Prop):padK n σ K↔K (σ++List.replicate n .dead):=by
 cases n with
 |zero=>simp[padK]
 |succ n=>exact appSK_iff _ _ _
def dropK {α:Type}:Nat→List α→(List α→Prop)→Prop
 |0,xs,K=>K xs
 |_+1,[],K=>K []
 |n+1,_::xs,K=>dropK n xs K
theorem dropK_iff {α:Type}:∀(n:Nat) (l:List α) (K:List α→Prop),dropK n l K↔K (l.drop n)
 |0,_,_=>by simp[dropK]
 |_+1,[],_=>by simp[dropK]
 |n+1,_::xs,K=>dropK_iff n xs K
def vHead (AP:Nat→Option AFn) (m:Nat) (un:List (Nat×Nat)) (ops:List AOper) (env:Env) (s:Sto) (K:Env→Sto→Prop):Prop:=
 takeK m ops fun hd=>padK (ranks hd) s.σ fun σ=>vPar AP hd s.σ.length s.ctr env ⟨σ,s.ctr+m⟩ fun es=>
    need (allApart es un=true) (effStoK es ⟨σ,s.ctr+m⟩ fun s1=>K (effEnv es env) s1)
theorem vHead_sound {m:Nat} {un:List (Nat×Nat)} {ops:List AOper} {env:Env} {s:Sto} {K:Env→Sto→Prop} (h:vHead AP m un ops env s K):∃N env1 s1,evHead (run AP N) m un ops env s=some (env1,s1)∧K env1 s1:=by
 unfold vHead at h
 rw[takeK_iff,padK_iff]at h
 obtain⟨N,es,h1,h2,h3⟩:=vPar_sound h
 rw[effStoK_iff]at h3
 exact⟨N,_,_,by simp only[evHead,h1,if_pos h2],h3⟩
def pastK (AP:Nat→Option AFn) (op:AOp) (env:Env) (v:AV):List Sto→Prop→Prop
 |[],T=>T
 |S::r,T=>vOp AP op env S fun out _=>match out with
  | .ok u=>need (sameRef u v=true) (pastK AP op env v r T)
  | .pan _=>False
def pendK (AP:Nat→Option AFn) (S:Sto):List (AOp×Env×AV)→Prop→Prop
 |[],T=>T
 |(op,env,v)::r,T=>vOp AP op env S fun out _=>match out with
  | .ok u=>need (sameRef u v=true) (pendK AP S r T)
  | .pan _=>False
theorem pastK_sound {op:AOp} {env:Env} {v:AV}:∀{past:List Sto} {T:Prop},pastK AP op env v past T→(∃ N,pastOk (run AP N) op env v past=true)∧T
 |[],T,h=>⟨⟨0,rfl⟩,h⟩
 |S::r,T,h=>by
  obtain⟨N,out,s',h1,h2⟩:=vOp_sound h
  cases out with
  |pan u=>exact h2.elim
  |ok u=>
   obtain⟨h3,h4⟩:=h2
   obtain⟨⟨N',h5⟩,h6⟩:=pastK_sound h4
   refine⟨⟨max N N',?_⟩,h6⟩
   simp only[pastOk,evOp_mono (le_call (Nat.le_max_left N N')) h1,h3,pastOk_mono (le_call (Nat.le_max_right N N')) h5,Bool.and_self]
theorem pendK_sound {S:Sto}:∀{pend:List (AOp×Env×AV)} {T:Prop},pendK AP S pend T→(∃ N,pendOk (run AP N) S pend=true)∧T
 |[],T,h=>⟨⟨0,rfl⟩,h⟩
 |(op,env,v)::r,T,h=>by
  obtain⟨N,out,s',h1,h2⟩:=vOp_sound h
  cases out with
  |pan u=>exact h2.elim
  |ok u=>
   obtain⟨h3,h4⟩:=h2
   obtain⟨⟨N',h5⟩,h6⟩:=pendK_sound h4
   refine⟨⟨max N N',?_⟩,h6⟩
   simp only[pendOk,evOp_mono (le_call (Nat.le_max_left N N')) h1,h3,pendOk_mono (le_call (Nat.le_max_right N N')) h5,Bool.and_self]
def vEarly (AP:Nat→Option AFn) (E:List Nat) (ops:List AOper):Nat→Env→Sto→Prop→Prop:=
 List.rec (motive:=fun _=>Nat→Env→Sto→Prop→Prop) (fun _ _ _ T=>T)
    (fun o _ ih i env s T=>bif memN i E then vWanted o.guard env
      (vOp AP o.op env s fun out _=>match out with
        | .ok v=>bif flt o then ih (i+1) (put o.dst v env) s T else False
        | .pan _=>False)
      (ih (i+1) (put o.dst .undef env) s T)
      else ih (i+1) env s T) ops
theorem vEarly_cons (E:List Nat) (o:AOper) (os:List AOper) (i:Nat) (env:Env) (s:Sto) (T:Prop):vEarly AP E (o::os) i env s T=bif memN i E then vWanted o.guard env
        (vOp AP o.op env s fun out _=>match out with
          | .ok v=>bif flt o then vEarly AP E os (i+1) (put o.dst v env) s T else False
          | .pan _=>False)
        (vEarly AP E os (i+1) (put o.dst .undef env) s T)
 else vEarly AP E os (i+1) env s T:=rfl
theorem vEarly_sound {E:List Nat}:∀{os:List AOper} {i:Nat} {env:Env} {s:Sto} {T:Prop},vEarly AP E os i env s T→(∃ N,evEarly (run AP N) E os i env s=true)∧T
 |[],i,env,s,T,h=>⟨⟨0,rfl⟩,h⟩
 |o::os,i,env,s,T,h=>by
  rw[vEarly_cons]at h
  cases hm:memN i E with
  |false=>
   rw[hm,cond_false]at h
   obtain⟨⟨N,h1⟩,h2⟩:=vEarly_sound h
   exact⟨⟨N,by simp only[evEarly,hm,Bool.false_eq_true,if_false];exact h1⟩,h2⟩
  |true=>
   rw[hm,cond_true]at h
   have hskip:wanted o.guard env=some false→vEarly AP E os (i+1) (put o.dst .undef env) s T→(∃ N,evEarly (run AP N) E (o::os) i env s=true)∧T:=by
        intro hw h
        obtain⟨⟨N,h1⟩,h2⟩:=vEarly_sound h
        exact⟨⟨N,by simp only[evEarly,hm,if_true,hw];exact h1⟩,h2⟩
   have hdo:wanted o.guard env=some true→(vOp AP o.op env s fun out _=>match out with
    | .ok v=>bif flt o then vEarly AP E os (i+1) (put o.dst v env) s T else False
    | .pan _=>False)→(∃ N,evEarly (run AP N) E (o::os) i env s=true)∧T:=by
        intro hw h
        obtain⟨N,out,s1,h1,h2⟩:=vOp_sound h
        cases out with
        |pan v=>exact h2.elim
        |ok v=>
         dsimp only at h2
         cases hf:flt o with
         |false=>rw[hf]at h2;exact h2.elim
         |true=>
          rw[hf,cond_true]at h2
          obtain⟨⟨N',h3⟩,h4⟩:=vEarly_sound h2
          refine⟨⟨max N N',?_⟩,h4⟩
          simp only[evEarly,hm,if_true,hw,evOp_mono (le_call (AP:=AP) (Nat.le_max_left N N')) h1,hf,evEarly_mono (le_call (AP:=AP) (Nat.le_max_right N N')) h3,Bool.and_self]
   unfold vWanted at h
   split at h
   ·rename_i hg
    exact hdo (by rw[hg];rfl) h
   ·rename_i r b hg
    split at h
    ·rename_i b' hb
     cases hbb:(b'==b)
     ·rw[hbb]at h
      exact hskip (by rw[hg];simp only[wanted,hb,hbb]) h
     ·rw[hbb]at h
      exact hdo (by rw[hg];simp only[wanted,hb,hbb]) h
    ·rename_i hb
     exact hskip (by rw[hg];simp only[wanted,hb]) h
    ·cases h
def vMixN (AP:Nat→Option AFn) (m:Nat) (W pc:List Nat) (o:AOper) (os:List AOper) (i:Nat) (k:Env→Sto→List (AOp×Env×AV)→List Sto→Prop) (Q:AExit→Env→Sto→Prop) (env:Env) (s:Sto) (pend:List (AOp×Env×AV)) (past:List Sto) (out:AOut) (s1:Sto):Prop:=match out with
 | .pan v=>match pc with
   |p::E=>bif Nat.beq i p&&!(memN i W||(flt o||Nat.blt i m))then vEarly AP E os (i+1) env s (Q (.pan v) [] s1)else False
   |[]=>False
 | .ok v=>bif memN i W then bif o.op.pureOp then pastK AP o.op env v past (k (put o.dst v env) s ((o.op,env,v)::pend) past)else False
   else bif flt o||Nat.blt i m then k (put o.dst v env) s pend past
   else pendK AP s1 pend (k (put o.dst v env) s1 pend (s::past))
def vMix (AP:Nat→Option AFn) (m:Nat) (W pc:List Nat) (ops:List AOper):Nat→Env→Sto→List (AOp×Env×AV)→List Sto→(AExit→Env→Sto→Prop)→Prop:=
 List.rec (motive:=fun _=>Nat→Env→Sto→List (AOp×Env×AV)→List Sto→(AExit→Env→Sto→Prop)→Prop) (fun _ env s _ _ K=>K .normal env s)
    (fun o os ih i env s pend past K=>vWanted o.guard env (vOp AP o.op env s (vMixN AP m W pc o os i (fun env s pend past=>ih (i+1) env s pend past K) K env s pend past))
      (ih (i+1) (put o.dst .undef env) s pend past K)) ops
theorem vMix_cons (m:Nat) (W pc:List Nat) (o:AOper) (os:List AOper) (i:Nat) (env:Env) (s:Sto) (pend:List (AOp×Env×AV)) (past:List Sto) (K:AExit→Env→Sto→Prop):vMix AP m W pc (o::os) i env s pend past K=vWanted o.guard env
 (vOp AP o.op env s (vMixN AP m W pc o os i (fun env s pend past=>vMix AP m W pc os (i+1) env s pend past K) K env s pend past))
 (vMix AP m W pc os (i+1) (put o.dst .undef env) s pend past K):=rfl
theorem vMix_sound {m:Nat} {W pc:List Nat}:∀{os:List AOper} {i:Nat} {env:Env} {s:Sto} {pend:List (AOp×Env×AV)} {past:List Sto} {K:AExit→Env→Sto→Prop},vMix AP m W pc os i env s pend past K→∃N x env' s',evMix (run AP N) m W pc os i env s pend past=some (x,env',s')∧K x env' s'
 |[],i,env,s,pend,past,K,h=>⟨0,_,_,_,rfl,h⟩
 |o::os,i,env,s,pend,past,K,h=>by
  have hskip:wanted o.guard env=some false→vMix AP m W pc os (i+1) (put o.dst .undef env) s pend past K→∃N x env' s',evMix (run AP N) m W pc (o::os) i env s pend past=some (x,env',s')∧K x env' s':=by
   intro hw h
   obtain⟨N,x,env',s',h1,h2⟩:=vMix_sound h
   exact⟨N,x,env',s',by simp only[evMix,hw];exact h1,h2⟩
  have hdo:wanted o.guard env=some true→vOp AP o.op env s (vMixN AP m W pc o os i (fun env s pend past=>vMix AP m W pc os (i+1) env s pend past K) K env s pend past)→∃N x env' s',evMix (run AP N) m W pc (o::os) i env s pend past=some (x,env',s')∧K x env' s':=by
   intro hw h
   obtain⟨N,out,s1,h1,h2⟩:=vOp_sound h
   cases out with
   |pan v=>
    simp only[vMixN]at h2
    cases pc with
    |nil=>exact h2.elim
    |cons p E=>
     dsimp only at h2
     cases hc:(Nat.beq i p&&!(memN i W||(flt o||Nat.blt i m)))with
     |false=>rw[hc]at h2;exact h2.elim
     |true=>
      rw[hc,cond_true]at h2
      obtain⟨⟨N1,h3⟩,h4⟩:=vEarly_sound h2
      refine⟨max N N1,_,_,_,?_,h4⟩
      simp only[evMix,hw,evOp_mono (le_call (AP:=AP) (Nat.le_max_left N N1)) h1,hc,evEarly_mono (le_call (AP:=AP) (Nat.le_max_right N N1)) h3,Bool.and_self,if_true]
   |ok v=>
    simp only[vMixN]at h2
    cases hm:memN i W with
    |true=>
     rw[hm,cond_true]at h2
     cases hp:o.op.pureOp with
     |false=>rw[hp]at h2;exact h2.elim
     |true=>
      rw[hp,cond_true]at h2
      obtain⟨⟨N1,h3⟩,h4⟩:=pastK_sound h2
      obtain⟨N2,x,env',s',h5,h6⟩:=vMix_sound h4
      refine⟨max N (max N1 N2),x,env',s',?_,h6⟩
      simp only[evMix,hw,evOp_mono (le_call (AP:=AP) (Nat.le_max_left N (max N1 N2))) h1,hm,hp,pastOk_mono (le_call (AP:=AP) (show N1≤max N (max N1 N2) by omega)) h3,Bool.and_self,if_true]
      exact evMix_mono (le_call (show N2≤max N (max N1 N2) by omega)) h5
    |false=>
     rw[hm,cond_false]at h2
     cases hf:(flt o||Nat.blt i m)with
     |true=>
      rw[hf,cond_true]at h2
      obtain⟨N2,x,env',s',h5,h6⟩:=vMix_sound h2
      refine⟨max N N2,x,env',s',?_,h6⟩
      simp only[evMix,hw,evOp_mono (le_call (AP:=AP) (Nat.le_max_left N N2)) h1,hm,hf,if_true,Bool.false_eq_true,if_false]
      exact evMix_mono (le_call (Nat.le_max_right N N2)) h5
     |false=>
      rw[hf,cond_false]at h2
      obtain⟨⟨N1,h3⟩,h4⟩:=pendK_sound h2
      obtain⟨N2,x,env',s',h5,h6⟩:=vMix_sound h4
      refine⟨max N (max N1 N2),x,env',s',?_,h6⟩
      simp only[evMix,hw,evOp_mono (le_call (AP:=AP) (Nat.le_max_left N (max N1 N2))) h1,hm,hf,pendOk_mono (le_call (AP:=AP) (show N1≤max N (max N1 N2) by omega)) h3,if_true,Bool.false_eq_true,if_false]
      exact evMix_mono (le_call (show N2≤max N (max N1 N2) by omega)) h5
  rw[vMix_cons]at h
  unfold vWanted at h
  split at h
  ·rename_i hg
   exact hdo (by rw[hg];rfl) h
  ·rename_i r b hg
   split at h
   ·rename_i b' hb
    cases hbb:(b'==b)
    ·rw[hbb]at h
     exact hskip (by rw[hg];simp only[wanted,hb,hbb]) h
    ·rw[hbb]at h
     exact hdo (by rw[hg];simp only[wanted,hb,hbb]) h
   ·rename_i hb
    exact hskip (by rw[hg];simp only[wanted,hb]) h
   ·cases h
def condK (v:AV) (A B:Prop):Prop:=match v with
 | .bool c=>bcase c A B
 |_=>False
def vC (AP:Nat→Option AFn) (c:ACode):Env→Sto→(AExit→Env→Sto→Prop)→Prop:=
 ACode.rec (motive:=fun _=>Env→Sto→(AExit→Env→Sto→Prop)→Prop)
    (fun env s Q=>Q .normal env s)
    (fun _ frz ops live tr env s Q=>vFrz frz env s fun env s=>vOps AP ops env s (vTail live tr Q))
    (fun m un frz ops live tr env s Q=>vFrz frz env s fun env s=>vHead AP m un ops env s fun env1 s1=>dropK m ops fun tl=>vOps AP tl env1 s1 (vTail live tr Q))
    (fun m W pc frz ops live tr env s Q=>vFrz frz env s fun env s=>vMix AP m W pc ops 0 env s [] [] (vTail live tr Q))
    (fun _ _ iha ihb env s Q=>iha env s (vSeq (fun env s=>ihb env s Q) Q))
    (fun c _ _ iha ihb env s Q=>condK (c.val env) (iha env s Q) (ihb env s Q))
    (fun id _ iha env s Q=>iha env s (vBlk id Q))
    (fun live a _ env s Q=>commitK live env fun env=>Run AP (.loop live a) env s Q)
    (fun id env s Q=>Q (.exit id) env s)
    (fun env s Q=>Q .ret env s) c
theorem commit_mem {env:Env} {t:Nat}:∀{ts:List Nat},t∈ts→(commit env ts).get t=env.get t
 |[],h=>by simp at h
 |t'::ts,h=>by
  simp only[commit,Env.get]
  cases hb:Nat.beq t' t
  ·have hne:t≠t':=fun e=>by subst e;simp at hb
   rw[cond_false]
   exact commit_mem ((List.mem_cons.1 h).resolve_left hne)
  ·rw[cond_true,Nat.eq_of_beq_eq_true hb]
theorem commit_congr {env env':Env}:∀{ts:List Nat},(∀ t∈ts,env.get t=env'.get t)→commit env ts=commit env' ts
 |[],_=>rfl
 |t::ts,h=>by simp only[commit];rw[h t (by simp),commit_congr fun t' h'=>h t' (by simp[h'])]
theorem commit_commit (env:Env) (ts:List Nat):commit (commit env ts) ts=commit env ts:=commit_congr fun _ h=>commit_mem h
theorem loop_commit {live:List Nat} {a:ACode} {env:Env} {s:Sto} {Q:AExit→Env→Sto→Prop} (h:Run AP (.loop live a) (commit env live) s Q):Run AP (.loop live a) env s Q:=by
 obtain⟨N,e,env',s',h1,h2⟩:=h
 refine⟨N,e,env',s',?_,h2⟩
 simp only[evC]at h1 ⊢
 cases N with
 |zero=>simp[iter]at h1
 |succ N=>
  simp only[iter,commit_commit]at h1 ⊢
  exact h1
theorem vC_sound:∀{c:ACode} {env:Env} {s:Sto} {Q:AExit→Env→Sto→Prop},vC AP c env s Q→Run AP c env s Q:=by
 intro c
 induction c with
 |skip=>intro env s Q h;exact⟨0,_,_,_,rfl,h⟩
 |exit id=>intro env s Q h;exact⟨0,_,_,_,rfl,h⟩
 |ret=>intro env s Q h;exact⟨0,_,_,_,rfl,h⟩
 |region hd frz ops live tr=>
  intro env s Q h
  obtain⟨env1,s1,h1,h2⟩:=vFrz_sound h
  obtain⟨N,e,env2,s2,h3,h4⟩:=vOps_sound h2
  cases e with
  |normal=>exact⟨N,_,_,_,by simp only[evC,h1,h3],(truncK_iff _ _ _).1 ((commitK_iff _ _ _).1 h4)⟩
  |exit id=>exact⟨N,_,_,_,by simp only[evC,h1,h3],h4⟩
  |ret=>exact⟨N,_,_,_,by simp only[evC,h1,h3],h4⟩
  |pan v=>exact⟨N,_,_,_,by simp only[evC,h1,h3],h4⟩
 |mix m W pc frz ops live tr=>
  intro env s Q h
  obtain⟨env1,s1,h1,h2⟩:=vFrz_sound h
  obtain⟨N,e,env2,s2,h3,h4⟩:=vMix_sound h2
  cases e with
  |normal=>exact⟨N,_,_,_,by simp only[evC,h1,h3],(truncK_iff _ _ _).1 ((commitK_iff _ _ _).1 h4)⟩
  |exit id=>exact⟨N,_,_,_,by simp only[evC,h1,h3],h4⟩
  |ret=>exact⟨N,_,_,_,by simp only[evC,h1,h3],h4⟩
  |pan v=>exact⟨N,_,_,_,by simp only[evC,h1,h3],h4⟩
 |par m un frz ops live tr=>
  intro env s Q h
  obtain⟨env1,s1,h1,h2⟩:=vFrz_sound h
  obtain⟨N',env1',s1',hh,h2⟩:=vHead_sound h2
  rw[dropK_iff]at h2
  obtain⟨N,e,env2,s2,h3,h4⟩:=vOps_sound h2
  have hh':evHead (run AP (max N N')) m un ops env1 s1=some (env1',s1'):=by
   unfold evHead at hh ⊢
   split at hh
   ·rename_i es hes
    rw[evPar_mono (le_call (Nat.le_max_right N N')) hes]
    exact hh
   ·cases hh
  have h3':=evOps_mono (le_call (AP:=AP) (Nat.le_max_left N N')) h3
  cases e with
  |normal=>exact⟨max N N',_,_,_,by simp only[evC,h1,hh',h3'],(truncK_iff _ _ _).1 ((commitK_iff _ _ _).1 h4)⟩
  |exit id=>exact⟨max N N',_,_,_,by simp only[evC,h1,hh',h3'],h4⟩
  |ret=>exact⟨max N N',_,_,_,by simp only[evC,h1,hh',h3'],h4⟩
  |pan v=>exact⟨max N N',_,_,_,by simp only[evC,h1,hh',h3'],h4⟩
 |seq a b iha ihb=>
  intro env s Q h
  obtain⟨N,e,env1,s1,h1,h2⟩:=iha h
  cases e with
  |normal=>
   obtain⟨N',e',env2,s2,h3,h4⟩:=ihb h2
   have h1':=evC_mono (le_call (AP:=AP) (Nat.le_max_left N N')) (Nat.le_max_left N N') h1
   have h3':=evC_mono (le_call (AP:=AP) (Nat.le_max_right N N')) (Nat.le_max_right N N') h3
   exact⟨max N N',e',env2,s2,by simp only[evC,h1',h3'],h4⟩
  |exit id=>exact⟨N,_,_,_,by simp only[evC,h1],h2⟩
  |ret=>exact⟨N,_,_,_,by simp only[evC,h1],h2⟩
  |pan v=>exact⟨N,_,_,_,by simp only[evC,h1],h2⟩
 |cond c a b iha ihb=>
  intro env s Q h
  change condK (c.val env) (vC AP a env s Q) (vC AP b env s Q)at h
  unfold condK at h
  split at h
  ·rename_i c' hc
   cases c'
   ·obtain⟨N,e,env1,s1,h1,h2⟩:=ihb h
    exact⟨N,e,env1,s1,by simp only[evC,hc,h1],h2⟩
   ·obtain⟨N,e,env1,s1,h1,h2⟩:=iha h
    exact⟨N,e,env1,s1,by simp only[evC,hc,h1],h2⟩
  ·cases h
 |block id a iha=>
  intro env s Q h
  obtain⟨N,e,env1,s1,h1,h2⟩:=iha h
  cases e with
  |normal=>exact⟨N,_,_,_,by simp only[evC,h1],h2⟩
  |exit j=>
   simp only[vBlk]at h2
   cases hb:Nat.beq j id
   ·rw[hb]at h2
    have hne:j≠id:=fun e=>by subst e;simp at hb
    exact⟨N,_,_,_,by simp only[evC,h1,if_neg hne],h2⟩
   ·rw[hb]at h2
    exact⟨N,_,_,_,by simp only[evC,h1,if_pos (Nat.eq_of_beq_eq_true hb)],h2⟩
  |ret=>exact⟨N,_,_,_,by simp only[evC,h1],h2⟩
  |pan v=>exact⟨N,_,_,_,by simp only[evC,h1],h2⟩
 |loop live a iha=>
  intro env s Q h
  exact loop_commit ((commitK_iff _ _ _).1 h)
def vRound (AP:Nat→Option AFn) (live:List Nat) (a:ACode) (Q:AExit→Env→Sto→Prop) (e:AExit) (env:Env) (s:Sto):Prop:=match e with
 | .normal=>commitK live env fun env=>Run AP (.loop live a) env s Q
 |e=>Q e env s
theorem loop_step {live:List Nat} {a:ACode} {env:Env} {s:Sto} {Q:AExit→Env→Sto→Prop} (h:vC AP a env s (vRound AP live a Q)) (hc:commit env live=env):Run AP (.loop live a) env s Q:=by
 obtain⟨N,e,env1,s1,h1,h2⟩:=vC_sound h
 cases e with
 |normal=>
  obtain⟨N',e',env2,s2,h3,h4⟩:=loop_commit ((commitK_iff _ _ _).1 h2)
  refine⟨max N N'+1,e',env2,s2,?_,h4⟩
  have h1':=evC_mono (le_call (AP:=AP) (show N≤max N N'+1 by omega)) (show N≤max N N'+1 by omega) h1
  simp only[evC]at h3 ⊢
  rw[iter.eq_2]
  rw[hc,h1']
  exact iter_mono (fun env s r hr=>evC_mono (le_call (by omega)) (by omega) hr) (by omega) h3
 |exit id=>exact⟨N+1,_,_,_,by simp only[evC,iter.eq_2,hc,evC_mono (le_call (AP:=AP) (Nat.le_succ N)) (Nat.le_succ N) h1],h2⟩
 |ret=>exact⟨N+1,_,_,_,by simp only[evC,iter.eq_2,hc,evC_mono (le_call (AP:=AP) (Nat.le_succ N)) (Nat.le_succ N) h1],h2⟩
 |pan v=>exact⟨N+1,_,_,_,by simp only[evC,iter.eq_2,hc,evC_mono (le_call (AP:=AP) (Nat.le_succ N)) (Nat.le_succ N) h1],h2⟩
def vRes (fn:AFunc) (K:AOut→Sto→Prop) (e:AExit) (env:Env) (s:Sto):Prop:=match e with
 | .normal=>getK (evRess env s fn.results) fun vs=>K (.ok (tupOf vs)) s
 | .ret=>getK (evRess env s fn.results) fun vs=>K (.ok (tupOf vs)) s
 | .pan v=>K (.pan v) s
 | .exit _=>False
theorem calls_of {f:Nat} {fn:AFunc} {args:List AV} {s:Sto} {K:AOut→Sto→Prop} (hf:AP f=some (.code fn)) (hl:args.length=fn.np) (h:Run AP fn.body (params args 0) s (vRes fn K)):Calls1 AP f args s K:=by
 obtain⟨N,e,env,s',h1,h2⟩:=h
 cases e with
 |normal=>
  obtain⟨vs,h3,h4⟩:=h2
  exact⟨N+1,_,_,by simp only[run,hf,if_pos hl,evF,h1,h3,Option.map_some],h4⟩
 |ret=>
  obtain⟨vs,h3,h4⟩:=h2
  exact⟨N+1,_,_,by simp only[run,hf,if_pos hl,evF,h1,h3,Option.map_some],h4⟩
 |pan v=>exact⟨N+1,_,_,by simp only[run,hf,if_pos hl,evF,h1],h2⟩
 |exit id=>cases h2
def vPure (v:AV) (out:AOut) (s:Sto):Prop:=match out with
 | .ok r=>snap s.σ snapDepth r=some v
 | .pan _=>False
theorem pure_of {f:Nat} {fn:AFunc} {args:List AV} {v:AV} (hf:AP f=some (.code fn)) (hl:args.length=fn.np) (h:Run AP fn.body (params args 0) ⟨[],0⟩ (vRes fn (vPure v))):Pure AP f args v:=by
 obtain⟨N,out,s',h1,h2⟩:=calls_of hf hl h
 cases out with
 |ok r=>exact⟨N,by simp only[pureCall,h1];exact h2⟩
 |pan r=>cases h2
end AI
end Go.Proofs.YtgmgkkbpgndaaaaGreatDoor
namespace Go.Proofs.YtgmgkkbpgndaaaaGreatDoor
namespace AI
open Go.RowKit
variable {AP:Nat→Option AFn}
def vInv (live:List Nat) (I:Env→Sto→Prop) (Q:AExit→Env→Sto→Prop) (e:AExit) (env:Env) (s:Sto):Prop:=match e with
 | .normal=>commitK live env fun env=>I env s
 |e=>Q e env s
structure again (I:Nat→Env→Sto→Prop) (m:Nat) (env:Env) (s:Sto):Prop where
 mk::(h:∃m',m'<m∧I m' env s)
theorem loop_inv {live:List Nat} {a:ACode} {Q:AExit→Env→Sto→Prop} (I:Nat→Env→Sto→Prop)
 (hI:∀m env s,I m env s→commit env live=env∧vC AP a env s (vInv live (again I m) Q)):
 ∀m env s,I m env s→Run AP (.loop live a) env s Q:=by
 intro m
 induction m using Nat.strongRecOn with
 |ind m ih=>
  intro env s h
  obtain⟨hc,h1⟩:=hI m env s h
  obtain⟨N,e,env1,s1,h2,h3⟩:=vC_sound h1
  have hr:Run AP a env s (vRound AP live a Q):=by
   refine⟨N,e,env1,s1,h2,?_⟩
   cases e with
   |normal=>
    simp only[vInv,vRound,commitK_iff]at h3 ⊢
    obtain⟨m',hm,h4⟩:=h3
    exact ih m' hm _ _ h4
   |exit id=>exact h3
   |ret=>exact h3
   |pan v=>exact h3
  obtain⟨N,e,env1,s1,h1,h2⟩:=hr
  cases e with
  |normal=>
   obtain⟨N',e',env2,s2,h3,h4⟩:=loop_commit ((commitK_iff _ _ _).1 h2)
   refine⟨max N N'+1,e',env2,s2,?_,h4⟩
   have h1':=evC_mono (le_call (AP:=AP) (show N≤max N N'+1 by omega)) (show N≤max N N'+1 by omega) h1
   simp only[evC]at h3 ⊢
   rw[iter.eq_2]
   rw[hc,h1']
   exact iter_mono (fun env s r hr=>evC_mono (le_call (by omega)) (by omega) hr) (by omega) h3
  |exit id=>exact⟨N+1,_,_,_,by simp only[evC,iter.eq_2,hc,evC_mono (le_call (AP:=AP) (Nat.le_succ N)) (Nat.le_succ N) h1],h2⟩
  |ret=>exact⟨N+1,_,_,_,by simp only[evC,iter.eq_2,hc,evC_mono (le_call (AP:=AP) (Nat.le_succ N)) (Nat.le_succ N) h1],h2⟩
  |pan v=>exact⟨N+1,_,_,_,by simp only[evC,iter.eq_2,hc,evC_mono (le_call (AP:=AP) (Nat.le_succ N)) (Nat.le_succ N) h1],h2⟩
structure PureP (AP:Nat→Option AFn) (f:Nat) (args:List AV) (R:AV→Prop):Prop where
 mk::(h:∃v,Pure AP f args v∧R v)
def vPureP (R:AV→Prop) (out:AOut) (s:Sto):Prop:=match out with
 | .ok r=>snapK s.σ snapDepth r R
 | .pan _=>False
theorem pureP_of {f:Nat} {fn:AFunc} {args:List AV} {R:AV→Prop} (hf:AP f=some (.code fn)) (hl:args.length=fn.np) (h:vC AP fn.body (params args 0) ⟨[],0⟩ (vRes fn (vPureP R))):PureP AP f args R:=by
 obtain⟨N,out,s',h1,h2⟩:=calls_of hf hl (vC_sound h)
 cases out with
 |ok r=>
  have h2:snapK s'.σ snapDepth r R:=h2
  obtain⟨v,h3,h4⟩:=snapK_sound h2
  exact⟨v,⟨N,by simp only[pureCall,h1];exact h3⟩,h4⟩
 |pan r=>cases h2
theorem callK_of {f:Nat} {args:List AV} {R:AV→Prop} {K:AV→Prop} (h:PureP AP f args R) (h2:∀v,R v→K v):callK AP f args K:=by
 obtain⟨v,h3,h4⟩:=h
 exact⟨v,h3,h2 v h4⟩
theorem callB {f:Nat} {args:List AV} {p:Prop} [Decidable p] {K:AV→Prop} (h:PureP AP f args (· =.bool (decide p))) (h1:p→K (.bool true)) (h2:¬p→K (.bool false)):callK AP f args K:=by
 refine callK_of h ?_
 rintro _ rfl
 by_cases hp:p
 ·rw[decide_eq_true hp];exact h1 hp
 ·rw[decide_eq_false hp];exact h2 hp
theorem Calls1.mono {f:Nat} {args:List AV} {s:Sto} {K K':AOut→Sto→Prop} (h:Calls1 AP f args s K) (hk:∀out s,K out s→K' out s):Calls1 AP f args s K':=by
 obtain⟨N,out,s',h1,h2⟩:=h
 exact⟨N,out,s',h1,hk _ _ h2⟩
theorem bool_eq {p q:Prop} [Decidable p] [Decidable q] (h:p↔q):AV.bool (decide p)=AV.bool (decide q):=by rw[decide_eq_decide.2 h]
theorem bool_t {p:Prop} [Decidable p] (h:p):AV.bool true=AV.bool (decide p):=by rw[decide_eq_true h]
theorem bool_f {p:Prop} [Decidable p] (h:¬p):AV.bool false=AV.bool (decide p):=by rw[decide_eq_false h]
theorem PureP.mono {f:Nat} {args:List AV} {R R':AV→Prop} (h:PureP AP f args R) (h2:∀v,R v→R' v):PureP AP f args R':=by
 obtain⟨v,h3,h4⟩:=h
 exact⟨v,h3,h2 v h4⟩
theorem calls1_of {f:Nat} {fn:AFunc} {args:List AV} {s:Sto} {K:AOut→Sto→Prop} (hf:AP f=some (.code fn)) (hl:args.length=fn.np) (h:vC AP fn.body (params args 0) s (vRes fn K)):Calls1 AP f args s K:=
 calls_of hf hl (vC_sound h)
end AI
end Go.Proofs.YtgmgkkbpgndaaaaGreatDoor
namespace Go.Proofs.YtgmgkkbpgndaaaaGreatDoor
namespace AI
def ints (l:List Int):List AV:=l.map (.int .i64)
abbrev isl (nn:Bool) (l:List Int):AV:=.sl nn (ints l)
@[simp] theorem lI (l:List Int):(ints l).length=l.length:=by simp[ints]
theorem nth_ints {l:List Int} {i:Nat} {x:Int} (h:l[i]?=some x):nth (ints l) i=some (.int .i64 x):=by simp[ints,nth_eq,h]
theorem nI {l:List Int} {i:Nat} (h:i<l.length):nth (ints l) i=some (.int .i64 l[i]):=nth_ints (List.getElem?_eq_getElem h)
theorem wrap_i64 {z:Int} (h:-2^63≤z) (h2:z<2^63):IntKind.i64.wrap z=z:=by
 rw[IntKind.wrap_i64];omega
theorem nIN {l:List Int} {i:Nat} (h:i<l.length):nth (ints l) (Int.toNat (Nat.cast i))=some (.int .i64 l[i]):=nI h
theorem allSize_one {es:Nat} {x:AV} (h:x.cells.length=es):AllSize es [x]:=by intro y hy;simp at hy;exact hy▸h
theorem allSize_ints (l:List Int):AllSize 1 (ints l):=by
 intro y hy
 simp only[ints,List.mem_map]at hy
 obtain⟨z,_,rfl⟩:=hy
 rfl
theorem roomy_of {b n:Nat} (h:n*b≤2 ^ 46):roomy b n:=Nat.le_trans h (by decide)
theorem snoc_ints {l:List Int} {x:Int}:(ints l).take l.length++[.int .i64 x]=ints (l++[x]):=by
 rw[List.take_of_length_le (by simp)];simp[ints]
def iss (E:List (Bool×List Int)):List AV:=E.map fun p=>.sl p.1 (ints p.2)
@[simp] theorem lS (E:List (Bool×List Int)):(iss E).length=E.length:=by simp[iss]
theorem nS {E:List (Bool×List Int)} {i:Nat} (h:i<E.length):nth (iss E) i=some (.sl E[i].1 (ints E[i].2)):=by simp[iss,nth_eq,h]
theorem nSN {E:List (Bool×List Int)} {i:Nat} (h:i<E.length):nth (iss E) (Int.toNat (Nat.cast i))=some (.sl E[i].1 (ints E[i].2)):=nS h
theorem take_mem_iff {x:Int} {l:List Int} {i:Nat} (h:i<l.length):x∈l.take (i+1)↔x∈l.take i∨x=l[i]:=by
 rw[List.take_succ_eq_append_getElem h];simp only[List.mem_append,List.mem_singleton]
theorem not_mem_take_succ {x:Int} {l:List Int} {i:Nat} (h:i<l.length) (h1:x∉l.take i) (h2:¬l[i]=x):x∉l.take (i+1):=by
 rw[take_mem_iff h];rintro(h|h);exact h1 h;exact h2 h.symm
theorem take_all {α:Type} {l:List α} {i:Nat} (h:¬(i:Int)<(l.length:Int)):l.take i=l:=List.take_of_length_le (by omega)
theorem take_eq_succ {α:Type} {a b:List α} {i:Nat} (ha:i<a.length) (hb:i<b.length) (h:a.take i=b.take i) (h2:a[i]=b[i]):a.take (i+1)=b.take (i+1):=by
 rw[List.take_succ_eq_append_getElem ha,List.take_succ_eq_append_getElem hb,h,h2]
theorem eq_of_take {α:Type} {a b:List α} {i:Nat} (hl:(a.length:Int)=(b.length:Int)) (hi:¬(i:Int)<(a.length:Int)) (h:a.take i=b.take i):a=b:=by
 rwa [List.take_of_length_le (by omega),List.take_of_length_le (by omega)]at h
theorem ne_of_get {α:Type} {a b:List α} {i:Nat} {ha:i<a.length} {hb:i<b.length} (h:a[i]≠b[i]):a≠b:=by rintro rfl;exact h rfl
theorem all_take_succ {α:Type} {p:α→Prop} {l:List α} {i:Nat} (h:i<l.length) (h1:∀x∈l.take i,p x) (h2:p l[i]):∀x∈l.take (i+1),p x:=by
 intro x hx
 rw[List.take_succ_eq_append_getElem h,List.mem_append,List.mem_singleton]at hx
 rcases hx with hx|rfl
 ·exact h1 x hx
 ·exact h2
theorem tIN {l:List Int} {i:Nat} {x y:Int}:(ints l).set (Int.toNat (Nat.cast i)) (writeCells (.int .i64 x) 0 (.int .i64 y))=ints (l.set i y):=by
 simp[ints,writeCells,AV.cells,List.map_set]
theorem tI {l:List Int} {i:Nat} {x y:Int}:(ints l).set i (writeCells (.int .i64 x) 0 (.int .i64 y))=ints (l.set i y):=tIN
theorem uI {l:List Int}:sub (ints l) 0 l.length=ints l:=by
 unfold sub;rw[List.drop_zero,List.take_of_length_le (by simp)]
theorem uS {l:List (Bool×List Int)}:sub (iss l) 0 l.length=iss l:=by
 unfold sub;rw[List.drop_zero,List.take_of_length_le (by simp)]
theorem uIS {l:List Int} {x:Int}:sub (ints (l++[x])) 0 (l.length+1)=ints (l++[x]):=by
 have:=uI (l:=l++[x]);rwa [List.length_append]at this
theorem uSS {l:List (Bool×List Int)} {x:Bool×List Int}:sub (iss (l++[x])) 0 (l.length+1)=iss (l++[x]):=by
 have:=uS (l:=l++[x]);rwa [List.length_append]at this
theorem snoc_iss {l:List (Bool×List Int)} {b:Bool} {x:List Int}:(iss l).take l.length++[.sl b (ints x)]=iss (l++[(b,x)]):=by
 rw[List.take_of_length_le (by simp)];simp[iss]
theorem snoc_nil (x:Int):([]:List AV).take 0++[.int .i64 x]=ints [x]:=rfl
theorem apI {g len:Nat} {nn cl:Bool} {l:List Int} {x:Int} {bytes:Nat} {K:Nat→Bool→Bool→List AV→Prop} (hl:len=l.length) (hr:(l.length+1)*bytes≤2 ^ 46) (h:K (l.length+1) true cl (ints (l++[x]))):
 appendK g g 1 1 len nn cl true (ints l) [.int .i64 x] bytes K:=by
 subst hl
 refine⟨⟨rfl,rfl,by simp,allSize_one rfl,(roomy_of hr)⟩,?_⟩
 rw[snoc_ints,Bool.and_true]
 simpa using h
theorem apS {g len:Nat} {nn cl:Bool} {l:List (Bool×List Int)} {b:Bool} {x:List Int} {bytes:Nat} {K:Nat→Bool→Bool→List AV→Prop} (hl:len=l.length) (hr:(l.length+1)*bytes≤2 ^ 46) (h:K (l.length+1) true cl (iss (l++[(b,x)]))):
 appendK g g 1 1 len nn cl true (iss l) [.sl b (ints x)] bytes K:=by
 subst hl
 refine⟨⟨rfl,rfl,by simp,allSize_one rfl,(roomy_of hr)⟩,?_⟩
 rw[snoc_iss,Bool.and_true]
 simpa using h
theorem appendK_nil {g:Nat} {l:List Int} {bytes:Nat} {K:Nat→Bool→Bool→List AV→Prop} (hr:l.length*bytes≤2 ^ 46) (h:K l.length true true (ints l)):
 appendK g g 1 1 0 true true true [] (ints l) bytes K:=by
 refine⟨⟨rfl,rfl,by simp,allSize_ints l,?_⟩,?_⟩
 ·rw[lI,Nat.zero_add];exact(roomy_of hr)
 ·rw[lI,Nat.zero_add];exact h
theorem allSize_iss (l:List (Bool×List Int)):AllSize 1 (iss l):=by
 intro y hy
 simp only[iss,List.mem_map]at hy
 obtain⟨z,_,rfl⟩:=hy
 rfl
theorem appendK_isss {g len:Nat} {cl:Bool} {l l':List (Bool×List Int)} {bytes:Nat} {K:Nat→Bool→Bool→List AV→Prop} (hl:len=l.length) (hr:(l.length+l'.length)*bytes≤2 ^ 46) (h:K (l.length+l'.length) true cl (iss (l++l'))):
 appendK g g 1 1 len true cl true (iss l) (iss l') bytes K:=by
 subst hl
 refine⟨⟨rfl,rfl,by simp,allSize_iss l',by rw[lS];exact(roomy_of hr)⟩,?_⟩
 rw[lS,Bool.and_true,List.take_of_length_le (by simp)]
 simpa[iss]using h
theorem rIN (n:Nat) (z:Int):List.replicate (Int.toNat (Nat.cast n)) (AV.int .i64 z)=ints (List.replicate n z):=by simp[ints]
theorem rI (n:Nat) (z:Int):List.replicate n (AV.int .i64 z)=ints (List.replicate n z):=by simp[ints]
theorem or_true_eq (b:Bool):(b||true)=true:=by cases b<;>rfl
theorem nY {l:List UInt8} {i:Nat} (h:i<l.length):nth l i=some l[i]:=by simp[nth_eq,h]
theorem nYN {l:List UInt8} {i:Nat} (h:i<l.length):nth l (Int.toNat (Nat.cast i))=some l[i]:=nY h
def bools (l:List Bool):List AV:=l.map .bool
@[simp] theorem lB (l:List Bool):(bools l).length=l.length:=by simp[bools]
theorem nB {l:List Bool} {i:Nat} (h:i<l.length):nth (bools l) i=some (.bool l[i]):=by simp[bools,nth_eq,h]
theorem nBN {l:List Bool} {i:Nat} (h:i<l.length):nth (bools l) (Int.toNat (Nat.cast i))=some (.bool l[i]):=nB h
theorem tBN {l:List Bool} {i:Nat} {x y:Bool}:(bools l).set (Int.toNat (Nat.cast i)) (writeCells (.bool x) 0 (.bool y))=bools (l.set i y):=by
 simp[bools,writeCells,AV.cells,List.map_set]
theorem tB {l:List Bool} {i:Nat} {x y:Bool}:(bools l).set i (writeCells (.bool x) 0 (.bool y))=bools (l.set i y):=tBN
theorem uB {l:List Bool}:sub (bools l) 0 l.length=bools l:=by
 unfold sub;rw[List.drop_zero,List.take_of_length_le (by simp)]
theorem rBN (n:Nat) (z:Bool):List.replicate (Int.toNat (Nat.cast n)) (AV.bool z)=bools (List.replicate n z):=by simp[bools]
section
variable {α β:Type} [DecidableEq α] {fk:α→AV} {fv:β→AV} {t:EqT}
def ment (fk:α→AV) (fv:β→AV) (M:List (α×β)):List (AV×AV):=M.map fun p=>(fk p.1,fv p.2)
def mget:List (α×β)→α→Option β
 |[],_=>none
 |(k',v)::M,k=>if k=k' then some v else mget M k
def mset:List (α×β)→α→β→List (α×β)
 |[],k,v=>[(k,v)]
 |(k',v')::M,k,v=>if k=k' then(k,v)::M else(k',v')::mset M k v
theorem mget_mset (M:List (α×β)) (k k':α) (v:β):mget (mset M k v) k'=if k'=k then some v else mget M k':=by
 induction M with
 |nil=>simp[mset,mget]
 |cons p M ih=>
  obtain⟨a,b⟩:=p
  simp only[mset]
  by_cases h:k=a
  ·subst h;simp only[if_pos,mget];split<;>simp_all
  ·rw[if_neg h]
   simp only[mget,ih]
   by_cases h1:k'=a
   ·subst h1;rw[if_pos rfl,if_neg (fun e=>h e.symm),if_pos rfl]
   ·rw[if_neg h1,if_neg h1]
theorem findKey_ment (hk:∀a b,eqLeaf t (fk a) (fk b)=some (decide (a=b))) (k:α):∀(M:List (α×β)) (i:Nat),
 (mget M k=none∧findKey t (fk k) (ment fk fv M) i=some none∧mset M k=fun v=>M++[(k,v)])∨
 ∃j v,mget M k=some v∧findKey t (fk k) (ment fk fv M) i=some (some (i+j,fv v))∧mset M k=fun v=>M.set j (k,v)
 |[],i=>.inl ⟨rfl,rfl,rfl⟩
 |(a,b)::M,i=>by
  by_cases h:k=a
  ·subst h
   refine .inr ⟨0,b,by simp[mget],?_,by funext v;simp[mset]⟩
   simp only[ment,List.map_cons,findKey,hk,decide_true,Nat.add_zero]
  ·rcases findKey_ment hk k M (i+1)with⟨h1,h2,h3⟩|⟨j,v,h1,h2,h3⟩
   ·refine .inl ⟨by simp[mget,h,h1],?_,by funext v;simp[mset,h,h3]⟩
    simp only[ment,List.map_cons,findKey,hk,decide_eq_false h]at h2 ⊢
    exact h2
   ·refine .inr ⟨j+1,v,by simp[mget,h,h1],?_,by funext v;simp[mset,h,h3]⟩
    simp only[ment,List.map_cons,findKey,hk,decide_eq_false h]at h2 ⊢
    rw[h2];congr 3;omega
theorem findK_ment (hk:∀a b,eqLeaf t (fk a) (fk b)=some (decide (a=b))) {M:List (α×β)} {k:α} {K:Option (Nat×AV)→Prop}
 (h1:mget M k=none→K none) (h2:∀i v,mget M k=some v→K (some (i,fv v))):findK t (fk k) (ment fk fv M) K:=by
 rcases findKey_ment (fv:=fv) hk k M 0 with⟨g1,g2,_⟩|⟨j,v,g1,g2,_⟩
 ·exact⟨_,g2,h1 g1⟩
 ·exact⟨_,g2,h2 _ _ g1⟩
theorem msetK_ment (hk:∀a b,eqLeaf t (fk a) (fk b)=some (decide (a=b))) {M:List (α×β)} {k:α} {v:β} {K:List (AV×AV)→Prop}
 (h:K (ment fk fv (mset M k v))):msetK t (fk k) (fv v) (ment fk fv M) K:=by
 rcases findKey_ment (fv:=fv) hk k M 0 with⟨g1,g2,g3⟩|⟨j,w,g1,g2,g3⟩
 ·refine⟨_,g2,?_⟩
  rw[g3]at h
  simpa[msetE,ment]using h
 ·refine⟨_,g2,?_⟩
  rw[g3]at h
  simpa[msetE,ment,List.map_set]using h
end
theorem eqLeaf_int (a b:Int):eqLeaf .int (.int .i64 a) (.int .i64 b)=some (decide (a=b)):=by
 simp only[eqLeaf,if_true];rfl
abbrev mints (M:List (Int×Int)):List (AV×AV):=ment (.int .i64) (.int .i64) M
theorem fkI {M:List (Int×Int)} {k:Int} {K:Option (Nat×AV)→Prop}
 (h1:mget M k=none→K none) (h2:∀i v,mget M k=some v→K (some (i,.int .i64 v))):findK .int (.int .i64 k) (mints M) K:=findK_ment eqLeaf_int h1 h2
theorem msI {M:List (Int×Int)} {k v:Int} {K:List (AV×AV)→Prop} (h:K (mints (mset M k v))):msetK .int (.int .i64 k) (.int .i64 v) (mints M) K:=msetK_ment eqLeaf_int h
end AI
end Go.Proofs.YtgmgkkbpgndaaaaGreatDoor
