/- The evaluator, step by step on symbols: what must hold for it to end in 'Q'. The evaluator, step by step on symbols: operations. The evaluator, step by step on symbols: regions, code, loops, functions. Loops by an invariant; what a function answers, as a predicate. Lists of numbers as abstract values; small facts that the steps need. -/
import Derived.Test.YtegcpbncohoflaaGreatDoorGSe
set_option linter.unusedVariables false
namespace Go.Proofs.YtegcpbncohoflaaGreatDoor
namespace AI
open Go.RowKit
variable {AP:Nat→Option IJ}
structure Run (AP:Nat→Option IJ) (c:C9) (env:Env) (s:Aj) (Q:AQ→Env→Aj→Prop):Prop where
 mk::(h:∃N e env' s',D8 (run AP N) N c env s=some (e,env',s')∧Q e env' s')
def Op1 (AP:Nat→Option IJ) (o:BG) (env:Env) (s:Aj) (K:Aw→Aj→Prop):Prop:=
 ∃N out s',Ag (run AP N) o env s=some (out,s')∧K out s'
def Ops (AP:Nat→Option IJ) (os:List Am) (env:Env) (s:Aj) (Q:AQ→Env→Aj→Prop):Prop:=
 ∃N e env' s',CJ (run AP N) os env s=some (e,env',s')∧Q e env' s'
structure Pure (AP:Nat→Option IJ) (f:Nat) (args:List AV) (v:AV):Prop where
 mk::(h:∃N,DR (run AP N) f args=some v)
structure FB (AP:Nat→Option IJ) (f:Nat) (args:List AV) (s:Aj) (K:Aw→Aj→Prop):Prop where
 mk::(h:∃N out s',run AP N f args s=some (out,s')∧K out s')
theorem Bf {n n':Nat} (h:n≤n'):D9 (run AP n) (run AP n'):=NU h
theorem Run.mono {c:C9} {env:Env} {s:Aj} {Q Q':AQ→Env→Aj→Prop} (h:Run AP c env s Q) (hq:∀e env s,Q e env s→Q' e env s):Run AP c env s Q':=by
 obtain⟨N,e,env',s',h1,h2⟩:=h
 exact⟨N,e,env',s',h1,hq _ _ _ h2⟩
def AV.force {R:Sort _} (v:AV) (f:AV→R):R:=
 match v with
 | .bool b=>f (.bool b)
 | .int k n=>f (.int k n)
 | .str s=>f (.str s)
 | .sl nn xs=>f (.sl nn xs)
 | .zc=>f .zc
 | .own o g a b=>f (.own o g a b)
 | .agg cs=>f (.agg cs)
 | .EG cs=>f (.EG cs)
 | .ref o g i a=>f (.ref o g i a)
 | .Ci cs=>f (.Ci cs)
 | .fn g cs=>f (.fn g cs)
 | .map o g=>f (.map o g)
 | .fmap es=>f (.fmap es)
 | .iface t v=>f (.iface t v)
 | .G9=>f .G9
 | .Cb=>f .Cb
 | .Es=>f .Es
 | .Fh=>f .Fh
 | .undef=>f .undef
 | .junk=>f .junk
theorem force_eq {R:Sort _} (v:AV) (f:AV→R):v.force f=f v:=by cases v<;>rfl
def IG (b:Bool) (t e:Prop):Prop:=match b with
 |true=>t
 |false=>e
theorem Rq {b:Bool} {t e:Prop} (h1:b=true→t) (h2:b=false→e):IG b t e:=by
 cases b
 ·exact h2 rfl
 ·exact h1 rfl
structure Ku (p t e:Prop):Prop where
 mk::(yes:p→t) (no:¬p→e)
structure need (p t:Prop):Prop where
 mk::(l:p) (r:t)
theorem AU {p t:Prop} (h1:p) (h2:t):need p t:=⟨h1,h2⟩
structure II (k:IntKind) (z:Int) (K:AV→Prop):Prop where
 mk::(h:∃y,k.wrap z=y∧K (.int k y))
theorem BD {k:IntKind} {z y:Int} {K:AV→Prop} (h:k.wrap z=y) (h2:K (.int k y)):II k z K:=⟨y,h,h2⟩
structure Rt {α:Type} (xs:List α) (i:Nat) (K:α→Prop):Prop where
 mk::(h:∃x,nth xs i=some x∧K x)
theorem Bq {α:Type} {xs:List α} {i:Nat} {K:α→Prop} {x:α} (h:nth xs i=some x) (h2:K x):Rt xs i K:=⟨x,h,h2⟩
structure I7 {α:Type} (o:Option α) (K:α→Prop):Prop where
 mk::(h:∃x,o=some x∧K x)
theorem Cj {α:Type} {o:Option α} {K:α→Prop} {x:α} (h:o=some x) (h2:K x):I7 o K:=⟨x,h,h2⟩
structure UU (AP:Nat→Option IJ) (f:Nat) (args:List AV) (K:AV→Prop):Prop where
 mk::(h:∃v,Pure AP f args v∧K v)
def settle (v:AV) (K:AV→Prop):Prop:=match v with
 | .bool b=>IG b (K (.bool true)) (K (.bool false))
 |v=>v.force K
theorem NV (v:AV) (K:AV→Prop):settle v K↔K v:=by
 cases v<;>first|exact Iff.rfl|skip
 rename_i b
 cases b<;>exact Iff.rfl
def LG {α:Type}:List α→Nat→α→(List α→Prop)→Prop
 |[],_,_,K=>K []
 |_::xs,0,y,K=>K (y::xs)
 |x::xs,n+1,y,K=>LG xs n y fun ys=>K (x::ys)
theorem Dv {α:Type}:∀(l:List α) (n:Nat) (y:α) (K:List α→Prop),LG l n y K↔K (l.set n y)
 |[],_,_,_=>Iff.rfl
 |_::_,0,_,_=>Iff.rfl
 |x::xs,n+1,y,K=>Dv xs n y fun ys=>K (x::ys)
def UW {α:Type}:List α→α→(List α→Prop)→Prop
 |[],y,K=>K [y]
 |x::xs,y,K=>UW xs y fun ys=>K (x::ys)
theorem LH {α:Type}:∀(l:List α) (y:α) (K:List α→Prop),UW l y K↔K (l++[y])
 |[],_,_=>Iff.rfl
 |x::xs,y,K=>LH xs y fun ys=>K (x::ys)
def Qz (s:Aj) (mk:Nat→Nat→AV) (ob:Nat→Obj) (K:Aw→Aj→Prop):Prop:=
 UW s.σ (ob s.ctr) fun σ=>K (.ok (mk s.σ.length s.ctr)) ⟨σ,s.ctr+1⟩
structure eqK {α:Type} (a:α) (K:α→Prop):Prop where
 mk::(h:∃b,a=b∧K b)
theorem Dy {α:Type} {a b:α} {K:α→Prop} (h1:a=b) (h:K b):eqK a K:=⟨_,h1,h⟩
def UY (op:BinOp) (k:IntKind) (a b:Int) (K:AV→Prop):Prop:=
 match op with
 | .add=>II k (a+b) K
 | .sub=>II k (a-b) K
 | .mul=>II k (a*b) K
 | .quo=>need (b≠0) (II k (a.tdiv b) K)
 | .rem=>need (b≠0) (K (.int k (a.tmod b)))
 | .eql=>Ku (a=b) (K (.bool true)) (K (.bool false))
 | .neq=>Ku (a=b) (K (.bool false)) (K (.bool true))
 | .lss=>Ku (a<b) (K (.bool true)) (K (.bool false))
 | .leq=>Ku (a≤b) (K (.bool true)) (K (.bool false))
 | .gtr=>Ku (b<a) (K (.bool true)) (K (.bool false))
 | .geq=>Ku (b≤a) (K (.bool true)) (K (.bool false))
 | .and=>eqK (k.wrap (BitVec.ofInt k.bits a &&& BitVec.ofInt k.bits b).toNat) fun z=>K (.int k z)
 | .or=>eqK (k.wrap (BitVec.ofInt k.bits a ||| BitVec.ofInt k.bits b).toNat) fun z=>K (.int k z)
 | .xor=>eqK (k.wrap (BitVec.ofInt k.bits a ^^^ BitVec.ofInt k.bits b).toNat) fun z=>K (.int k z)
 | .shl=>need (0≤b) (II k (a*2 ^ (min b.toNat k.bits)) K)
 | .shr=>need (0≤b) (eqK (a.fdiv (2 ^ (min b.toNat k.bits))) fun z=>K (.int k z))
 |_=>False
def UZ (op:BinOp) (a b:List UInt8) (K:AV→Prop):Prop:=
 match op with
 | .eql=>Ku (a=b) (K (.bool true)) (K (.bool false))
 | .neq=>Ku (a=b) (K (.bool false)) (K (.bool true))
 | .lss=>IG (Op.bytesLess a b) (K (.bool true)) (K (.bool false))
 | .leq=>IG (Op.bytesLess a b||a==b) (K (.bool true)) (K (.bool false))
 | .gtr=>IG (Op.bytesLess a b||a==b) (K (.bool false)) (K (.bool true))
 | .geq=>IG (Op.bytesLess a b) (K (.bool false)) (K (.bool true))
 | .add=>need (a.length+b.length<2 ^ 63) (K (.str (a++b)))
 |_=>False
def Xf (op:BinOp) (k k':IntKind) (t:Prop):Prop:=match op with
 | .shl=>t
 | .shr=>t
 |_=>need (k=k') t
theorem Vz {op:BinOp} {k k':IntKind} {t:Prop} (h:Xf op k k' t):(k=k'∨op=.shl∨op=.shr)∧t:=by
 unfold Xf at h
 split at h
 ·exact⟨.inr (.inl rfl),h⟩
 ·exact⟨.inr (.inr rfl),h⟩
 ·exact⟨.inl h.1,h.2⟩
theorem YF {op:BinOp} {k k':IntKind} {t:H7} {a b:Int} (h:k=k'∨op=.shl∨op=.shr):bin op t (.int k a) (.int k' b)=He op k a b:=by
 simp only[bin]
 split
 ·rfl
 ·rename_i hk
  rcases h with h|rfl|rfl
  ·exact absurd h hk
  ·rfl
  ·rfl
def Aao (op:BinOp) (t:H7) (x y:AV) (K:AV→Prop):Prop:=
 match x,y with
 | .int k a,.int k' b=>Xf op k k' (UY op k a b K)
 | .str a,.str b=>UZ op a b K
 |x,y=>I7 (bin op t x y) fun v=>settle v K
theorem TW {op:BinOp} {t:H7} {x y:AV} {K:AV→Prop} (h:Aao op t x y K):∃v,bin op t x y=some v∧K v:=by
 unfold Aao at h
 split at h
 ·rename_i k a k' b
  obtain⟨hk,h⟩:=Vz h
  rw[YF hk]
  unfold UY at h
  cases op<;>simp only at h
  case add=>obtain⟨y,h1,h2⟩:=h;exact⟨_,rfl,by rw[h1];exact h2⟩
  case sub=>obtain⟨y,h1,h2⟩:=h;exact⟨_,rfl,by rw[h1];exact h2⟩
  case mul=>obtain⟨y,h1,h2⟩:=h;exact⟨_,rfl,by rw[h1];exact h2⟩
  case quo=>obtain⟨h0,y,h1,h2⟩:=h;exact⟨_,by simp only[He,if_neg h0];rfl,by rw[h1];exact h2⟩
  case rem=>obtain⟨h0,h2⟩:=h;exact⟨_,by simp only[He,if_neg h0],h2⟩
  case and=>obtain⟨z,rfl,h2⟩:=h;exact⟨_,rfl,h2⟩
  case or=>obtain⟨z,rfl,h2⟩:=h;exact⟨_,rfl,h2⟩
  case xor=>obtain⟨z,rfl,h2⟩:=h;exact⟨_,rfl,h2⟩
  case shl=>obtain⟨h0,y,h1,h2⟩:=h;exact⟨_,by simp only[He,if_neg (Int.not_lt.2 h0)];rfl,by rw[h1];exact h2⟩
  case shr=>obtain⟨h0,z,rfl,h2⟩:=h;exact⟨_,by simp only[He,if_neg (Int.not_lt.2 h0)],h2⟩
  case eql=>
   by_cases c:a=b
   ·exact⟨_,rfl,by have:=h.1 c;simpa only[c,beq_self_eq_true,bne_self_eq_false,Bool.not_true]using this⟩
   ·exact⟨_,rfl,by have:=h.2 c;simpa only[bne,beq_false_of_ne c,Bool.not_false]using this⟩
  case neq=>
   by_cases c:a=b
   ·exact⟨_,rfl,by have:=h.1 c;simpa only[c,beq_self_eq_true,bne_self_eq_false,Bool.not_true]using this⟩
   ·exact⟨_,rfl,by have:=h.2 c;simpa only[bne,beq_false_of_ne c,Bool.not_false]using this⟩
  case lss=>
   by_cases c:a<b
   ·exact⟨_,rfl,by simpa[c]using h.1 c⟩
   ·exact⟨_,rfl,by simpa[c]using h.2 c⟩
  case leq=>
   by_cases c:a≤b
   ·exact⟨_,rfl,by simpa[c]using h.1 c⟩
   ·exact⟨_,rfl,by simpa[c]using h.2 c⟩
  case gtr=>
   by_cases c:b<a
   ·exact⟨_,rfl,by simpa[c]using h.1 c⟩
   ·exact⟨_,rfl,by simpa[c]using h.2 c⟩
  case geq=>
   by_cases c:b≤a
   ·exact⟨_,rfl,by simpa[c]using h.1 c⟩
   ·exact⟨_,rfl,by simpa[c]using h.2 c⟩
 ·rename_i a b
  simp only[bin]
  unfold UZ at h
  cases op<;>simp only at h
  case add=>obtain⟨h0,h2⟩:=h;exact⟨_,by simp only[TT,if_pos h0],h2⟩
  case eql=>
   by_cases c:a=b
   ·exact⟨_,rfl,by have:=h.1 c;simpa only[c,beq_self_eq_true,bne_self_eq_false,Bool.not_true]using this⟩
   ·exact⟨_,rfl,by have:=h.2 c;simpa only[bne,beq_false_of_ne c,Bool.not_false]using this⟩
  case neq=>
   by_cases c:a=b
   ·exact⟨_,rfl,by have:=h.1 c;simpa only[c,beq_self_eq_true,bne_self_eq_false,Bool.not_true]using this⟩
   ·exact⟨_,rfl,by have:=h.2 c;simpa only[bne,beq_false_of_ne c,Bool.not_false]using this⟩
  case lss=>cases c:Op.bytesLess a b<;>rw[c]at h<;>exact⟨_,rfl,by rw[c];exact h⟩
  case leq=>cases c:(Op.bytesLess a b||a==b)<;>rw[c]at h<;>exact⟨_,rfl,by rw[c];exact h⟩
  case gtr=>cases c:(Op.bytesLess a b||a==b)<;>rw[c]at h<;>exact⟨_,rfl,by rw[c];exact h⟩
  case geq=>cases c:Op.bytesLess a b<;>rw[c]at h<;>exact⟨_,rfl,by rw[c];exact h⟩
 ·obtain⟨v,h1,h2⟩:=h
  exact⟨v,h1,(NV v K).1 h2⟩
end AI
end Go.Proofs.YtegcpbncohoflaaGreatDoor
namespace Go.Proofs.YtegcpbncohoflaaGreatDoor
namespace AI
open Go.RowKit
variable {AP:Nat→Option IJ}
def done (v:AV) (s:Aj) (K:Aw→Aj→Prop):Prop:=settle v fun v=>K (.ok v) s
def Xg:Ap:=fun _ _ _=>none
def Ru (o:BG) (env:Env) (s:Aj) (K:Aw→Aj→Prop):Prop:=
 I7 (Ag Xg o env s) fun r=>match r with
    |(.ok v,s')=>done v s' K
    |(.DL v,s')=>K (.DL v) s'
def U0 (σ:List Obj) (n:Nat) (r:AV) (R:AV→Prop):Prop:=match r with
 | .own o g off len=>match n with
   |0=>False
   |n+1=>match nth σ o with
    |some (.arr g' _ nn cl elems)=>match cl with
     |true=>need (g=g'∧off+len≤elems.length) (eqK (sub elems off len) fun xs=>R (.sl nn xs))
     |false=>I7 (snap σ (n+1) (.own o g off len)) R
    |_=>False
 |r=>I7 (snap σ n r) R
theorem MF {σ:List Obj} {n:Nat} {r:AV} {R:AV→Prop} (h:U0 σ n r R):∃v,snap σ n r=some v∧R v:=by
 unfold U0 at h
 split at h
 ·rename_i o g off len
  split at h
  ·cases h
  ·split at h
   ·rename_i g' es nn cl elems ho
    split at h
    ·obtain⟨h1,xs,rfl,h2⟩:=h
     refine⟨_,?_,h2⟩
     simp only[snap,ho,if_pos h1,if_true]
    ·obtain⟨v,h1,h2⟩:=h;exact⟨v,h1,h2⟩
   ·cases h
 ·obtain⟨v,h1,h2⟩:=h;exact⟨v,h1,h2⟩
def NW (σ:List Obj):Nat→List AV→(List AV→Prop)→Prop
 |_,[],K=>K []
 |0,_::_,_=>False
 |n+1,v::vs,K=>U0 σ n v fun a=>NW σ n vs fun r=>K (a::r)
theorem FY {σ:List Obj}:∀{n:Nat} {vs:List AV} {K:List AV→Prop},NW σ n vs K→∃r,Fg σ n vs=some r∧K r
 |n,[],K,h=>⟨[],by cases n<;>rfl,by cases n<;>exact h⟩
 |0,_::_,_,h=>by cases h
 |n+1,v::vs,K,h=>by
  obtain⟨a,h1,h2⟩:=MF h
  obtain⟨r,h3,h4⟩:=FY h2
  exact⟨_,by simp only[Fg,h1,h3],h4⟩
def U1 (σ:List Obj) (n:Nat) (r:AV) (R:AV→Prop):Prop:=match r with
 | .EG cs=>match n with
   |0=>False
   |n+1=>NW σ n cs fun vs=>R (.EG vs)
 | .agg cs=>match n with
   |0=>False
   |n+1=>NW σ n cs fun vs=>R (.agg vs)
 |r=>U0 σ n r R
theorem Rw {σ:List Obj} {n:Nat} {r:AV} {R:AV→Prop} (h:U1 σ n r R):∃v,snap σ n r=some v∧R v:=by
 unfold U1 at h
 split at h
 ·split at h
  ·cases h
  ·obtain⟨vs,h1,h2⟩:=FY h
   exact⟨_,by simp only[snap,h1,Option.map_some],h2⟩
 ·split at h
  ·cases h
  ·obtain⟨vs,h1,h2⟩:=FY h
   exact⟨_,by simp only[snap,h1,Option.map_some],h2⟩
 ·exact MF h
def Xh (AP:Nat→Option IJ) (m:Mode) (f:Nat) (args:List AV) (s:Aj) (K:Aw→Aj→Prop):Prop:=
 match m with
 | .pure=>need (Dj args=true) (UU AP f args fun v=>done v s K)
 | .borrow=>NW s.σ Gl args fun args'=>UU AP f args' fun v=>need (v.scalar=true) (done v s K)
 | .share=>FB AP f args s fun out s'=>match out with
   | .ok r=>I7 (compact s.σ.length r s') fun r=>done r.1 r.2 K
   | .DL v=>need (v.closed=true) (K (.DL v) ⟨s'.σ.take s.σ.length,s'.ctr⟩)
 | .own=>∃N r s',AL (run AP N) .own f args s=some (.ok r,s')∧done r s' K
 | .keep=>FB AP f args s fun out s'=>match out with
   | .ok r=>done r s' K
   | .DL v=>K (.DL v) s'
structure Jt (g g' es es' len:Nat) (nn cl c:Bool) (elems ys:List AV) (bytes:Nat) (K:Nat→Bool→Bool→List AV→Prop):Prop where
 mk::(h:(g=g'∧es=es'∧len≤elems.length∧A8 es ys∧roomy bytes (len+ys.length))∧K (len+ys.length) (nn||!ys.isEmpty) (cl&&c) (elems.take len++ys))
def Aap (a b:Bool) (K:Bool→Prop):Prop:=match b with
 |true=>K a
 |false=>K false
theorem Rx (a b:Bool) (K:Bool→Prop):Aap a b K↔K (a&&b):=by cases a<;>cases b<;>exact Iff.rfl
def Xi (b:Bool) (K:Bool→Prop):Prop:=match b with
 |true=>K true
 |false=>K false
theorem TY (b:Bool) (K:Bool→Prop):Xi b K↔K b:=by cases b<;>exact Iff.rfl
def U2 (env:Env):List (Nat×AO)→(List (Nat×AV)→Prop)→Prop
 |[],K=>K []
 |(j,x)::ps,K=>(x.val env).force fun v=>U2 env ps fun r=>K ((j,v)::r)
theorem PV (env:Env):∀(ps:List (Nat×AO)) (K:List (Nat×AV)→Prop),U2 env ps K↔K (LJ env ps)
 |[],_=>Iff.rfl
 |(j,x)::ps,K=>by simp only[U2,force_eq,LJ];exact PV env ps _
def Ey (z:AV):Nat→List (Nat×AV)→Nat→(List AV→Prop)→Prop
 |0,_,_,K=>K []
 |n+1,[],i,K=>Ey z n [] (i+1) fun r=>K (z::r)
 |n+1,(j,v)::ps,i,K=>bif Nat.beq i j then Ey z n ps (i+1) fun r=>K (v::r)else Ey z n ((j,v)::ps) (i+1) fun r=>K (z::r)
theorem Fe (z:AV):∀(n:Nat) (ps:List (Nat×AV)) (i:Nat) (K:List AV→Prop),Ey z n ps i K↔K (AZ z n ps i)
 |0,_,_,_=>by simp only[Ey,AZ]
 |n+1,[],i,K=>by simp only[Ey,AZ];exact Fe z n [] (i+1) _
 |n+1,(j,v)::ps,i,K=>by
  simp only[Ey,AZ]
  cases Nat.beq i j
  ·exact Fe z n _ (i+1) _
  ·exact Fe z n _ (i+1) _
def Ua (es:Nat) (v:AV) (s:Aj) (K:List AV→Bool→Prop):Prop:=match v with
 | .sl _ xs=>K xs true
 | .zc=>K [] true
 |v=>I7 (elemsOf s es v) fun r=>K r.1 r.2
theorem QA {es:Nat} {v:AV} {s:Aj} {K:List AV→Bool→Prop} (h:Ua es v s K):∃ys c,elemsOf s es v=some (ys,c)∧K ys c:=by
 unfold Ua at h
 split at h
 ·exact⟨_,_,rfl,h⟩
 ·exact⟨_,_,rfl,h⟩
 ·obtain⟨⟨ys,c⟩,h1,h2⟩:=h
  exact⟨ys,c,h1,h2⟩
def YG (off j:Nat) (K:Nat→Prop):Prop:=match off with
 |0=>K j
 |n+1=>K (n+1+j)
theorem Ry (off j:Nat) (K:Nat→Prop):YG off j K↔K (off+j):=by
 cases off with
 |zero=>simp[YG]
 |succ n=>exact Iff.rfl
structure Xj (t:H7) (k:AV) (ents:List (AV×AV)) (K:Option (Nat×AV)→Prop):Prop where
 mk::(h:∃r,findKey t k ents 0=some r∧K r)
def AbU (k v:AV) (ents:List (AV×AV)) (r:Option (Nat×AV)):List (AV×AV):=match r with
 |some (i,_)=>ents.set i (k,v)
 |none=>ents++[(k,v)]
structure AbV (t:H7) (k v:AV) (ents:List (AV×AV)) (K:List (AV×AV)→Prop):Prop where
 mk::(h:∃r,findKey t k ents 0=some r∧K (AbU k v ents r))
def QB (env:Env) (d:Nat) (x:Option AO) (K:Nat→Prop):Prop:=match x with
 |none=>K d
 |some x=>match x.val env with
  | .int _ n=>need (0≤n) (K n.toNat)
  |_=>False
def Nu (env:Env) (len:Nat) (lo hi:Option AO) (K:Nat→Nat→Prop):Prop:=
 QB env len hi fun h=>QB env 0 lo fun l=>need (l≤h∧h≤len) (K l h)
theorem Kv {env:Env} {d:Nat} {x:Option AO} {K:Nat→Prop} (h:QB env d x K):∃n,(match x with|none=>some d|some x=>bound (x.val env))=some n∧K n:=by
 unfold QB at h
 split at h
 ·exact⟨d,rfl,h⟩
 ·rename_i x
  split at h
  ·rename_i k n hv
   exact⟨n.toNat,by simp only[hv,bound,if_pos h.1],h.2⟩
  ·cases h
theorem Hf {env:Env} {len:Nat} {lo hi:Option AO} {K:Nat→Nat→Prop} (h:Nu env len lo hi K):∃l u,bounds env len lo hi=some (l,u)∧K l u:=by
 obtain⟨u,h1,h2⟩:=Kv h
 obtain⟨l,h3,h4,h5⟩:=Kv h2
 refine⟨l,u,?_,h5⟩
 unfold bounds
 cases hi<;>cases lo<;>simp_all
def Ib (AP:Nat→Option IJ) (o:BG) (env:Env) (s:Aj) (K:Aw→Aj→Prop):Prop:=
 match o with
 | .Xk x=>done (x.val env) s K
 | .Hg es=>Qz s (fun o g=>.own o g 0 0) (fun g=>.arr g es false true []) K
 | .Ic off e2 es cs=>match nth cs off with
   |some (.sl false [])=>need (0<e2) (Qz s (fun o g=>.own o g 0 0) (fun g=>.arr g e2 false true []) fun out s1=>match out with
        | .ok v=>Qz s1 (fun o g=>.ref o g 0 0) (fun g=>.arr g es true (AV.agg (cs.set off v)).closed [.agg (cs.set off v)]) K
        | .DL _=>False)
   |_=>False
 | .pick c a b=>match c.val env with
   | .bool c=>IG c (done (a.val env) s K) (done (b.val env) s K)
   |_=>False
 | .alloc es z=>Qz s (fun o g=>.ref o g 0 0) (fun g=>.arr g es true z.closed [z]) K
 | .box es x=>(x.val env).force fun v=>need ((v.storable&&v.cells.length==es)=true) (Qz s (fun o g=>.ref o g 0 0) (fun g=>.arr g es true v.closed [v]) K)
 | .build z parts=>I7 (Dl z (Ie env parts)) fun cs=>K (.ok (.agg cs)) s
 | .load sz a=>match a.val env with
   | .Ci cs=>I7 (loadCells cs sz) fun v=>done v s K
   | .ref o g i off=>match nth s.σ o with
     |some (.arr g' _ _ _ elems)=>need (g=g') (Rt elems i fun x=>I7 (loadCells (x.cells.drop off) sz) fun v=>done v s K)
     |_=>False
   |_=>False
 | .store sz a x=>match a.val env with
   | .ref o g i off=>match nth s.σ o with
     |some (.arr g' es nn cl elems)=>need (g=g') (Rt elems i fun y=>(x.val env).force fun v=>need ((v.storable&&v.cells.length==sz&&off+sz≤es)=true)
       (Aap cl v.closed fun cl'=>eqK (elems.set i (Bj y off v)) fun es'=>LG s.σ o (.arr g' es nn cl' es') fun σ=>K (.ok .undef) ⟨σ,s.ctr⟩))
     |_=>False
   |_=>False
 | .LK x=>match x.val env with
   | .ref o g i off=>K (.ok (.ref o g i off)) s
   | .Ci cs=>K (.ok (.Ci cs)) s
   | .fn f cs=>K (.ok (.fn f cs)) s
   |_=>False
 | .bin op t x y=>Aao op t (x.val env) (y.val env) fun v=>K (.ok v) s
 | .un op x=>match op,x.val env with
   | .not,.bool b=>IG b (K (.ok (.bool false)) s) (K (.ok (.bool true)) s)
   | .neg,.int k n=>II k (0-n) fun v=>K (.ok v) s
   |_,_=>False
 | .conv k x=>match x.val env with
   | .int _ n=>II k n fun v=>K (.ok v) s
   |_=>False
 | .field off sz x=>match x.val env with
   | .agg cs=>I7 (loadCells (cs.drop off) sz) fun v=>done v s K
   |_=>False
 | .NQ off x=>match x.val env with
   | .Ci cs=>K (.ok (.Ci (cs.drop off))) s
   | .ref o g i off'=>K (.ok (.ref o g i (off'+off))) s
   |_=>False
 | .NT es x i=>match x.val env,i.val env with
   | .sl _ xs,.int _ i=>need (0≤i) (Rt xs i.toNat fun v=>need (v.cells.length=es) (K (.ok (.Ci v.cells)) s))
   | .own o g off len,.int _ i=>match nth s.σ o with
     |some (.arr g' es' _ _ _)=>need (g=g'∧es=es'∧0≤i∧i<len) (YG off i.toNat fun j=>K (.ok (.ref o g j 0)) s)
     |_=>False
   |_,_=>False
 | .len k x=>match k,x.val env with
   | .slice,.sl _ xs=>eqK xs.length fun n=>K (.ok (.int .i64 n)) s
   | .slice,.own _ _ _ n=>K (.ok (.int .i64 n)) s
   | .str,.str bs=>K (.ok (.int .i64 bs.length)) s
   | .map,.map o g=>match nth s.σ o with
     |some (.mp g' _ ents)=>need (g=g') (K (.ok (.int .i64 ents.length)) s)
     |_=>False
   | .map,.fmap ents=>K (.ok (.int .i64 ents.length)) s
   |_,_=>Ru (.len k x) env s K
 | .Kw=>Qz s (fun o g=>.map o g) (fun g=>.mp g true []) K
 | .lookup t z Nv m k=>match m.val env with
   | .map o g=>match nth s.σ o with
     |some (.mp g' _ ents)=>need (g=g'∧GK t (k.val env)=true) (Xj t (k.val env) ents fun r=>match r with
      |some (_,v)=>bif Nv then K (.ok (.EG [v,.bool true])) s else done v s K
      |none=>bif Nv then K (.ok (.EG [z,.bool false])) s else done z s K)
     |_=>False
   | .fmap ents=>need (GK t (k.val env)=true) (Xj t (k.val env) ents fun r=>match r with
        |some (_,v)=>bif Nv then K (.ok (.EG [v,.bool true])) s else done v s K
        |none=>bif Nv then K (.ok (.EG [z,.bool false])) s else done z s K)
   |_=>Ru (.lookup t z Nv m k) env s K
 | .mapset t m k v=>match m.val env with
   | .map o g=>match nth s.σ o with
     |some (.mp g' cl ents)=>(v.val env).force fun vv=>need (g=g'∧GK t (k.val env)=true∧vv.storable=true)
       (Aap cl vv.closed fun cl'=>AbV t (k.val env) vv ents fun U3=>LG s.σ o (.mp g' cl' U3) fun σ=>K (.ok .undef) ⟨σ,s.ctr⟩)
     |_=>False
   |_=>False
 | .delete t m k=>match m.val env with
   | .map o g=>match nth s.σ o with
     |some (.mp g' cl ents)=>need (g=g'∧GK t (k.val env)=true) (Xj t (k.val env) ents fun r=>match r with
      |some (i,_)=>LG s.σ o (.mp g' cl (ents.eraseIdx i)) fun σ=>K (.ok .undef) ⟨σ,s.ctr⟩
      |none=>K (.ok .undef) s)
     |_=>False
   |_=>False
 | .lit own es z len parts=>U2 env parts fun ps=>need (NY es len ps 0=true) (Ey z len ps 0 fun xs=>
    bif own then Xi (FZ ps) fun c=>Qz s (fun o g=>.own o g 0 len) (fun g=>.arr g es true c xs) K
    else bif Nat.beq len 0 then K (.ok .zc) s else need (FZ ps=true) (K (.ok (.sl true xs)) s))
 | .TV x i=>match x.val env,i.val env with
   | .str bs,.int _ i=>need (0≤i) (Rt bs i.toNat fun b=>K (.ok (.int .u8 b.toNat)) s)
   |_,_=>False
 | .slice es x lo hi=>match x.val env with
   | .sl nn xs=>Nu env xs.length lo hi fun l h=>need (A8 es xs) (eqK (sub xs l (h-l)) fun ys=>K (.ok (.sl nn ys)) s)
   | .own o g off len=>match nth s.σ o with
     |some (.arr g' es' _ _ _)=>need (g=g'∧es=es') (Nu env len lo hi fun l h=>YG off l fun j=>K (.ok (.own o g j (h-l))) s)
     |_=>False
   |_=>Ru (.slice es x lo hi) env s K
 | .I8 x lo hi=>match x.val env with
   | .str bs=>Nu env bs.length lo hi fun l h=>eqK ((bs.drop l).take (h-l)) fun r=>K (.ok (.str r)) s
   |_=>False
 | .append es bytes a x=>Ua es (x.val env) s fun ys c=>match a.val env with
   | .own o g 0 len=>match nth s.σ o with
     |some (.arr g' es' nn cl' elems)=>Jt g g' es es' len nn cl' c elems ys bytes fun n nn cl es'=>LG s.σ o (.arr s.ctr es nn cl es') fun σ=>K (.ok (.own o s.ctr 0 n)) ⟨σ,s.ctr+1⟩
     |_=>False
   |v=>I7 (EH es bytes s v ys c) fun r=>done r.1 r.2 K
 | .F7 es bytes z len cap=>match len.val env,cap.val env with
   | .int _ l,.int _ c=>need (0≤l∧l≤c∧roomy bytes c.toNat) (eqK (List.replicate l.toNat z) fun xs=>Qz s (fun o g=>.own o g 0 l.toNat) (fun g=>.arr g es true z.closed xs) K)
   |_,_=>False
 | .ext x i=>match x.val env with
   | .EG cs=>I7 (nth cs i) fun v=>done v s K
   |_=>False
 | .call m f args=>Xh AP m f (vals env args) s K
 | .Fj m x args=>match x.val env with
   | .fn f caps=>Xh AP m f (vals env args++caps) s K
   |_=>False
 |o=>Ru o env s K
theorem VA (C:Ap):D9 Xg C:=fun _ _ _ _ h=>by cases h
theorem BN (v:AV) (s:Aj) (K:Aw→Aj→Prop):done v s K↔K (.ok v) s:=NV v _
theorem GL {o:BG} {env:Env} {s:Aj} {K:Aw→Aj→Prop} (h:Ru o env s K):Op1 AP o env s K:=by
 obtain⟨⟨out,s'⟩,h1,h2⟩:=h
 refine⟨0,out,s',Bz (VA _) h1,?_⟩
 cases out with
 |ok v=>exact(BN v s' K).1 h2
 |DL v=>exact h2
theorem MG {m:Mode} {f:Nat} {args:List AV} {s:Aj} {K:Aw→Aj→Prop} (h:Xh AP m f args s K):∃N out s',AL (run AP N) m f args s=some (out,s')∧K out s':=by
 cases m with
 |pure=>
  obtain⟨hc,v,⟨N,hp⟩,hk⟩:=h
  exact⟨N,.ok v,s,by simp only[AL,if_pos hc,hp,Option.map_some],(BN v s K).1 hk⟩
 |borrow=>
  obtain⟨args',ha,v,⟨N,hp⟩,hs,hk⟩:=FY h
  exact⟨N,.ok v,s,by simp only[AL,ha,hp,if_pos hs],(BN v s K).1 hk⟩
 |share=>
  obtain⟨N,out,s',hr,hk⟩:=h
  cases out with
  |ok r=>
   obtain⟨⟨r',s''⟩,h1,h2⟩:=hk
   exact⟨N,.ok r',s'',by simp only[AL,hr,h1,Option.map_some],(BN r' s'' K).1 h2⟩
  |DL v=>
   obtain⟨h1,h2⟩:=hk
   exact⟨N,.DL v,_,by simp only[AL,hr,if_pos h1],h2⟩
 |own=>
  obtain⟨N,r,s',h1,h2⟩:=h
  exact⟨N,.ok r,s',h1,(BN r s' K).1 h2⟩
 |keep=>
  obtain⟨N,out,s',hr,hk⟩:=h
  cases out with
  |ok r=>exact⟨N,.ok r,s',hr,(BN r s' K).1 hk⟩
  |DL v=>exact⟨N,.DL v,s',hr,hk⟩
theorem Fp {s:Aj} {mk:Nat→Nat→AV} {ob:Nat→Obj} {K:Aw→Aj→Prop}:Qz s mk ob K↔K (.ok (mk s.σ.length s.ctr)) (push s (ob s.ctr)):=LH _ _ _
theorem Gm {o:BG} {env:Env} {s:Aj} {K:Aw→Aj→Prop} (h:Ib AP o env s K):Op1 AP o env s K:=by
 cases o
 case Xk x=>exact⟨0,_,_,rfl,(BN _ _ _).1 h⟩
 case Hg es=>simp only[Ib]at h;exact⟨0,_,_,rfl,Fp.1 h⟩
 case Ic off e2 es cs=>
  simp only[Ib]at h
  split at h
  case h_2=>cases h
  rename_i hoff
  obtain⟨he,h⟩:=h
  have h:=Fp.1 h
  have h:=Fp.1 h
  refine⟨0,_,_,?_,h⟩
  simp only[Ag,hoff,if_pos he]
  simp[push]
 case pick c a b=>
  simp only[Ib]at h
  split at h
  ·rename_i c' hc
   cases c'
   ·exact⟨0,_,_,by simp only[Ag,hc],(BN _ _ _).1 h⟩
   ·exact⟨0,_,_,by simp only[Ag,hc],(BN _ _ _).1 h⟩
  ·cases h
 case alloc es z=>simp only[Ib]at h;exact⟨0,_,_,rfl,Fp.1 h⟩
 case box es x=>
  simp only[Ib,force_eq]at h
  obtain⟨h1,h2⟩:=h
  exact⟨0,_,_,by simp only[Ag,if_pos h1],Fp.1 h2⟩
 case build z ps=>
  obtain⟨cs,h1,h2⟩:=h
  exact⟨0,_,_,by simp only[Ag,h1,Option.map_some],h2⟩
 case load sz a=>
  simp only[Ib]at h
  split at h
  ·rename_i cs hv
   obtain⟨v,h1,h2⟩:=h
   exact⟨0,_,_,by simp only[Ag,hv,ok,h1,Option.map_some],(BN _ _ _).1 h2⟩
  ·rename_i o g i off hv
   split at h
   ·rename_i g' es nn cl elems ho
    obtain⟨hg,x,hx,v,h1,h2⟩:=h
    exact⟨0,_,_,by simp only[Ag,hv,ho,if_pos hg,hx,ok,h1,Option.map_some],(BN _ _ _).1 h2⟩
   ·cases h
  ·cases h
 case store sz a x=>
  simp only[Ib]at h
  split at h
  ·rename_i o g i off hv
   split at h
   ·rename_i g' es nn cl elems ho
    obtain⟨hg,y,hy,h⟩:=h
    rw[force_eq]at h
    obtain⟨h1,h2⟩:=h
    rw[Rx]at h2
    obtain⟨es',rfl,h2⟩:=h2
    rw[Dv]at h2
    exact⟨0,_,_,by simp only[Ag,hv,ho,if_pos hg,hy,h1,if_true],h2⟩
   ·cases h
  ·cases h
 case LK x=>
  simp only[Ib]at h
  split at h
  ·rename_i hv;exact⟨0,_,_,by simp only[Ag,hv],h⟩
  ·rename_i hv;exact⟨0,_,_,by simp only[Ag,hv],h⟩
  ·rename_i hv;exact⟨0,_,_,by simp only[Ag,hv],h⟩
  ·cases h
 case bin op t x y=>
  obtain⟨v,h1,h2⟩:=TW h
  exact⟨0,_,_,by simp only[Ag,ok,h1,Option.map_some],h2⟩
 case un op x=>
  simp only[Ib]at h
  split at h
  ·rename_i b hv
   cases b
   ·exact⟨0,_,_,by simp only[Ag,hv,Bool.not_false],h⟩
   ·exact⟨0,_,_,by simp only[Ag,hv,Bool.not_true],h⟩
  ·rename_i k n hv
   obtain⟨y,h1,h2⟩:=h
   exact⟨0,_,_,by simp only[Ag,hv,h1],h2⟩
  ·cases h
 case conv k x=>
  simp only[Ib]at h
  split at h
  ·rename_i k' n hv
   obtain⟨y,h1,h2⟩:=h
   exact⟨0,_,_,by simp only[Ag,hv,h1],h2⟩
  ·cases h
 case field off sz x=>
  simp only[Ib]at h
  split at h
  ·rename_i cs hv
   obtain⟨v,h1,h2⟩:=h
   exact⟨0,_,_,by simp only[Ag,hv,ok,h1,Option.map_some],(BN _ _ _).1 h2⟩
  ·cases h
 case NQ off x=>
  simp only[Ib]at h
  split at h
  ·rename_i hv;exact⟨0,_,_,by simp only[Ag,hv],h⟩
  ·rename_i hv;exact⟨0,_,_,by simp only[Ag,hv],h⟩
  ·cases h
 case NT es x i=>
  simp only[Ib]at h
  split at h
  ·rename_i nn xs k n hx hi
   obtain⟨h0,v,h1,h2,h3⟩:=h
   exact⟨0,_,_,by simp only[Ag,hx,hi,if_pos h0,h1,if_pos h2],h3⟩
  ·rename_i o g off len k n hx hi
   split at h
   ·rename_i g' es' nn cl elems ho
    obtain⟨h1,h2⟩:=h
    rw[Ry]at h2
    exact⟨0,_,_,by simp only[Ag,hx,hi,ho,if_pos h1],h2⟩
   ·cases h
  ·cases h
 case len k x=>
  simp only[Ib]at h
  split at h
  ·rename_i hv
   obtain⟨n,rfl,h⟩:=h
   exact⟨0,_,_,by simp only[Ag,hv],h⟩
  ·rename_i hv;exact⟨0,_,_,by simp only[Ag,hv],h⟩
  ·rename_i hv;exact⟨0,_,_,by simp only[Ag,hv],h⟩
  ·rename_i o g hv
   split at h
   ·rename_i g' cl ents ho
    obtain⟨h1,h2⟩:=h
    exact⟨0,_,_,by simp only[Ag,hv,ho,if_pos h1],h2⟩
   ·cases h
  ·rename_i hv;exact⟨0,_,_,by simp only[Ag,hv],h⟩
  ·exact GL h
 case TV x i=>
  simp only[Ib]at h
  split at h
  ·rename_i bs k n hx hi
   obtain⟨h1,b,h2,h3⟩:=h
   exact⟨0,_,_,by simp only[Ag,hx,hi,if_pos h1,h2],h3⟩
  ·cases h
 case slice es x lo hi=>
  simp only[Ib]at h
  split at h
  ·rename_i nn xs hx
   obtain⟨l,u,h1,h2,ys,rfl,h3⟩:=Hf h
   exact⟨0,_,_,by simp only[Ag,hx,h1,if_pos h2],h3⟩
  ·rename_i o g off len hx
   split at h
   ·rename_i g' es' nn cl elems ho
    obtain⟨hg,h⟩:=h
    obtain⟨l,u,h1,h2⟩:=Hf h
    rw[Ry]at h2
    exact⟨0,_,_,by simp only[Ag,hx,ho,if_pos hg,h1],h2⟩
   ·cases h
  ·exact GL h
 case I8 x lo hi=>
  simp only[Ib]at h
  split at h
  ·rename_i bs hx
   obtain⟨l,u,h1,r,rfl,h2⟩:=Hf h
   exact⟨0,_,_,by simp only[Ag,hx,h1],h2⟩
  ·cases h
 case Kw=>simp only[Ib]at h;exact⟨0,_,_,rfl,Fp.1 h⟩
 case lookup t z Nv m k=>
  simp only[Ib]at h
  split at h
  ·rename_i o g hv
   split at h
   ·rename_i g' cl ents ho
    obtain⟨h1,r,h2,h3⟩:=h
    cases r with
    |none=>
     cases Nv
     ·exact⟨0,_,_,by simp only[Ag,hv,ho,if_pos h1,h2];rfl,(BN _ _ _).1 h3⟩
     ·exact⟨0,_,_,by simp only[Ag,hv,ho,if_pos h1,h2];rfl,h3⟩
    |some p=>
     cases Nv
     ·exact⟨0,_,_,by simp only[Ag,hv,ho,if_pos h1,h2];rfl,(BN _ _ _).1 h3⟩
     ·exact⟨0,_,_,by simp only[Ag,hv,ho,if_pos h1,h2];rfl,h3⟩
   ·cases h
  ·rename_i ents hv
   obtain⟨h1,r,h2,h3⟩:=h
   cases r with
   |none=>
    cases Nv
    ·exact⟨0,_,_,by simp only[Ag,hv,if_pos h1,h2];rfl,(BN _ _ _).1 h3⟩
    ·exact⟨0,_,_,by simp only[Ag,hv,if_pos h1,h2];rfl,h3⟩
   |some p=>
    cases Nv
    ·exact⟨0,_,_,by simp only[Ag,hv,if_pos h1,h2];rfl,(BN _ _ _).1 h3⟩
    ·exact⟨0,_,_,by simp only[Ag,hv,if_pos h1,h2];rfl,h3⟩
  ·exact GL h
 case mapset t m k v=>
  simp only[Ib]at h
  split at h
  ·rename_i o g hv
   split at h
   ·rename_i g' cl ents ho
    rw[force_eq]at h
    obtain⟨h1,h2⟩:=h
    rw[Rx]at h2
    obtain⟨r,h2,h3⟩:=h2
    rw[Dv]at h3
    cases r with
    |none=>exact⟨0,_,_,by simp only[Ag,hv,ho,if_pos h1,h2];rfl,h3⟩
    |some p=>exact⟨0,_,_,by simp only[Ag,hv,ho,if_pos h1,h2];rfl,h3⟩
   ·cases h
  ·cases h
 case delete t m k=>
  simp only[Ib]at h
  split at h
  ·rename_i o g hv
   split at h
   ·rename_i g' cl ents ho
    obtain⟨h1,r,h2,h3⟩:=h
    cases r with
    |none=>exact⟨0,_,_,by simp only[Ag,hv,ho,if_pos h1,h2],h3⟩
    |some p=>
     simp only at h3
     rw[Dv]at h3
     exact⟨0,_,_,by simp only[Ag,hv,ho,if_pos h1,h2],h3⟩
   ·cases h
  ·cases h
 case lit own es z len parts=>
  simp only[Ib,PV]at h
  obtain⟨h1,h2⟩:=h
  rw[Fe]at h2
  cases own
  ·rw[cond_false]at h2
   cases hb:Nat.beq len 0
   ·rw[hb,cond_false]at h2
    have hne:len≠0:=fun e=>by subst e;simp at hb
    exact⟨0,_,_,by simp only[Ag,if_pos h1,if_neg hne,if_pos h2.1];rfl,h2.2⟩
   ·rw[hb,cond_true]at h2
    have he:len=0:=Nat.eq_of_beq_eq_true hb
    exact⟨0,_,_,by simp only[Ag,if_pos h1,if_pos he];rfl,h2⟩
  ·rw[cond_true,TY]at h2
   exact⟨0,_,_,by simp only[Ag,if_pos h1,if_true],Fp.1 h2⟩
 case append es bytes a x=>
  simp only[Ib]at h
  obtain⟨ys,cl,h1,h⟩:=QA h
  split at h
  ·rename_i o g len hv
   split at h
   ·rename_i g' es' nn cl' elems ho
    obtain⟨h2,h3⟩:=h
    rw[Dv]at h3
    exact⟨0,_,_,by simp only[Ag,h1,hv,EH,ho,if_pos h2,Option.map_some],h3⟩
   ·cases h
  ·obtain⟨⟨v,s'⟩,h2,h3⟩:=h
   exact⟨0,_,_,by simp only[Ag,h1,h2,Option.map_some],(BN _ _ _).1 h3⟩
 case F7 es bytes z len cap=>
  simp only[Ib]at h
  split at h
  ·rename_i k l k' c hl hc
   obtain⟨h1,xs,rfl,h2⟩:=h
   exact⟨0,_,_,by simp only[Ag,hl,hc,if_pos h1],Fp.1 h2⟩
  ·cases h
 case ext x i=>
  simp only[Ib]at h
  split at h
  ·rename_i cs hv
   obtain⟨v,h1,h2⟩:=h
   exact⟨0,_,_,by simp only[Ag,hv,ok,h1,Option.map_some],(BN _ _ _).1 h2⟩
  ·cases h
 case call m f args=>exact MG h
 case Fj m x args=>
  simp only[Ib]at h
  split at h
  ·rename_i f caps hv
   obtain⟨N,out,s',h1,h2⟩:=MG h
   exact⟨N,out,s',by simp only[Ag,hv];exact h1,h2⟩
  ·cases h
 all_goals exact GL h
end AI
end Go.Proofs.YtegcpbncohoflaaGreatDoor
namespace Go.Proofs.YtegcpbncohoflaaGreatDoor
namespace AI
open Go.RowKit
variable {AP:Nat→Option IJ}
def Ej (g:Option (Nat×Bool)) (env:Env) (t e:Prop):Prop:=match g with
 |none=>t
 |some (r,b)=>match env.get r with
  | .bool b'=>IG (b'==b) t e
  | .undef=>e
  |_=>False
def Xl (k:Env→Aj→Prop) (d:Option Nat) (env:Env) (Q:AQ→Env→Aj→Prop) (out:Aw) (s:Aj):Prop:=match out with
 | .ok v=>k (put d v env) s
 | .DL v=>Q (.DL v) env s
def Rz (AP:Nat→Option IJ) (ops:List Am):Env→Aj→(AQ→Env→Aj→Prop)→Prop:=
 List.rec (motive:=fun _=>Env→Aj→(AQ→Env→Aj→Prop)→Prop) (fun env s Q=>Q .normal env s)
    (fun o _ ih env s Q=>Ej o.guard env (Ib AP o.op env s (Xl (fun env s=>ih env s Q) o.dst env Q)) (ih (put o.dst .undef env) s Q)) ops
theorem VD (o:Am) (os:List Am) (env:Env) (s:Aj) (Q:AQ→Env→Aj→Prop):Rz AP (o::os) env s Q=Ej o.guard env
 (Ib AP o.op env s (Xl (fun env s=>Rz AP os env s Q) o.dst env Q))
 (Rz AP os (put o.dst .undef env) s Q):=rfl
theorem Ig:∀{os:List Am} {env:Env} {s:Aj} {Q:AQ→Env→Aj→Prop},Rz AP os env s Q→Ops AP os env s Q
 |[],env,s,Q,h=>⟨0,_,_,_,rfl,h⟩
 |o::os,env,s,Q,h=>by
  have I9:wanted o.guard env=some false→Rz AP os (put o.dst .undef env) s Q→Ops AP (o::os) env s Q:=by
   intro hw h
   obtain⟨N,e,env',s',h1,h2⟩:=Ig h
   exact⟨N,e,env',s',by simp only[CJ,hw];exact h1,h2⟩
  have hdo:wanted o.guard env=some true→Ib AP o.op env s (Xl (fun env s=>Rz AP os env s Q) o.dst env Q)→Ops AP (o::os) env s Q:=by
   intro hw h
   obtain⟨N,out,s1,h1,h2⟩:=Gm h
   cases out with
   |ok v=>
    obtain⟨N',e,env',s',h3,h4⟩:=Ig h2
    refine⟨max N N',e,env',s',?_,h4⟩
    simp only[CJ,hw,Bz (Bf (Nat.le_max_left N N')) h1]
    exact DX (Bf (Nat.le_max_right N N')) h3
   |DL v=>exact⟨N,_,_,_,by simp only[CJ,hw,h1],h2⟩
  rw[VD]at h
  unfold Ej at h
  split at h
  ·rename_i hg
   exact hdo (by rw[hg];rfl) h
  ·rename_i r b hg
   split at h
   ·rename_i b' hb
    cases hbb:(b'==b)
    ·rw[hbb]at h
     exact I9 (by rw[hg];simp only[wanted,hb,hbb]) h
    ·rw[hbb]at h
     exact hdo (by rw[hg];simp only[wanted,hb,hbb]) h
   ·rename_i hb
    exact I9 (by rw[hg];simp only[wanted,hb]) h
   ·cases h
def Ih:List Nat→Env→(Env→Prop)→Prop
 |[],_,K=>K []
 |t::ts,env,K=>(env.get t).force fun v=>Ih ts env fun e=>K ((t,v)::e)
theorem DY:∀(ts:List Nat) (env:Env) (K:Env→Prop),Ih ts env K↔K (commit env ts)
 |[],_,_=>Iff.rfl
 |t::ts,env,K=>by
  simp only[Ih,force_eq,commit]
  exact DY ts env _
def NZ:List Nat→Env→Aj→(Env→Aj→Prop)→Prop
 |[],env,s,K=>K env s
 |t::ts,env,s,K=>match env.get t with
  | .own o g off len=>match nth s.σ o with
    |some (.arr g' _ nn cl elems)=>need (g=g'∧cl=true∧off+len≤elems.length) (eqK (sub elems off len) fun xs=>LG s.σ o .dead fun σ=>NZ ts ((t,.sl nn xs)::env) ⟨σ,s.ctr⟩ K)
    |_=>False
  | .ref o g i off=>match nth s.σ o with
    |some (.arr g' _ nn cl elems)=>match cl,elems with
     |false,[x]=>match Jw x.cells 0 with
      |some (k,o2,g2,a2,n2)=>match nth s.σ o2 with
       |some (.arr g3 _ YH cl3 Gs)=>need ((g=g'∧i=0∧off=0∧g2=g3∧o2≠o∧a2+n2≤Gs.length∧cl3=true)∧Dj (x.cells.set k (.sl YH (sub Gs a2 n2)))=true) (eqK (sub Gs a2 n2) fun xs=>LG s.σ o2 .dead fun σ1=>LG σ1 o .dead fun σ2=>NZ ts ((t,.Ci (x.cells.set k (.sl YH xs)))::env) ⟨σ2,s.ctr⟩ K)
       |_=>False
      |none=>False
     |cl,elems=>need (g=g'∧cl=true) (Rt elems i fun x=>LG s.σ o .dead fun σ=>NZ ts ((t,.Ci (x.cells.drop off))::env) ⟨σ,s.ctr⟩ K)
    |_=>False
  | .map o g=>match nth s.σ o with
    |some (.mp g' cl ents)=>need (g=g'∧cl=true∧RD ents=true) (LG s.σ o .dead fun σ=>NZ ts ((t,.fmap ents)::env) ⟨σ,s.ctr⟩ K)
    |_=>False
  | .sl nn xs=>NZ ts ((t,.sl nn xs)::env) s K
  | .zc=>NZ ts ((t,.zc)::env) s K
  |_=>False
theorem Dn:∀{ts:List Nat} {env:Env} {s:Aj} {K:Env→Aj→Prop},NZ ts env s K→∃env' s',EI ts env s=some (env',s')∧K env' s'
 |[],env,s,K,h=>⟨env,s,rfl,h⟩
 |t::ts,env,s,K,h=>by
  simp only[NZ]at h
  split at h
  ·rename_i o g off len hv
   split at h
   ·rename_i g' es nn cl elems ho
    obtain⟨⟨rfl,rfl,hf⟩,xs,rfl,h⟩:=h
    rw[Dv]at h
    obtain⟨env',s',h1,h2⟩:=Dn h
    exact⟨env',s',by simp only[EI,hv,ho,true_and,if_pos hf];exact h1,h2⟩
   ·cases h
  ·rename_i o g i off hv
   split at h
   ·rename_i g' es nn cl elems ho
    split at h
    ·rename_i x
     split at h
     ·rename_i k o2 g2 a2 n2 hoc
      split at h
      ·rename_i g3 es3 YH cl3 Gs ho2
       obtain⟨⟨⟨hq1,hq2,hq3,hq4,hq5,hq6,rfl⟩,hcl⟩,xs,rfl,h⟩:=h
       rw[Dv,Dv]at h
       obtain⟨env',s',h1,h2⟩:=Dn h
       refine⟨env',s',?_,h2⟩
       simp only[EI,hv,ho,hoc,ho2]
       rw[if_pos ⟨hq1,hq2,hq3,hq4,hq5,hq6,hcl⟩]
       exact h1
      ·cases h
     ·cases h
    ·obtain⟨⟨rfl,rfl⟩,⟨x,hx,h⟩⟩:=h
     rw[Dv]at h
     obtain⟨env',s',h1,h2⟩:=Dn h
     exact⟨env',s',by simp only[EI,hv,ho,if_pos,hx];exact h1,h2⟩
   ·cases h
  ·rename_i o g hv
   split at h
   ·rename_i g' cl ents ho
    obtain⟨⟨rfl,rfl,hk⟩,h⟩:=h
    rw[Dv]at h
    obtain⟨env',s',h1,h2⟩:=Dn h
    exact⟨env',s',by simp only[EI,hv,ho,true_and,if_pos hk];exact h1,h2⟩
   ·cases h
  ·rename_i nn xs hv
   obtain⟨env',s',h1,h2⟩:=Dn h
   exact⟨env',s',by simp only[EI,hv];exact h1,h2⟩
  ·rename_i hv
   obtain⟨env',s',h1,h2⟩:=Dn h
   exact⟨env',s',by simp only[EI,hv];exact h1,h2⟩
  ·cases h
def PW {α:Type}:Nat→List α→(List α→Prop)→Prop
 |0,_,K=>K []
 |_+1,[],K=>K []
 |n+1,x::xs,K=>PW n xs fun ys=>K (x::ys)
theorem LM {α:Type}:∀(n:Nat) (l:List α) (K:List α→Prop),PW n l K↔K (l.take n)
 |0,_,_=>by simp[PW]
 |_+1,[],_=>by simp[PW]
 |n+1,x::xs,K=>LM n xs fun ys=>K (x::ys)
def Xm (tr:Option Nat) (s:Aj) (K:Aj→Prop):Prop:=match tr with
 |none=>K s
 |some k=>PW (kept k s.σ.length) s.σ fun σ=>K ⟨σ,s.ctr⟩
theorem JL (tr:Option Nat) (s:Aj) (K:Aj→Prop):Xm tr s K↔K (truncate tr s):=by
 cases tr with
 |none=>exact Iff.rfl
 |some k=>exact LM _ s.σ _
def Xn (live:List Nat) (tr:Option Nat) (Q:AQ→Env→Aj→Prop) (e:AQ) (env:Env) (s:Aj):Prop:=match e with
 | .normal=>Ih live env fun env=>Xm tr s fun s=>Q .normal env s
 |e=>Q e env s
def Ady (k:Env→Aj→Prop) (Q:AQ→Env→Aj→Prop) (e:AQ) (env:Env) (s:Aj):Prop:=match e with
 | .normal=>k env s
 |e=>Q e env s
def AbW (id:Nat) (Q:AQ→Env→Aj→Prop) (e:AQ) (env:Env) (s:Aj):Prop:=match e with
 | .exit j=>IG (Nat.beq j id) (Q .normal env s) (Q (.exit j) env s)
 |e=>Q e env s
def QC (AP:Nat→Option IJ) (o:BG) (r g:Nat) (env:Env) (s:Aj) (K:AV→Option (Nat×Obj)→Nat→Prop):Prop:=
 Ib AP o env s fun out s'=>match out with
    | .DL _=>False
    | .ok v=>match o.cls with
      |some .e=>K v none 0
      |some .r=>K v none 0
      |some .w=>match o.writes r env with
       |[t]=>match nth s'.σ t with
        |some ob=>K v (some (t,ob)) 0
        |none=>False
       |_=>False
      |some .a=>match nth s'.σ v.idx with
       |some ob=>bif Nat.blt v.idx s.σ.length then K (v.moved v.idx g) (some (v.idx,ob.MH g)) 1
        else match nth s.σ r with
           |some .dead=>K (v.moved r g) (some (r,ob.MH g)) 1
           |_=>False
       |none=>False
      |none=>False
theorem QD {o:BG} {r g:Nat} {env:Env} {s:Aj} {K:AV→Option (Nat×Obj)→Nat→Prop} (h:QC AP o r g env s K):∃N v u b,Gt (run AP N) o r g env s=some (v,u,b)∧K v u b:=by
 obtain⟨N,out,s',h1,h2⟩:=Gm h
 cases out with
 |DL v=>cases h2
 |ok v=>
  simp only at h2
  split at h2
  ·rename_i hc;exact⟨N,_,_,_,by simp only[Gt,hc,h1],h2⟩
  ·rename_i hc;exact⟨N,_,_,_,by simp only[Gt,hc,h1],h2⟩
  ·rename_i hc
   split at h2
   ·rename_i t ht
    split at h2
    ·rename_i ob hob;exact⟨N,_,_,_,by simp only[Gt,hc,h1,ht,hob],h2⟩
    ·cases h2
   ·cases h2
  ·rename_i hc
   split at h2
   ·rename_i ob hob
    cases hb:Nat.blt v.idx s.σ.length
    ·rw[hb,cond_false]at h2
     have hlt:¬v.idx<s.σ.length:=fun hlt=>by
      have:=(show (Nat.blt v.idx s.σ.length=true) from Nat.blt_eq▸hlt)
      rw[hb]at this;cases this
     split at h2
     ·rename_i hd
      exact⟨N,_,_,_,by simp only[Gt,hc,h1,hob,if_neg hlt,hd],h2⟩
     ·cases h2
    ·rw[hb,cond_true]at h2
     exact⟨N,_,_,_,by simp only[Gt,hc,h1,hob,if_pos (show v.idx<s.σ.length from Nat.blt_eq▸hb)],h2⟩
   ·cases h2
  ·cases h2
def Jy (u:Option (Nat×Obj)) (b:Nat) (s:Aj) (K:Aj→Prop):Prop:=match u with
 |some (t,ob)=>LG s.σ t ob fun σ=>K ⟨σ,s.ctr+b⟩
 |none=>K ⟨s.σ,s.ctr+b⟩
theorem MI (u:Option (Nat×Obj)) (b:Nat) (s:Aj) (K:Aj→Prop):Jy u b s K↔K (DZ u b s):=by
 unfold Jy DZ
 split
 ·exact Dv _ _ _ _
 ·exact Iff.rfl
def Ub (AP:Nat→Option IJ) (ops:List Am):Nat→Nat→Env→Aj→(List Eff→Prop)→Prop:=
 List.rec (motive:=fun _=>Nat→Nat→Env→Aj→(List Eff→Prop)→Prop) (fun _ _ _ _ K=>K [])
    (fun o _ ih r g env s K=>Ej o.guard env
      (QC AP o.op r g env s fun v u b=>Jy u b s fun s'=>ih (r+rank o.op) (g+1) (put o.dst v env) s' fun es=>K (⟨o.dst,v,o.op.reads r env,o.op.writes r env,u,b⟩::es))
      (ih (r+rank o.op) (g+1) (put o.dst .undef env) s fun es=>K (⟨o.dst,.undef,[],[],none,0⟩::es))) ops
theorem VE (o:Am) (os:List Am) (r g:Nat) (env:Env) (s:Aj) (K:List Eff→Prop):Ub AP (o::os) r g env s K=Ej o.guard env
 (QC AP o.op r g env s fun v u b=>Jy u b s fun s'=>Ub AP os (r+rank o.op) (g+1) (put o.dst v env) s' fun es=>K (⟨o.dst,v,o.op.reads r env,o.op.writes r env,u,b⟩::es))
 (Ub AP os (r+rank o.op) (g+1) (put o.dst .undef env) s fun es=>K (⟨o.dst,.undef,[],[],none,0⟩::es)):=rfl
theorem JM:∀{os:List Am} {r g:Nat} {env:Env} {s:Aj} {K:List Eff→Prop},Ub AP os r g env s K→∃N es,FP (run AP N) os r g env s=some es∧K es
 |[],r,g,env,s,K,h=>⟨0,_,rfl,h⟩
 |o::os,r,g,env,s,K,h=>by
  have I9:wanted o.guard env=some false→(Ub AP os (r+rank o.op) (g+1) (put o.dst .undef env) s fun es=>K (⟨o.dst,.undef,[],[],none,0⟩::es))→∃N es,FP (run AP N) (o::os) r g env s=some es∧K es:=by
   intro hw h
   obtain⟨N,es,h1,h2⟩:=JM h
   exact⟨N,_,by simp only[FP,hw,h1],h2⟩
  have hdo:wanted o.guard env=some true→(QC AP o.op r g env s fun v u b=>Jy u b s fun s'=>Ub AP os (r+rank o.op) (g+1) (put o.dst v env) s' fun es=>K (⟨o.dst,v,o.op.reads r env,o.op.writes r env,u,b⟩::es))→∃N es,FP (run AP N) (o::os) r g env s=some es∧K es:=by
   intro hw h
   obtain⟨N,v,u,b,h1,h2⟩:=QD h
   rw[MI]at h2
   obtain⟨N',es,h3,h4⟩:=JM h2
   refine⟨max N N',_,?_,h4⟩
   simp only[FP,hw,N7 (Bf (Nat.le_max_left N N')) h1,Gu (Bf (AP:=AP) (Nat.le_max_right N N')) h3]
  rw[VE]at h
  unfold Ej at h
  split at h
  ·rename_i hg
   exact hdo (by rw[hg];rfl) h
  ·rename_i r' b hg
   split at h
   ·rename_i b' hb
    cases hbb:(b'==b)
    ·rw[hbb]at h
     exact I9 (by rw[hg];simp only[wanted,hb,hbb]) h
    ·rw[hbb]at h
     exact hdo (by rw[hg];simp only[wanted,hb,hbb]) h
   ·rename_i hb
    exact I9 (by rw[hg];simp only[wanted,hb]) h
   ·cases h
def UD {α:Type}:List α→List α→(List α→Prop)→Prop
 |[],ys,K=>K ys
 |x::xs,ys,K=>UD xs ys fun r=>K (x::r)
theorem Lu {α:Type}:∀(xs ys:List α) (K:List α→Prop),UD xs ys K↔K (xs++ys)
 |[],_,_=>Iff.rfl
 |x::xs,ys,K=>Lu xs ys _
def Nw:List Eff→Aj→(Aj→Prop)→Prop
 |[],s,K=>K s
 |e::es,s,K=>Jy e.upd e.bump s fun s=>Nw es s K
theorem MJ:∀(es:List Eff) (s:Aj) (K:Aj→Prop),Nw es s K↔K (Ja es s)
 |[],_,_=>Iff.rfl
 |e::es,s,K=>by rw[Nw,MI,Ja];exact MJ es _ K
def Aaq (n:Nat) (σ:List Obj) (K:List Obj→Prop):Prop:=match n with
 |0=>K σ
 |n+1=>UD σ (List.replicate (n+1) .dead) K
theorem Xo (n:Nat) (σ:List Obj) (K:List Obj→Prop):Aaq n σ K↔K (σ++List.replicate n .dead):=by
 cases n with
 |zero=>simp[Aaq]
 |succ n=>exact Lu _ _ _
def RF {α:Type}:Nat→List α→(List α→Prop)→Prop
 |0,xs,K=>K xs
 |_+1,[],K=>K []
 |n+1,_::xs,K=>RF n xs K
theorem PX {α:Type}:∀(n:Nat) (l:List α) (K:List α→Prop),RF n l K↔K (l.drop n)
 |0,_,_=>by simp[RF]
 |_+1,[],_=>by simp[RF]
 |n+1,_::xs,K=>PX n xs K
def Xp (AP:Nat→Option IJ) (m:Nat) (un:List (Nat×Nat)) (ops:List Am) (env:Env) (s:Aj) (K:Env→Aj→Prop):Prop:=
 PW m ops fun hd=>Aaq (ranks hd) s.σ fun σ=>Ub AP hd s.σ.length s.ctr env ⟨σ,s.ctr+m⟩ fun es=>
    need (Hr es un=true) (Nw es ⟨σ,s.ctr+m⟩ fun s1=>K (JO es env) s1)
theorem RG {m:Nat} {un:List (Nat×Nat)} {ops:List Am} {env:Env} {s:Aj} {K:Env→Aj→Prop} (h:Xp AP m un ops env s K):∃N Bv s1,Jb (run AP N) m un ops env s=some (Bv,s1)∧K Bv s1:=by
 unfold Xp at h
 rw[LM,Xo]at h
 obtain⟨N,es,h1,h2,h3⟩:=JM h
 rw[MJ]at h3
 exact⟨N,_,_,by simp only[Jb,h1,if_pos h2],h3⟩
def Xq (AP:Nat→Option IJ) (op:BG) (env:Env) (v:AV):List Aj→Prop→Prop
 |[],T=>T
 |S::r,T=>Ib AP op env S fun out _=>match out with
  | .ok u=>need (GI u v=true) (Xq AP op env v r T)
  | .DL _=>False
def Xr (AP:Nat→Option IJ) (S:Aj):List (BG×Env×AV)→Prop→Prop
 |[],T=>T
 |(op,env,v)::r,T=>Ib AP op env S fun out _=>match out with
  | .ok u=>need (GI u v=true) (Xr AP S r T)
  | .DL _=>False
theorem MK {op:BG} {env:Env} {v:AV}:∀{past:List Aj} {T:Prop},Xq AP op env v past T→(∃ N,Ii (run AP N) op env v past=true)∧T
 |[],T,h=>⟨⟨0,rfl⟩,h⟩
 |S::r,T,h=>by
  obtain⟨N,out,s',h1,h2⟩:=Gm h
  cases out with
  |DL u=>exact h2.elim
  |ok u=>
   obtain⟨h3,h4⟩:=h2
   obtain⟨⟨N',h5⟩,h6⟩:=MK h4
   refine⟨⟨max N N',?_⟩,h6⟩
   simp only[Ii,Bz (Bf (Nat.le_max_left N N')) h1,h3,GU (Bf (Nat.le_max_right N N')) h5,Bool.and_self]
theorem ML {S:Aj}:∀{pend:List (BG×Env×AV)} {T:Prop},Xr AP S pend T→(∃ N,Ij (run AP N) S pend=true)∧T
 |[],T,h=>⟨⟨0,rfl⟩,h⟩
 |(op,env,v)::r,T,h=>by
  obtain⟨N,out,s',h1,h2⟩:=Gm h
  cases out with
  |DL u=>exact h2.elim
  |ok u=>
   obtain⟨h3,h4⟩:=h2
   obtain⟨⟨N',h5⟩,h6⟩:=ML h4
   refine⟨⟨max N N',?_⟩,h6⟩
   simp only[Ij,Bz (Bf (Nat.le_max_left N N')) h1,h3,GX (Bf (Nat.le_max_right N N')) h5,Bool.and_self]
def Jc (AP:Nat→Option IJ) (E:List Nat) (ops:List Am):Nat→Env→Aj→Prop→Prop:=
 List.rec (motive:=fun _=>Nat→Env→Aj→Prop→Prop) (fun _ _ _ T=>T)
    (fun o _ ih i env s T=>bif CQ i E then Ej o.guard env
      (Ib AP o.op env s fun out _=>match out with
        | .ok v=>bif flt o then ih (i+1) (put o.dst v env) s T else False
        | .DL _=>False)
      (ih (i+1) (put o.dst .undef env) s T)
      else ih (i+1) env s T) ops
theorem RH (E:List Nat) (o:Am) (os:List Am) (i:Nat) (env:Env) (s:Aj) (T:Prop):Jc AP E (o::os) i env s T=bif CQ i E then Ej o.guard env
        (Ib AP o.op env s fun out _=>match out with
          | .ok v=>bif flt o then Jc AP E os (i+1) (put o.dst v env) s T else False
          | .DL _=>False)
        (Jc AP E os (i+1) (put o.dst .undef env) s T)
 else Jc AP E os (i+1) env s T:=rfl
theorem F9 {E:List Nat}:∀{os:List Am} {i:Nat} {env:Env} {s:Aj} {T:Prop},Jc AP E os i env s T→(∃ N,Dp (run AP N) E os i env s=true)∧T
 |[],i,env,s,T,h=>⟨⟨0,rfl⟩,h⟩
 |o::os,i,env,s,T,h=>by
  rw[RH]at h
  cases hm:CQ i E with
  |false=>
   rw[hm,cond_false]at h
   obtain⟨⟨N,h1⟩,h2⟩:=F9 h
   exact⟨⟨N,by simp only[Dp,hm,Bool.false_eq_true,if_false];exact h1⟩,h2⟩
  |true=>
   rw[hm,cond_true]at h
   have I9:wanted o.guard env=some false→Jc AP E os (i+1) (put o.dst .undef env) s T→(∃ N,Dp (run AP N) E (o::os) i env s=true)∧T:=by
        intro hw h
        obtain⟨⟨N,h1⟩,h2⟩:=F9 h
        exact⟨⟨N,by simp only[Dp,hm,if_true,hw];exact h1⟩,h2⟩
   have hdo:wanted o.guard env=some true→(Ib AP o.op env s fun out _=>match out with
    | .ok v=>bif flt o then Jc AP E os (i+1) (put o.dst v env) s T else False
    | .DL _=>False)→(∃ N,Dp (run AP N) E (o::os) i env s=true)∧T:=by
        intro hw h
        obtain⟨N,out,s1,h1,h2⟩:=Gm h
        cases out with
        |DL v=>exact h2.elim
        |ok v=>
         dsimp only at h2
         cases hf:flt o with
         |false=>rw[hf]at h2;exact h2.elim
         |true=>
          rw[hf,cond_true]at h2
          obtain⟨⟨N',h3⟩,h4⟩:=F9 h2
          refine⟨⟨max N N',?_⟩,h4⟩
          simp only[Dp,hm,if_true,hw,Bz (Bf (AP:=AP) (Nat.le_max_left N N')) h1,hf,D6 (Bf (AP:=AP) (Nat.le_max_right N N')) h3,Bool.and_self]
   unfold Ej at h
   split at h
   ·rename_i hg
    exact hdo (by rw[hg];rfl) h
   ·rename_i r b hg
    split at h
    ·rename_i b' hb
     cases hbb:(b'==b)
     ·rw[hbb]at h
      exact I9 (by rw[hg];simp only[wanted,hb,hbb]) h
     ·rw[hbb]at h
      exact hdo (by rw[hg];simp only[wanted,hb,hbb]) h
    ·rename_i hb
     exact I9 (by rw[hg];simp only[wanted,hb]) h
    ·cases h
def RI (AP:Nat→Option IJ) (m:Nat) (W pc:List Nat) (o:Am) (os:List Am) (i:Nat) (k:Env→Aj→List (BG×Env×AV)→List Aj→Prop) (Q:AQ→Env→Aj→Prop) (env:Env) (s:Aj) (pend:List (BG×Env×AV)) (past:List Aj) (out:Aw) (s1:Aj):Prop:=match out with
 | .DL v=>match pc with
   |p::E=>bif Nat.beq i p&&!(CQ i W||(flt o||Nat.blt i m))then Jc AP E os (i+1) env s (Q (.DL v) [] s1)else False
   |[]=>False
 | .ok v=>bif CQ i W then bif o.op.Ea then Xq AP o.op env v past (k (put o.dst v env) s ((o.op,env,v)::pend) past)else False
   else bif flt o||Nat.blt i m then k (put o.dst v env) s pend past
   else Xr AP s1 pend (k (put o.dst v env) s1 pend (s::past))
def Uc (AP:Nat→Option IJ) (m:Nat) (W pc:List Nat) (ops:List Am):Nat→Env→Aj→List (BG×Env×AV)→List Aj→(AQ→Env→Aj→Prop)→Prop:=
 List.rec (motive:=fun _=>Nat→Env→Aj→List (BG×Env×AV)→List Aj→(AQ→Env→Aj→Prop)→Prop) (fun _ env s _ _ K=>K .normal env s)
    (fun o os ih i env s pend past K=>Ej o.guard env (Ib AP o.op env s (RI AP m W pc o os i (fun env s pend past=>ih (i+1) env s pend past K) K env s pend past))
      (ih (i+1) (put o.dst .undef env) s pend past K)) ops
theorem VG (m:Nat) (W pc:List Nat) (o:Am) (os:List Am) (i:Nat) (env:Env) (s:Aj) (pend:List (BG×Env×AV)) (past:List Aj) (K:AQ→Env→Aj→Prop):Uc AP m W pc (o::os) i env s pend past K=Ej o.guard env
 (Ib AP o.op env s (RI AP m W pc o os i (fun env s pend past=>Uc AP m W pc os (i+1) env s pend past K) K env s pend past))
 (Uc AP m W pc os (i+1) (put o.dst .undef env) s pend past K):=rfl
theorem Gv {m:Nat} {W pc:List Nat}:∀{os:List Am} {i:Nat} {env:Env} {s:Aj} {pend:List (BG×Env×AV)} {past:List Aj} {K:AQ→Env→Aj→Prop},Uc AP m W pc os i env s pend past K→∃N x env' s',Ez (run AP N) m W pc os i env s pend past=some (x,env',s')∧K x env' s'
 |[],i,env,s,pend,past,K,h=>⟨0,_,_,_,rfl,h⟩
 |o::os,i,env,s,pend,past,K,h=>by
  have I9:wanted o.guard env=some false→Uc AP m W pc os (i+1) (put o.dst .undef env) s pend past K→∃N x env' s',Ez (run AP N) m W pc (o::os) i env s pend past=some (x,env',s')∧K x env' s':=by
   intro hw h
   obtain⟨N,x,env',s',h1,h2⟩:=Gv h
   exact⟨N,x,env',s',by simp only[Ez,hw];exact h1,h2⟩
  have hdo:wanted o.guard env=some true→Ib AP o.op env s (RI AP m W pc o os i (fun env s pend past=>Uc AP m W pc os (i+1) env s pend past K) K env s pend past)→∃N x env' s',Ez (run AP N) m W pc (o::os) i env s pend past=some (x,env',s')∧K x env' s':=by
   intro hw h
   obtain⟨N,out,s1,h1,h2⟩:=Gm h
   cases out with
   |DL v=>
    simp only[RI]at h2
    cases pc with
    |nil=>exact h2.elim
    |cons p E=>
     dsimp only at h2
     cases hc:(Nat.beq i p&&!(CQ i W||(flt o||Nat.blt i m)))with
     |false=>rw[hc]at h2;exact h2.elim
     |true=>
      rw[hc,cond_true]at h2
      obtain⟨⟨N1,h3⟩,h4⟩:=F9 h2
      refine⟨max N N1,_,_,_,?_,h4⟩
      simp only[Ez,hw,Bz (Bf (AP:=AP) (Nat.le_max_left N N1)) h1,hc,D6 (Bf (AP:=AP) (Nat.le_max_right N N1)) h3,Bool.and_self,if_true]
   |ok v=>
    simp only[RI]at h2
    cases hm:CQ i W with
    |true=>
     rw[hm,cond_true]at h2
     cases hp:o.op.Ea with
     |false=>rw[hp]at h2;exact h2.elim
     |true=>
      rw[hp,cond_true]at h2
      obtain⟨⟨N1,h3⟩,h4⟩:=MK h2
      obtain⟨N2,x,env',s',h5,h6⟩:=Gv h4
      refine⟨max N (max N1 N2),x,env',s',?_,h6⟩
      simp only[Ez,hw,Bz (Bf (AP:=AP) (Nat.le_max_left N (max N1 N2))) h1,hm,hp,GU (Bf (AP:=AP) (show N1≤max N (max N1 N2) by omega)) h3,Bool.and_self,if_true]
      exact Dq (Bf (show N2≤max N (max N1 N2) by omega)) h5
    |false=>
     rw[hm,cond_false]at h2
     cases hf:(flt o||Nat.blt i m)with
     |true=>
      rw[hf,cond_true]at h2
      obtain⟨N2,x,env',s',h5,h6⟩:=Gv h2
      refine⟨max N N2,x,env',s',?_,h6⟩
      simp only[Ez,hw,Bz (Bf (AP:=AP) (Nat.le_max_left N N2)) h1,hm,hf,if_true,Bool.false_eq_true,if_false]
      exact Dq (Bf (Nat.le_max_right N N2)) h5
     |false=>
      rw[hf,cond_false]at h2
      obtain⟨⟨N1,h3⟩,h4⟩:=ML h2
      obtain⟨N2,x,env',s',h5,h6⟩:=Gv h4
      refine⟨max N (max N1 N2),x,env',s',?_,h6⟩
      simp only[Ez,hw,Bz (Bf (AP:=AP) (Nat.le_max_left N (max N1 N2))) h1,hm,hf,GX (Bf (AP:=AP) (show N1≤max N (max N1 N2) by omega)) h3,if_true,Bool.false_eq_true,if_false]
      exact Dq (Bf (show N2≤max N (max N1 N2) by omega)) h5
  rw[VG]at h
  unfold Ej at h
  split at h
  ·rename_i hg
   exact hdo (by rw[hg];rfl) h
  ·rename_i r b hg
   split at h
   ·rename_i b' hb
    cases hbb:(b'==b)
    ·rw[hbb]at h
     exact I9 (by rw[hg];simp only[wanted,hb,hbb]) h
    ·rw[hbb]at h
     exact hdo (by rw[hg];simp only[wanted,hb,hbb]) h
   ·rename_i hb
    exact I9 (by rw[hg];simp only[wanted,hb]) h
   ·cases h
def Xt (v:AV) (A B:Prop):Prop:=match v with
 | .bool c=>IG c A B
 |_=>False
def vC (AP:Nat→Option IJ) (c:C9):Env→Aj→(AQ→Env→Aj→Prop)→Prop:=
 C9.rec (motive:=fun _=>Env→Aj→(AQ→Env→Aj→Prop)→Prop)
    (fun env s Q=>Q .normal env s)
    (fun _ H8 ops live tr env s Q=>NZ H8 env s fun env s=>Rz AP ops env s (Xn live tr Q))
    (fun m un H8 ops live tr env s Q=>NZ H8 env s fun env s=>Xp AP m un ops env s fun Bv s1=>RF m ops fun tl=>Rz AP tl Bv s1 (Xn live tr Q))
    (fun m W pc H8 ops live tr env s Q=>NZ H8 env s fun env s=>Uc AP m W pc ops 0 env s [] [] (Xn live tr Q))
    (fun _ _ iha ihb env s Q=>iha env s (Ady (fun env s=>ihb env s Q) Q))
    (fun c _ _ iha ihb env s Q=>Xt (c.val env) (iha env s Q) (ihb env s Q))
    (fun id _ iha env s Q=>iha env s (AbW id Q))
    (fun live a _ env s Q=>Ih live env fun env=>Run AP (.loop live a) env s Q)
    (fun id env s Q=>Q (.exit id) env s)
    (fun env s Q=>Q .ret env s) c
theorem N8 {env:Env} {t:Nat}:∀{ts:List Nat},t∈ts→(commit env ts).get t=env.get t
 |[],h=>by simp at h
 |t'::ts,h=>by
  simp only[commit,Env.get]
  cases hb:Nat.beq t' t
  ·have hne:t≠t':=fun e=>by subst e;simp at hb
   rw[cond_false]
   exact N8 ((List.mem_cons.1 h).resolve_left hne)
  ·rw[cond_true,Nat.eq_of_beq_eq_true hb]
theorem Ky {env env':Env}:∀{ts:List Nat},(∀ t∈ts,env.get t=env'.get t)→commit env ts=commit env' ts
 |[],_=>rfl
 |t::ts,h=>by simp only[commit];rw[h t (by simp),Ky fun t' h'=>h t' (by simp[h'])]
theorem Ph (env:Env) (ts:List Nat):commit (commit env ts) ts=commit env ts:=Ky fun _ h=>N8 h
theorem MN {live:List Nat} {a:C9} {env:Env} {s:Aj} {Q:AQ→Env→Aj→Prop} (h:Run AP (.loop live a) (commit env live) s Q):Run AP (.loop live a) env s Q:=by
 obtain⟨N,e,env',s',h1,h2⟩:=h
 refine⟨N,e,env',s',?_,h2⟩
 simp only[D8]at h1 ⊢
 cases N with
 |zero=>simp[iter]at h1
 |succ N=>
  simp only[iter,Ph]at h1 ⊢
  exact h1
theorem N9:∀{c:C9} {env:Env} {s:Aj} {Q:AQ→Env→Aj→Prop},vC AP c env s Q→Run AP c env s Q:=by
 intro c
 induction c with
 |skip=>intro env s Q h;exact⟨0,_,_,_,rfl,h⟩
 |exit id=>intro env s Q h;exact⟨0,_,_,_,rfl,h⟩
 |ret=>intro env s Q h;exact⟨0,_,_,_,rfl,h⟩
 |region hd H8 ops live tr=>
  intro env s Q h
  obtain⟨Bv,s1,h1,h2⟩:=Dn h
  obtain⟨N,e,CX,s2,h3,h4⟩:=Ig h2
  cases e with
  |normal=>exact⟨N,_,_,_,by simp only[D8,h1,h3],(JL _ _ _).1 ((DY _ _ _).1 h4)⟩
  |exit id=>exact⟨N,_,_,_,by simp only[D8,h1,h3],h4⟩
  |ret=>exact⟨N,_,_,_,by simp only[D8,h1,h3],h4⟩
  |DL v=>exact⟨N,_,_,_,by simp only[D8,h1,h3],h4⟩
 |mix m W pc H8 ops live tr=>
  intro env s Q h
  obtain⟨Bv,s1,h1,h2⟩:=Dn h
  obtain⟨N,e,CX,s2,h3,h4⟩:=Gv h2
  cases e with
  |normal=>exact⟨N,_,_,_,by simp only[D8,h1,h3],(JL _ _ _).1 ((DY _ _ _).1 h4)⟩
  |exit id=>exact⟨N,_,_,_,by simp only[D8,h1,h3],h4⟩
  |ret=>exact⟨N,_,_,_,by simp only[D8,h1,h3],h4⟩
  |DL v=>exact⟨N,_,_,_,by simp only[D8,h1,h3],h4⟩
 |par m un H8 ops live tr=>
  intro env s Q h
  obtain⟨Bv,s1,h1,h2⟩:=Dn h
  obtain⟨N',AbX,s1',hh,h2⟩:=RG h2
  rw[PX]at h2
  obtain⟨N,e,CX,s2,h3,h4⟩:=Ig h2
  have hh':Jb (run AP (max N N')) m un ops Bv s1=some (AbX,s1'):=by
   unfold Jb at hh ⊢
   split at hh
   ·rename_i es hes
    rw[Gu (Bf (Nat.le_max_right N N')) hes]
    exact hh
   ·cases hh
  have h3':=DX (Bf (AP:=AP) (Nat.le_max_left N N')) h3
  cases e with
  |normal=>exact⟨max N N',_,_,_,by simp only[D8,h1,hh',h3'],(JL _ _ _).1 ((DY _ _ _).1 h4)⟩
  |exit id=>exact⟨max N N',_,_,_,by simp only[D8,h1,hh',h3'],h4⟩
  |ret=>exact⟨max N N',_,_,_,by simp only[D8,h1,hh',h3'],h4⟩
  |DL v=>exact⟨max N N',_,_,_,by simp only[D8,h1,hh',h3'],h4⟩
 |seq a b iha ihb=>
  intro env s Q h
  obtain⟨N,e,Bv,s1,h1,h2⟩:=iha h
  cases e with
  |normal=>
   obtain⟨N',e',CX,s2,h3,h4⟩:=ihb h2
   have h1':=Ee (Bf (AP:=AP) (Nat.le_max_left N N')) (Nat.le_max_left N N') h1
   have h3':=Ee (Bf (AP:=AP) (Nat.le_max_right N N')) (Nat.le_max_right N N') h3
   exact⟨max N N',e',CX,s2,by simp only[D8,h1',h3'],h4⟩
  |exit id=>exact⟨N,_,_,_,by simp only[D8,h1],h2⟩
  |ret=>exact⟨N,_,_,_,by simp only[D8,h1],h2⟩
  |DL v=>exact⟨N,_,_,_,by simp only[D8,h1],h2⟩
 |cond c a b iha ihb=>
  intro env s Q h
  change Xt (c.val env) (vC AP a env s Q) (vC AP b env s Q)at h
  unfold Xt at h
  split at h
  ·rename_i c' hc
   cases c'
   ·obtain⟨N,e,Bv,s1,h1,h2⟩:=ihb h
    exact⟨N,e,Bv,s1,by simp only[D8,hc,h1],h2⟩
   ·obtain⟨N,e,Bv,s1,h1,h2⟩:=iha h
    exact⟨N,e,Bv,s1,by simp only[D8,hc,h1],h2⟩
  ·cases h
 |block id a iha=>
  intro env s Q h
  obtain⟨N,e,Bv,s1,h1,h2⟩:=iha h
  cases e with
  |normal=>exact⟨N,_,_,_,by simp only[D8,h1],h2⟩
  |exit j=>
   simp only[AbW]at h2
   cases hb:Nat.beq j id
   ·rw[hb]at h2
    have hne:j≠id:=fun e=>by subst e;simp at hb
    exact⟨N,_,_,_,by simp only[D8,h1,if_neg hne],h2⟩
   ·rw[hb]at h2
    exact⟨N,_,_,_,by simp only[D8,h1,if_pos (Nat.eq_of_beq_eq_true hb)],h2⟩
  |ret=>exact⟨N,_,_,_,by simp only[D8,h1],h2⟩
  |DL v=>exact⟨N,_,_,_,by simp only[D8,h1],h2⟩
 |loop live a iha=>
  intro env s Q h
  exact MN ((DY _ _ _).1 h)
def Xu (AP:Nat→Option IJ) (live:List Nat) (a:C9) (Q:AQ→Env→Aj→Prop) (e:AQ) (env:Env) (s:Aj):Prop:=match e with
 | .normal=>Ih live env fun env=>Run AP (.loop live a) env s Q
 |e=>Q e env s
def Aar (fn:FQ) (K:Aw→Aj→Prop) (e:AQ) (env:Env) (s:Aj):Prop:=match e with
 | .normal=>I7 (FH env s fn.results) fun vs=>K (.ok (Jd vs)) s
 | .ret=>I7 (FH env s fn.results) fun vs=>K (.ok (Jd vs)) s
 | .DL v=>K (.DL v) s
 | .exit _=>False
theorem RJ {f:Nat} {fn:FQ} {args:List AV} {s:Aj} {K:Aw→Aj→Prop} (hf:AP f=some (.code fn)) (hl:args.length=fn.np) (h:Run AP fn.body (params args 0) s (Aar fn K)):FB AP f args s K:=by
 obtain⟨N,e,env,s',h1,h2⟩:=h
 cases e with
 |normal=>
  obtain⟨vs,h3,h4⟩:=h2
  exact⟨N+1,_,_,by simp only[run,hf,if_pos hl,YI,h1,h3,Option.map_some],h4⟩
 |ret=>
  obtain⟨vs,h3,h4⟩:=h2
  exact⟨N+1,_,_,by simp only[run,hf,if_pos hl,YI,h1,h3,Option.map_some],h4⟩
 |DL v=>exact⟨N+1,_,_,by simp only[run,hf,if_pos hl,YI,h1],h2⟩
 |exit id=>cases h2
end AI
end Go.Proofs.YtegcpbncohoflaaGreatDoor
namespace Go.Proofs.YtegcpbncohoflaaGreatDoor
namespace AI
open Go.RowKit
variable {AP:Nat→Option IJ}
def AbY (live:List Nat) (I:Env→Aj→Prop) (Q:AQ→Env→Aj→Prop) (e:AQ) (env:Env) (s:Aj):Prop:=match e with
 | .normal=>Ih live env fun env=>I env s
 |e=>Q e env s
structure again (I:Nat→Env→Aj→Prop) (m:Nat) (env:Env) (s:Aj):Prop where
 mk::(h:∃m',m'<m∧I m' env s)
theorem Aq {live:List Nat} {a:C9} {Q:AQ→Env→Aj→Prop} (I:Nat→Env→Aj→Prop)
 (hI:∀m env s,I m env s→commit env live=env∧vC AP a env s (AbY live (again I m) Q)):
 ∀m env s,I m env s→Run AP (.loop live a) env s Q:=by
 intro m
 induction m using Nat.strongRecOn with
 |ind m ih=>
  intro env s h
  obtain⟨hc,h1⟩:=hI m env s h
  obtain⟨N,e,Bv,s1,h2,h3⟩:=N9 h1
  have hr:Run AP a env s (Xu AP live a Q):=by
   refine⟨N,e,Bv,s1,h2,?_⟩
   cases e with
   |normal=>
    simp only[AbY,Xu,DY]at h3 ⊢
    obtain⟨m',hm,h4⟩:=h3
    exact ih m' hm _ _ h4
   |exit id=>exact h3
   |ret=>exact h3
   |DL v=>exact h3
  obtain⟨N,e,Bv,s1,h1,h2⟩:=hr
  cases e with
  |normal=>
   obtain⟨N',e',CX,s2,h3,h4⟩:=MN ((DY _ _ _).1 h2)
   refine⟨max N N'+1,e',CX,s2,?_,h4⟩
   have h1':=Ee (Bf (AP:=AP) (show N≤max N N'+1 by omega)) (show N≤max N N'+1 by omega) h1
   simp only[D8]at h3 ⊢
   rw[iter.eq_2]
   rw[hc,h1']
   exact LP (fun env s r hr=>Ee (Bf (by omega)) (by omega) hr) (by omega) h3
  |exit id=>exact⟨N+1,_,_,_,by simp only[D8,iter.eq_2,hc,Ee (Bf (AP:=AP) (Nat.le_succ N)) (Nat.le_succ N) h1],h2⟩
  |ret=>exact⟨N+1,_,_,_,by simp only[D8,iter.eq_2,hc,Ee (Bf (AP:=AP) (Nat.le_succ N)) (Nat.le_succ N) h1],h2⟩
  |DL v=>exact⟨N+1,_,_,_,by simp only[D8,iter.eq_2,hc,Ee (Bf (AP:=AP) (Nat.le_succ N)) (Nat.le_succ N) h1],h2⟩
structure Af (AP:Nat→Option IJ) (f:Nat) (args:List AV) (R:AV→Prop):Prop where
 mk::(h:∃v,Pure AP f args v∧R v)
def Aas (R:AV→Prop) (out:Aw) (s:Aj):Prop:=match out with
 | .ok r=>U1 s.σ Gl r R
 | .DL _=>False
theorem Ac {f:Nat} {fn:FQ} {args:List AV} {R:AV→Prop} (hf:AP f=some (.code fn)) (hl:args.length=fn.np) (h:vC AP fn.body (params args 0) ⟨[],0⟩ (Aar fn (Aas R))):Af AP f args R:=by
 obtain⟨N,out,s',h1,h2⟩:=RJ hf hl (N9 h)
 cases out with
 |ok r=>
  have h2:U1 s'.σ Gl r R:=h2
  obtain⟨v,h3,h4⟩:=Rw h2
  exact⟨v,⟨N,by simp only[DR,h1];exact h3⟩,h4⟩
 |DL r=>cases h2
theorem Aa {f:Nat} {args:List AV} {R:AV→Prop} {K:AV→Prop} (h:Af AP f args R) (h2:∀v,R v→K v):UU AP f args K:=by
 obtain⟨v,h3,h4⟩:=h
 exact⟨v,h3,h2 v h4⟩
theorem BK {f:Nat} {args:List AV} {p:Prop} [Decidable p] {K:AV→Prop} (h:Af AP f args (· =.bool (decide p))) (h1:p→K (.bool true)) (h2:¬p→K (.bool false)):UU AP f args K:=by
 refine Aa h ?_
 rintro _ rfl
 by_cases hp:p
 ·rw[decide_eq_true hp];exact h1 hp
 ·rw[decide_eq_false hp];exact h2 hp
theorem FB.mono {f:Nat} {args:List AV} {s:Aj} {K K':Aw→Aj→Prop} (h:FB AP f args s K) (hk:∀out s,K out s→K' out s):FB AP f args s K':=by
 obtain⟨N,out,s',h1,h2⟩:=h
 exact⟨N,out,s',h1,hk _ _ h2⟩
theorem AX {p:Prop} [Decidable p] (h:p):AV.bool true=AV.bool (decide p):=by rw[decide_eq_true h]
theorem Ai {p:Prop} [Decidable p] (h:¬p):AV.bool false=AV.bool (decide p):=by rw[decide_eq_false h]
theorem Af.mono {f:Nat} {args:List AV} {R R':AV→Prop} (h:Af AP f args R) (h2:∀v,R v→R' v):Af AP f args R':=by
 obtain⟨v,h3,h4⟩:=h
 exact⟨v,h3,h2 v h4⟩
theorem Lm {f:Nat} {fn:FQ} {args:List AV} {s:Aj} {K:Aw→Aj→Prop} (hf:AP f=some (.code fn)) (hl:args.length=fn.np) (h:vC AP fn.body (params args 0) s (Aar fn K)):FB AP f args s K:=
 RJ hf hl (N9 h)
end AI
end Go.Proofs.YtegcpbncohoflaaGreatDoor
namespace Go.Proofs.YtegcpbncohoflaaGreatDoor
namespace AI
def ints (l:List Int):List AV:=l.map (.int .i64)
abbrev PD (nn:Bool) (l:List Int):AV:=.sl nn (ints l)
@[simp] theorem lI (l:List Int):(ints l).length=l.length:=by simp[ints]
theorem Xv {l:List Int} {i:Nat} {x:Int} (h:l[i]?=some x):nth (ints l) i=some (.int .i64 x):=by simp[ints,Ar,h]
theorem nI {l:List Int} {i:Nat} (h:i<l.length):nth (ints l) i=some (.int .i64 l[i]):=Xv (List.getElem?_eq_getElem h)
theorem wrap_i64 {z:Int} (h:-2^63≤z) (h2:z<2^63):IntKind.i64.wrap z=z:=by
 rw[IntKind.wrap_i64];omega
theorem nIN {l:List Int} {i:Nat} (h:i<l.length):nth (ints l) (Int.toNat (Nat.cast i))=some (.int .i64 l[i]):=nI h
theorem RN {es:Nat} {x:AV} (h:x.cells.length=es):A8 es [x]:=by intro y hy;simp at hy;exact hy▸h
theorem IV {b n:Nat} (h:n*b≤2 ^ 46):roomy b n:=Nat.le_trans h (by decide)
def YJ (E:List (Bool×List Int)):List AV:=E.map fun p=>.sl p.1 (ints p.2)
@[simp] theorem lS (E:List (Bool×List Int)):(YJ E).length=E.length:=by simp[YJ]
theorem nS {E:List (Bool×List Int)} {i:Nat} (h:i<E.length):nth (YJ E) i=some (.sl E[i].1 (ints E[i].2)):=by simp[YJ,Ar,h]
theorem nSN {E:List (Bool×List Int)} {i:Nat} (h:i<E.length):nth (YJ E) (Int.toNat (Nat.cast i))=some (.sl E[i].1 (ints E[i].2)):=nS h
theorem Ec {α:Type} {l:List α} {i:Nat} (h:¬(i:Int)<(l.length:Int)):l.take i=l:=List.take_of_length_le (by omega)
theorem BH {α:Type} {p:α→Prop} {l:List α} {i:Nat} (h:i<l.length) (h1:∀x∈l.take i,p x) (h2:p l[i]):∀x∈l.take (i+1),p x:=by
 intro x hx
 rw[List.take_succ_eq_append_getElem h,List.mem_append,List.mem_singleton]at hx
 rcases hx with hx|rfl
 ·exact h1 x hx
 ·exact h2
theorem tIN {l:List Int} {i:Nat} {x y:Int}:(ints l).set (Int.toNat (Nat.cast i)) (Bj (.int .i64 x) 0 (.int .i64 y))=ints (l.set i y):=by
 simp[ints,Bj,AV.cells,List.map_set]
theorem tI {l:List Int} {i:Nat} {x y:Int}:(ints l).set i (Bj (.int .i64 x) 0 (.int .i64 y))=ints (l.set i y):=tIN
theorem uI {l:List Int}:sub (ints l) 0 l.length=ints l:=by
 unfold sub;rw[List.drop_zero,List.take_of_length_le (by simp)]
theorem uS {l:List (Bool×List Int)}:sub (YJ l) 0 l.length=YJ l:=by
 unfold sub;rw[List.drop_zero,List.take_of_length_le (by simp)]
theorem uIS {l:List Int} {x:Int}:sub (ints (l++[x])) 0 (l.length+1)=ints (l++[x]):=by
 have:=uI (l:=l++[x]);rwa [List.length_append]at this
theorem uSS {l:List (Bool×List Int)} {x:Bool×List Int}:sub (YJ (l++[x])) 0 (l.length+1)=YJ (l++[x]):=by
 have:=uS (l:=l++[x]);rwa [List.length_append]at this
theorem rIN (n:Nat) (z:Int):List.replicate (Int.toNat (Nat.cast n)) (AV.int .i64 z)=ints (List.replicate n z):=by simp[ints]
theorem rI (n:Nat) (z:Int):List.replicate n (AV.int .i64 z)=ints (List.replicate n z):=by simp[ints]
theorem nY {l:List UInt8} {i:Nat} (h:i<l.length):nth l i=some l[i]:=by simp[Ar,h]
theorem nYN {l:List UInt8} {i:Nat} (h:i<l.length):nth l (Int.toNat (Nat.cast i))=some l[i]:=nY h
def bools (l:List Bool):List AV:=l.map .bool
@[simp] theorem lB (l:List Bool):(bools l).length=l.length:=by simp[bools]
theorem nB {l:List Bool} {i:Nat} (h:i<l.length):nth (bools l) i=some (.bool l[i]):=by simp[bools,Ar,h]
theorem nBN {l:List Bool} {i:Nat} (h:i<l.length):nth (bools l) (Int.toNat (Nat.cast i))=some (.bool l[i]):=nB h
theorem tBN {l:List Bool} {i:Nat} {x y:Bool}:(bools l).set (Int.toNat (Nat.cast i)) (Bj (.bool x) 0 (.bool y))=bools (l.set i y):=by
 simp[bools,Bj,AV.cells,List.map_set]
theorem tB {l:List Bool} {i:Nat} {x y:Bool}:(bools l).set i (Bj (.bool x) 0 (.bool y))=bools (l.set i y):=tBN
theorem uB {l:List Bool}:sub (bools l) 0 l.length=bools l:=by
 unfold sub;rw[List.drop_zero,List.take_of_length_le (by simp)]
theorem rBN (n:Nat) (z:Bool):List.replicate (Int.toNat (Nat.cast n)) (AV.bool z)=bools (List.replicate n z):=by simp[bools]
section
variable {α β:Type} [DecidableEq α] {fk:α→AV} {fv:β→AV} {t:H7}
def AbZ (fk:α→AV) (fv:β→AV) (M:List (α×β)):List (AV×AV):=M.map fun p=>(fk p.1,fv p.2)
end
abbrev Xw (M:List (Int×Int)):List (AV×AV):=AbZ (.int .i64) (.int .i64) M
end AI
end Go.Proofs.YtegcpbncohoflaaGreatDoor
