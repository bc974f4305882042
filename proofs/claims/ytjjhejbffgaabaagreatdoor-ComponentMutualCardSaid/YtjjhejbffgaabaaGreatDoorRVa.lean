/- The evaluator, step by step on symbols: what must hold for it to end in 'Q'. The evaluator, step by step on symbols: operations. The evaluator, step by step on symbols: regions, code, loops, functions. Loops by an invariant; what a function answers, as a predicate. Lists of numbers as abstract values; small facts that the steps need. -/
import Derived.Test.YtjjhejbffgaabaaGreatDoorRSe
set_option linter.unusedVariables false
set_option maxRecDepth 4000
namespace Go.Proofs.YtjjhejbffgaabaaGreatDoor
namespace AI
open Go.RowKit
variable {AP:Nat→Option GY}
structure Run (AP:Nat→Option GY) (c:AA) (env:Env) (s:Ag) (Q:Ar→Env→Ag→Prop):Prop where
 mk::(h:∃N e env' s',EG (run AP N) N c env s=some (e,env',s')∧Q e env' s')
def Op1 (AP:Nat→Option GY) (o:Cb) (env:Env) (s:Ag) (K:AU→Ag→Prop):Prop:=
 ∃N out s',Af (run AP N) o env s=some (out,s')∧K out s'
def Ops (AP:Nat→Option GY) (os:List Aw) (env:Env) (s:Ag) (Q:Ar→Env→Ag→Prop):Prop:=
 ∃N e env' s',Di (run AP N) os env s=some (e,env',s')∧Q e env' s'
structure Pure (AP:Nat→Option GY) (f:Nat) (args:List AV) (v:AV):Prop where
 mk::(h:∃N,Dv (run AP N) f args=some v)
structure AY (AP:Nat→Option GY) (f:Nat) (args:List AV) (s:Ag) (K:AU→Ag→Prop):Prop where
 mk::(h:∃N out s',run AP N f args s=some (out,s')∧K out s')
theorem Bz {n n':Nat} (h:n≤n'):Eu (run AP n) (run AP n'):=Q7 h
theorem Run.mono {c:AA} {env:Env} {s:Ag} {Q Q':Ar→Env→Ag→Prop} (h:Run AP c env s Q) (hq:∀e env s,Q e env s→Q' e env s):Run AP c env s Q':=by
 obtain⟨N,e,env',s',h1,h2⟩:=h
 exact⟨N,e,env',s',h1,hq _ _ _ h2⟩
def AV.force {R:Sort _} (v:AV) (f:AV→R):R:=
 match v with
 | .bool b=>f (.bool b)
 | .int k n=>f (.int k n)
 | .str s=>f (.str s)
 | .sl nn xs=>f (.sl nn xs)
 | .zc=>f .zc
 | .own o g a b=>f (.own o g a b)
 | .agg cs=>f (.agg cs)
 | .Du cs=>f (.Du cs)
 | .ref o g i a=>f (.ref o g i a)
 | .CO cs=>f (.CO cs)
 | .fn g cs=>f (.fn g cs)
 | .map o g=>f (.map o g)
 | .fmap es=>f (.fmap es)
 | .iface t v=>f (.iface t v)
 | .IZ=>f .IZ
 | .Dp=>f .Dp
 | .FI=>f .FI
 | .Gw=>f .Gw
 | .undef=>f .undef
 | .junk=>f .junk
theorem force_eq {R:Sort _} (v:AV) (f:AV→R):v.force f=f v:=by cases v<;>rfl
def Ku (b:Bool) (t e:Prop):Prop:=match b with
 |true=>t
 |false=>e
theorem WC {b:Bool} {t e:Prop} (h1:b=true→t) (h2:b=false→e):Ku b t e:=by
 cases b
 ·exact h2 rfl
 ·exact h1 rfl
structure LV (p t e:Prop):Prop where
 mk::(yes:p→t) (no:¬p→e)
structure need (p t:Prop):Prop where
 mk::(l:p) (r:t)
theorem Qq {p t:Prop} (h1:p) (h2:t):need p t:=⟨h1,h2⟩
structure IQ (k:IntKind) (z:Int) (K:AV→Prop):Prop where
 mk::(h:∃y,k.wrap z=y∧K (.int k y))
theorem CG {k:IntKind} {z y:Int} {K:AV→Prop} (h:k.wrap z=y) (h2:K (.int k y)):IQ k z K:=⟨y,h,h2⟩
structure BX {α:Type} (xs:List α) (i:Nat) (K:α→Prop):Prop where
 mk::(h:∃x,nth xs i=some x∧K x)
theorem Ak {α:Type} {xs:List α} {i:Nat} {K:α→Prop} {x:α} (h:nth xs i=some x) (h2:K x):BX xs i K:=⟨x,h,h2⟩
structure KZ {α:Type} (o:Option α) (K:α→Prop):Prop where
 mk::(h:∃x,o=some x∧K x)
theorem Aj {α:Type} {o:Option α} {K:α→Prop} {x:α} (h:o=some x) (h2:K x):KZ o K:=⟨x,h,h2⟩
structure Y8 (AP:Nat→Option GY) (f:Nat) (args:List AV) (K:AV→Prop):Prop where
 mk::(h:∃v,Pure AP f args v∧K v)
def settle (v:AV) (K:AV→Prop):Prop:=match v with
 | .bool b=>Ku b (K (.bool true)) (K (.bool false))
 |v=>v.force K
theorem RG (v:AV) (K:AV→Prop):settle v K↔K v:=by
 cases v<;>first|exact Iff.rfl|skip
 rename_i b
 cases b<;>exact Iff.rfl
def JR {α:Type}:List α→Nat→α→(List α→Prop)→Prop
 |[],_,_,K=>K []
 |_::xs,0,y,K=>K (y::xs)
 |x::xs,n+1,y,K=>JR xs n y fun ys=>K (x::ys)
theorem En {α:Type}:∀(l:List α) (n:Nat) (y:α) (K:List α→Prop),JR l n y K↔K (l.set n y)
 |[],_,_,_=>Iff.rfl
 |_::_,0,_,_=>Iff.rfl
 |x::xs,n+1,y,K=>En xs n y fun ys=>K (x::ys)
def Y6 {α:Type}:List α→α→(List α→Prop)→Prop
 |[],y,K=>K [y]
 |x::xs,y,K=>Y6 xs y fun ys=>K (x::ys)
theorem OV {α:Type}:∀(l:List α) (y:α) (K:List α→Prop),Y6 l y K↔K (l++[y])
 |[],_,_=>Iff.rfl
 |x::xs,y,K=>OV xs y fun ys=>K (x::ys)
def U2 (s:Ag) (mk:Nat→Nat→AV) (ob:Nat→Obj) (K:AU→Ag→Prop):Prop:=
 Y6 s.σ (ob s.ctr) fun σ=>K (.ok (mk s.σ.length s.ctr)) ⟨σ,s.ctr+1⟩
structure eqK {α:Type} (a:α) (K:α→Prop):Prop where
 mk::(h:∃b,a=b∧K b)
theorem Bj {α:Type} {a b:α} {K:α→Prop} (h1:a=b) (h:K b):eqK a K:=⟨_,h1,h⟩
def Y9 (op:BinOp) (k:IntKind) (a b:Int) (K:AV→Prop):Prop:=
 match op with
 | .add=>IQ k (a+b) K
 | .sub=>IQ k (a-b) K
 | .mul=>IQ k (a*b) K
 | .quo=>need (b≠0) (IQ k (a.tdiv b) K)
 | .rem=>need (b≠0) (K (.int k (a.tmod b)))
 | .eql=>LV (a=b) (K (.bool true)) (K (.bool false))
 | .neq=>LV (a=b) (K (.bool false)) (K (.bool true))
 | .lss=>LV (a<b) (K (.bool true)) (K (.bool false))
 | .leq=>LV (a≤b) (K (.bool true)) (K (.bool false))
 | .gtr=>LV (b<a) (K (.bool true)) (K (.bool false))
 | .geq=>LV (b≤a) (K (.bool true)) (K (.bool false))
 | .and=>eqK (k.wrap (BitVec.ofInt k.bits a &&& BitVec.ofInt k.bits b).toNat) fun z=>K (.int k z)
 | .or=>eqK (k.wrap (BitVec.ofInt k.bits a ||| BitVec.ofInt k.bits b).toNat) fun z=>K (.int k z)
 | .xor=>eqK (k.wrap (BitVec.ofInt k.bits a ^^^ BitVec.ofInt k.bits b).toNat) fun z=>K (.int k z)
 | .shl=>need (0≤b) (IQ k (a*2 ^ (min b.toNat k.bits)) K)
 | .shr=>need (0≤b) (eqK (a.fdiv (2 ^ (min b.toNat k.bits))) fun z=>K (.int k z))
 |_=>False
def Za (op:BinOp) (a b:List UInt8) (K:AV→Prop):Prop:=
 match op with
 | .eql=>LV (a=b) (K (.bool true)) (K (.bool false))
 | .neq=>LV (a=b) (K (.bool false)) (K (.bool true))
 | .lss=>Ku (Op.bytesLess a b) (K (.bool true)) (K (.bool false))
 | .leq=>Ku (Op.bytesLess a b||a==b) (K (.bool true)) (K (.bool false))
 | .gtr=>Ku (Op.bytesLess a b||a==b) (K (.bool false)) (K (.bool true))
 | .geq=>Ku (Op.bytesLess a b) (K (.bool false)) (K (.bool true))
 | .add=>need (a.length+b.length<2 ^ 63) (K (.str (a++b)))
 |_=>False
def Acw (op:BinOp) (k k':IntKind) (t:Prop):Prop:=match op with
 | .shl=>t
 | .shr=>t
 |_=>need (k=k') t
theorem Aat {op:BinOp} {k k':IntKind} {t:Prop} (h:Acw op k k' t):(k=k'∨op=.shl∨op=.shr)∧t:=by
 unfold Acw at h
 split at h
 ·exact⟨.inr (.inl rfl),h⟩
 ·exact⟨.inr (.inr rfl),h⟩
 ·exact⟨.inl h.1,h.2⟩
theorem Aet {op:BinOp} {k k':IntKind} {t:JC} {a b:Int} (h:k=k'∨op=.shl∨op=.shr):bin op t (.int k a) (.int k' b)=I9 op k a b:=by
 simp only[bin]
 split
 ·rfl
 ·rename_i hk
  rcases h with h|rfl|rfl
  ·exact absurd h hk
  ·rfl
  ·rfl
def AgZ (op:BinOp) (t:JC) (x y:AV) (K:AV→Prop):Prop:=
 match x,y with
 | .int k a,.int k' b=>Acw op k k' (Y9 op k a b K)
 | .str a,.str b=>Za op a b K
 |x,y=>KZ (bin op t x y) fun v=>settle v K
theorem Yk {op:BinOp} {t:JC} {x y:AV} {K:AV→Prop} (h:AgZ op t x y K):∃v,bin op t x y=some v∧K v:=by
 unfold AgZ at h
 split at h
 ·rename_i k a k' b
  obtain⟨hk,h⟩:=Aat h
  rw[Aet hk]
  unfold Y9 at h
  cases op<;>simp only at h
  case add=>obtain⟨y,h1,h2⟩:=h;exact⟨_,rfl,by rw[h1];exact h2⟩
  case sub=>obtain⟨y,h1,h2⟩:=h;exact⟨_,rfl,by rw[h1];exact h2⟩
  case mul=>obtain⟨y,h1,h2⟩:=h;exact⟨_,rfl,by rw[h1];exact h2⟩
  case quo=>obtain⟨h0,y,h1,h2⟩:=h;exact⟨_,by simp only[I9,if_neg h0];rfl,by rw[h1];exact h2⟩
  case rem=>obtain⟨h0,h2⟩:=h;exact⟨_,by simp only[I9,if_neg h0],h2⟩
  case and=>obtain⟨z,rfl,h2⟩:=h;exact⟨_,rfl,h2⟩
  case or=>obtain⟨z,rfl,h2⟩:=h;exact⟨_,rfl,h2⟩
  case xor=>obtain⟨z,rfl,h2⟩:=h;exact⟨_,rfl,h2⟩
  case shl=>obtain⟨h0,y,h1,h2⟩:=h;exact⟨_,by simp only[I9,if_neg (Int.not_lt.2 h0)];rfl,by rw[h1];exact h2⟩
  case shr=>obtain⟨h0,z,rfl,h2⟩:=h;exact⟨_,by simp only[I9,if_neg (Int.not_lt.2 h0)],h2⟩
  case eql=>
   by_cases c:a=b
   ·exact⟨_,rfl,by have:=h.1 c;simpa only[c,beq_self_eq_true,bne_self_eq_false,Bool.not_true]using this⟩
   ·exact⟨_,rfl,by have:=h.2 c;simpa only[bne,beq_false_of_ne c,Bool.not_false]using this⟩
  case neq=>
   by_cases c:a=b
   ·exact⟨_,rfl,by have:=h.1 c;simpa only[c,beq_self_eq_true,bne_self_eq_false,Bool.not_true]using this⟩
   ·exact⟨_,rfl,by have:=h.2 c;simpa only[bne,beq_false_of_ne c,Bool.not_false]using this⟩
  case lss=>
   by_cases c:a<b
   ·exact⟨_,rfl,by simpa[c]using h.1 c⟩
   ·exact⟨_,rfl,by simpa[c]using h.2 c⟩
  case leq=>
   by_cases c:a≤b
   ·exact⟨_,rfl,by simpa[c]using h.1 c⟩
   ·exact⟨_,rfl,by simpa[c]using h.2 c⟩
  case gtr=>
   by_cases c:b<a
   ·exact⟨_,rfl,by simpa[c]using h.1 c⟩
   ·exact⟨_,rfl,by simpa[c]using h.2 c⟩
  case geq=>
   by_cases c:b≤a
   ·exact⟨_,rfl,by simpa[c]using h.1 c⟩
   ·exact⟨_,rfl,by simpa[c]using h.2 c⟩
 ·rename_i a b
  simp only[bin]
  unfold Za at h
  cases op<;>simp only at h
  case add=>obtain⟨h0,h2⟩:=h;exact⟨_,by simp only[Yl,if_pos h0],h2⟩
  case eql=>
   by_cases c:a=b
   ·exact⟨_,rfl,by have:=h.1 c;simpa only[c,beq_self_eq_true,bne_self_eq_false,Bool.not_true]using this⟩
   ·exact⟨_,rfl,by have:=h.2 c;simpa only[bne,beq_false_of_ne c,Bool.not_false]using this⟩
  case neq=>
   by_cases c:a=b
   ·exact⟨_,rfl,by have:=h.1 c;simpa only[c,beq_self_eq_true,bne_self_eq_false,Bool.not_true]using this⟩
   ·exact⟨_,rfl,by have:=h.2 c;simpa only[bne,beq_false_of_ne c,Bool.not_false]using this⟩
  case lss=>cases c:Op.bytesLess a b<;>rw[c]at h<;>exact⟨_,rfl,by rw[c];exact h⟩
  case leq=>cases c:(Op.bytesLess a b||a==b)<;>rw[c]at h<;>exact⟨_,rfl,by rw[c];exact h⟩
  case gtr=>cases c:(Op.bytesLess a b||a==b)<;>rw[c]at h<;>exact⟨_,rfl,by rw[c];exact h⟩
  case geq=>cases c:Op.bytesLess a b<;>rw[c]at h<;>exact⟨_,rfl,by rw[c];exact h⟩
 ·obtain⟨v,h1,h2⟩:=h
  exact⟨v,h1,(RG v K).1 h2⟩
end AI
end Go.Proofs.YtjjhejbffgaabaaGreatDoor
namespace Go.Proofs.YtjjhejbffgaabaaGreatDoor
namespace AI
open Go.RowKit
variable {AP:Nat→Option GY}
def done (v:AV) (s:Ag) (K:AU→Ag→Prop):Prop:=settle v fun v=>K (.ok v) s
def XB:Au:=fun _ _ _=>none
def WO (o:Cb) (env:Env) (s:Ag) (K:AU→Ag→Prop):Prop:=
 KZ (Af XB o env s) fun r=>match r with
    |(.ok v,s')=>done v s' K
    |(.Ee v,s')=>K (.Ee v) s'
def Zb (σ:List Obj) (n:Nat) (r:AV) (R:AV→Prop):Prop:=match r with
 | .own o g off len=>match n with
   |0=>False
   |n+1=>match nth σ o with
    |some (.arr g' _ nn cl elems)=>match cl with
     |true=>need (g=g'∧off+len≤elems.length) (eqK (sub elems off len) fun xs=>R (.sl nn xs))
     |false=>KZ (snap σ (n+1) (.own o g off len)) R
    |_=>False
 |r=>KZ (snap σ n r) R
theorem Pz {σ:List Obj} {n:Nat} {r:AV} {R:AV→Prop} (h:Zb σ n r R):∃v,snap σ n r=some v∧R v:=by
 unfold Zb at h
 split at h
 ·rename_i o g off len
  split at h
  ·cases h
  ·split at h
   ·rename_i g' es nn cl elems ho
    split at h
    ·obtain⟨h1,xs,rfl,h2⟩:=h
     refine⟨_,?_,h2⟩
     simp only[snap,ho,if_pos h1,if_true]
    ·obtain⟨v,h1,h2⟩:=h;exact⟨v,h1,h2⟩
   ·cases h
 ·obtain⟨v,h1,h2⟩:=h;exact⟨v,h1,h2⟩
def RH (σ:List Obj):Nat→List AV→(List AV→Prop)→Prop
 |_,[],K=>K []
 |0,_::_,_=>False
 |n+1,v::vs,K=>Zb σ n v fun a=>RH σ n vs fun r=>K (a::r)
theorem Hr {σ:List Obj}:∀{n:Nat} {vs:List AV} {K:List AV→Prop},RH σ n vs K→∃r,Iu σ n vs=some r∧K r
 |n,[],K,h=>⟨[],by cases n<;>rfl,by cases n<;>exact h⟩
 |0,_::_,_,h=>by cases h
 |n+1,v::vs,K,h=>by
  obtain⟨a,h1,h2⟩:=Pz h
  obtain⟨r,h3,h4⟩:=Hr h2
  exact⟨_,by simp only[Iu,h1,h3],h4⟩
def Zc (σ:List Obj) (n:Nat) (r:AV) (R:AV→Prop):Prop:=match r with
 | .Du cs=>match n with
   |0=>False
   |n+1=>RH σ n cs fun vs=>R (.Du vs)
 | .agg cs=>match n with
   |0=>False
   |n+1=>RH σ n cs fun vs=>R (.agg vs)
 |r=>Zb σ n r R
theorem WQ {σ:List Obj} {n:Nat} {r:AV} {R:AV→Prop} (h:Zc σ n r R):∃v,snap σ n r=some v∧R v:=by
 unfold Zc at h
 split at h
 ·split at h
  ·cases h
  ·obtain⟨vs,h1,h2⟩:=Hr h
   exact⟨_,by simp only[snap,h1,Option.map_some],h2⟩
 ·split at h
  ·cases h
  ·obtain⟨vs,h1,h2⟩:=Hr h
   exact⟨_,by simp only[snap,h1,Option.map_some],h2⟩
 ·exact Pz h
def Acx (AP:Nat→Option GY) (m:Mode) (f:Nat) (args:List AV) (s:Ag) (K:AU→Ag→Prop):Prop:=
 match m with
 | .pure=>need (DU args=true) (Y8 AP f args fun v=>done v s K)
 | .borrow=>RH s.σ Hw args fun args'=>Y8 AP f args' fun v=>need (v.scalar=true) (done v s K)
 | .share=>AY AP f args s fun out s'=>match out with
   | .ok r=>KZ (compact s.σ.length r s') fun r=>done r.1 r.2 K
   | .Ee v=>need (v.closed=true) (K (.Ee v) ⟨s'.σ.take s.σ.length,s'.ctr⟩)
 | .own=>∃N r s',AZ (run AP N) .own f args s=some (.ok r,s')∧done r s' K
 | .keep=>AY AP f args s fun out s'=>match out with
   | .ok r=>done r s' K
   | .Ee v=>K (.Ee v) s'
structure JG (g g' es es' len:Nat) (nn cl c:Bool) (elems ys:List AV) (bytes:Nat) (K:Nat→Bool→Bool→List AV→Prop):Prop where
 mk::(h:(g=g'∧es=es'∧len≤elems.length∧Bg es ys∧roomy bytes (len+ys.length))∧K (len+ys.length) (nn||!ys.isEmpty) (cl&&c) (elems.take len++ys))
def Ag0 (a b:Bool) (K:Bool→Prop):Prop:=match b with
 |true=>K a
 |false=>K false
theorem WR (a b:Bool) (K:Bool→Prop):Ag0 a b K↔K (a&&b):=by cases a<;>cases b<;>exact Iff.rfl
def Acy (b:Bool) (K:Bool→Prop):Prop:=match b with
 |true=>K true
 |false=>K false
theorem Ym (b:Bool) (K:Bool→Prop):Acy b K↔K b:=by cases b<;>exact Iff.rfl
def Zd (env:Env):List (Nat×AO)→(List (Nat×AV)→Prop)→Prop
 |[],K=>K []
 |(j,x)::ps,K=>(x.val env).force fun v=>Zd env ps fun r=>K ((j,v)::r)
theorem Ub (env:Env):∀(ps:List (Nat×AO)) (K:List (Nat×AV)→Prop),Zd env ps K↔K (OG env ps)
 |[],_=>Iff.rfl
 |(j,x)::ps,K=>by simp only[Zd,force_eq,OG];exact Ub env ps _
def FQ (z:AV):Nat→List (Nat×AV)→Nat→(List AV→Prop)→Prop
 |0,_,_,K=>K []
 |n+1,[],i,K=>FQ z n [] (i+1) fun r=>K (z::r)
 |n+1,(j,v)::ps,i,K=>bif Nat.beq i j then FQ z n ps (i+1) fun r=>K (v::r)else FQ z n ((j,v)::ps) (i+1) fun r=>K (z::r)
theorem Gs (z:AV):∀(n:Nat) (ps:List (Nat×AV)) (i:Nat) (K:List AV→Prop),FQ z n ps i K↔K (BL z n ps i)
 |0,_,_,_=>by simp only[FQ,BL]
 |n+1,[],i,K=>by simp only[FQ,BL];exact Gs z n [] (i+1) _
 |n+1,(j,v)::ps,i,K=>by
  simp only[FQ,BL]
  cases Nat.beq i j
  ·exact Gs z n _ (i+1) _
  ·exact Gs z n _ (i+1) _
def Yn (es:Nat) (v:AV) (s:Ag) (K:List AV→Bool→Prop):Prop:=match v with
 | .sl _ xs=>K xs true
 | .zc=>K [] true
 |v=>KZ (elemsOf s es v) fun r=>K r.1 r.2
theorem U3 {es:Nat} {v:AV} {s:Ag} {K:List AV→Bool→Prop} (h:Yn es v s K):∃ys c,elemsOf s es v=some (ys,c)∧K ys c:=by
 unfold Yn at h
 split at h
 ·exact⟨_,_,rfl,h⟩
 ·exact⟨_,_,rfl,h⟩
 ·obtain⟨⟨ys,c⟩,h1,h2⟩:=h
  exact⟨ys,c,h1,h2⟩
def Aeu (off j:Nat) (K:Nat→Prop):Prop:=match off with
 |0=>K j
 |n+1=>K (n+1+j)
theorem WS (off j:Nat) (K:Nat→Prop):Aeu off j K↔K (off+j):=by
 cases off with
 |zero=>simp[Aeu]
 |succ n=>exact Iff.rfl
structure Je (t:JC) (k:AV) (ents:List (AV×AV)) (K:Option (Nat×AV)→Prop):Prop where
 mk::(h:∃r,findKey t k ents 0=some r∧K r)
def Acz (k v:AV) (ents:List (AV×AV)) (r:Option (Nat×AV)):List (AV×AV):=match r with
 |some (i,_)=>ents.set i (k,v)
 |none=>ents++[(k,v)]
structure SS (t:JC) (k v:AV) (ents:List (AV×AV)) (K:List (AV×AV)→Prop):Prop where
 mk::(h:∃r,findKey t k ents 0=some r∧K (Acz k v ents r))
def U4 (env:Env) (d:Nat) (x:Option AO) (K:Nat→Prop):Prop:=match x with
 |none=>K d
 |some x=>match x.val env with
  | .int _ n=>need (0≤n) (K n.toNat)
  |_=>False
def Qi (env:Env) (len:Nat) (lo hi:Option AO) (K:Nat→Nat→Prop):Prop:=
 U4 env len hi fun h=>U4 env 0 lo fun l=>need (l≤h∧h≤len) (K l h)
theorem Ou {env:Env} {d:Nat} {x:Option AO} {K:Nat→Prop} (h:U4 env d x K):∃n,(match x with|none=>some d|some x=>bound (x.val env))=some n∧K n:=by
 unfold U4 at h
 split at h
 ·exact⟨d,rfl,h⟩
 ·rename_i x
  split at h
  ·rename_i k n hv
   exact⟨n.toNat,by simp only[hv,bound,if_pos h.1],h.2⟩
  ·cases h
theorem Ja {env:Env} {len:Nat} {lo hi:Option AO} {K:Nat→Nat→Prop} (h:Qi env len lo hi K):∃l u,bounds env len lo hi=some (l,u)∧K l u:=by
 obtain⟨u,h1,h2⟩:=Ou h
 obtain⟨l,h3,h4,h5⟩:=Ou h2
 refine⟨l,u,?_,h5⟩
 unfold bounds
 cases hi<;>cases lo<;>simp_all
def J9 (AP:Nat→Option GY) (o:Cb) (env:Env) (s:Ag) (K:AU→Ag→Prop):Prop:=
 match o with
 | .Xl x=>done (x.val env) s K
 | .I5 es=>U2 s (fun o g=>.own o g 0 0) (fun g=>.arr g es false true []) K
 | .JJ off e2 es cs=>match nth cs off with
   |some (.sl false [])=>need (0<e2) (U2 s (fun o g=>.own o g 0 0) (fun g=>.arr g e2 false true []) fun out s1=>match out with
        | .ok v=>U2 s1 (fun o g=>.ref o g 0 0) (fun g=>.arr g es true (AV.agg (cs.set off v)).closed [.agg (cs.set off v)]) K
        | .Ee _=>False)
   |_=>False
 | .pick c a b=>match c.val env with
   | .bool c=>Ku c (done (a.val env) s K) (done (b.val env) s K)
   |_=>False
 | .alloc es z=>U2 s (fun o g=>.ref o g 0 0) (fun g=>.arr g es true z.closed [z]) K
 | .box es x=>(x.val env).force fun v=>need ((v.storable&&v.cells.length==es)=true) (U2 s (fun o g=>.ref o g 0 0) (fun g=>.arr g es true v.closed [v]) K)
 | .build z parts=>KZ (Ej z (J6 env parts)) fun cs=>K (.ok (.agg cs)) s
 | .load sz a=>match a.val env with
   | .CO cs=>KZ (loadCells cs sz) fun v=>done v s K
   | .ref o g i off=>match nth s.σ o with
     |some (.arr g' _ _ _ elems)=>need (g=g') (BX elems i fun x=>KZ (loadCells (x.cells.drop off) sz) fun v=>done v s K)
     |_=>False
   |_=>False
 | .store sz a x=>match a.val env with
   | .ref o g i off=>match nth s.σ o with
     |some (.arr g' es nn cl elems)=>need (g=g') (BX elems i fun y=>(x.val env).force fun v=>need ((v.storable&&v.cells.length==sz&&off+sz≤es)=true)
       (Ag0 cl v.closed fun cl'=>eqK (elems.set i (Bl y off v)) fun es'=>JR s.σ o (.arr g' es nn cl' es') fun σ=>K (.ok .undef) ⟨σ,s.ctr⟩))
     |_=>False
   |_=>False
 | .OD x=>match x.val env with
   | .ref o g i off=>K (.ok (.ref o g i off)) s
   | .CO cs=>K (.ok (.CO cs)) s
   | .fn f cs=>K (.ok (.fn f cs)) s
   |_=>False
 | .bin op t x y=>AgZ op t (x.val env) (y.val env) fun v=>K (.ok v) s
 | .un op x=>match op,x.val env with
   | .not,.bool b=>Ku b (K (.ok (.bool false)) s) (K (.ok (.bool true)) s)
   | .neg,.int k n=>IQ k (0-n) fun v=>K (.ok v) s
   |_,_=>False
 | .conv k x=>match x.val env with
   | .int _ n=>IQ k n fun v=>K (.ok v) s
   |_=>False
 | .field off sz x=>match x.val env with
   | .agg cs=>KZ (loadCells (cs.drop off) sz) fun v=>done v s K
   |_=>False
 | .QE off x=>match x.val env with
   | .CO cs=>K (.ok (.CO (cs.drop off))) s
   | .ref o g i off'=>K (.ok (.ref o g i (off'+off))) s
   |_=>False
 | .QF es x i=>match x.val env,i.val env with
   | .sl _ xs,.int _ i=>need (0≤i) (BX xs i.toNat fun v=>need (v.cells.length=es) (K (.ok (.CO v.cells)) s))
   | .own o g off len,.int _ i=>match nth s.σ o with
     |some (.arr g' es' _ _ _)=>need (g=g'∧es=es'∧0≤i∧i<len) (Aeu off i.toNat fun j=>K (.ok (.ref o g j 0)) s)
     |_=>False
   |_,_=>False
 | .len k x=>match k,x.val env with
   | .slice,.sl _ xs=>eqK xs.length fun n=>K (.ok (.int .i64 n)) s
   | .slice,.own _ _ _ n=>K (.ok (.int .i64 n)) s
   | .str,.str bs=>K (.ok (.int .i64 bs.length)) s
   | .map,.map o g=>match nth s.σ o with
     |some (.mp g' _ ents)=>need (g=g') (K (.ok (.int .i64 ents.length)) s)
     |_=>False
   | .map,.fmap ents=>K (.ok (.int .i64 ents.length)) s
   |_,_=>WO (.len k x) env s K
 | .NH=>U2 s (fun o g=>.map o g) (fun g=>.mp g true []) K
 | .lookup t z P9 m k=>match m.val env with
   | .map o g=>match nth s.σ o with
     |some (.mp g' _ ents)=>need (g=g'∧IV t (k.val env)=true) (Je t (k.val env) ents fun r=>match r with
      |some (_,v)=>bif P9 then K (.ok (.Du [v,.bool true])) s else done v s K
      |none=>bif P9 then K (.ok (.Du [z,.bool false])) s else done z s K)
     |_=>False
   | .fmap ents=>need (IV t (k.val env)=true) (Je t (k.val env) ents fun r=>match r with
        |some (_,v)=>bif P9 then K (.ok (.Du [v,.bool true])) s else done v s K
        |none=>bif P9 then K (.ok (.Du [z,.bool false])) s else done z s K)
   |_=>WO (.lookup t z P9 m k) env s K
 | .mapset t m k v=>match m.val env with
   | .map o g=>match nth s.σ o with
     |some (.mp g' cl ents)=>(v.val env).force fun vv=>need (g=g'∧IV t (k.val env)=true∧vv.storable=true)
       (Ag0 cl vv.closed fun cl'=>SS t (k.val env) vv ents fun Y0=>JR s.σ o (.mp g' cl' Y0) fun σ=>K (.ok .undef) ⟨σ,s.ctr⟩)
     |_=>False
   |_=>False
 | .delete t m k=>match m.val env with
   | .map o g=>match nth s.σ o with
     |some (.mp g' cl ents)=>need (g=g'∧IV t (k.val env)=true) (Je t (k.val env) ents fun r=>match r with
      |some (i,_)=>JR s.σ o (.mp g' cl (ents.eraseIdx i)) fun σ=>K (.ok .undef) ⟨σ,s.ctr⟩
      |none=>K (.ok .undef) s)
     |_=>False
   |_=>False
 | .lit own es z len parts=>Zd env parts fun ps=>need (Ry es len ps 0=true) (FQ z len ps 0 fun xs=>
    bif own then Acy (Hf ps) fun c=>U2 s (fun o g=>.own o g 0 len) (fun g=>.arr g es true c xs) K
    else bif Nat.beq len 0 then K (.ok .zc) s else need (Hf ps=true) (K (.ok (.sl true xs)) s))
 | .Xx x i=>match x.val env,i.val env with
   | .str bs,.int _ i=>need (0≤i) (BX bs i.toNat fun b=>K (.ok (.int .u8 b.toNat)) s)
   |_,_=>False
 | .slice es x lo hi=>match x.val env with
   | .sl nn xs=>Qi env xs.length lo hi fun l h=>need (Bg es xs) (eqK (sub xs l (h-l)) fun ys=>K (.ok (.sl nn ys)) s)
   | .own o g off len=>match nth s.σ o with
     |some (.arr g' es' _ _ _)=>need (g=g'∧es=es') (Qi env len lo hi fun l h=>Aeu off l fun j=>K (.ok (.own o g j (h-l))) s)
     |_=>False
   |_=>WO (.slice es x lo hi) env s K
 | .KH x lo hi=>match x.val env with
   | .str bs=>Qi env bs.length lo hi fun l h=>eqK ((bs.drop l).take (h-l)) fun r=>K (.ok (.str r)) s
   |_=>False
 | .append es bytes a x=>Yn es (x.val env) s fun ys c=>match a.val env with
   | .own o g 0 len=>match nth s.σ o with
     |some (.arr g' es' nn cl' elems)=>JG g g' es es' len nn cl' c elems ys bytes fun n nn cl es'=>JR s.σ o (.arr s.ctr es nn cl es') fun σ=>K (.ok (.own o s.ctr 0 n)) ⟨σ,s.ctr+1⟩
     |_=>False
   |v=>KZ (DY es bytes s v ys c) fun r=>done r.1 r.2 K
 | .He es bytes z len cap=>match len.val env,cap.val env with
   | .int _ l,.int _ c=>need (0≤l∧l≤c∧roomy bytes c.toNat) (eqK (List.replicate l.toNat z) fun xs=>U2 s (fun o g=>.own o g 0 l.toNat) (fun g=>.arr g es true z.closed xs) K)
   |_,_=>False
 | .ext x i=>match x.val env with
   | .Du cs=>KZ (nth cs i) fun v=>done v s K
   |_=>False
 | .call m f args=>Acx AP m f (vals env args) s K
 | .Gx m x args=>match x.val env with
   | .fn f caps=>Acx AP m f (vals env args++caps) s K
   |_=>False
 |o=>WO o env s K
theorem Aau (C:Au):Eu XB C:=fun _ _ _ _ h=>by cases h
theorem CQ (v:AV) (s:Ag) (K:AU→Ag→Prop):done v s K↔K (.ok v) s:=RG v _
theorem IW {o:Cb} {env:Env} {s:Ag} {K:AU→Ag→Prop} (h:WO o env s K):Op1 AP o env s K:=by
 obtain⟨⟨out,s'⟩,h1,h2⟩:=h
 refine⟨0,out,s',BU (Aau _) h1,?_⟩
 cases out with
 |ok v=>exact(CQ v s' K).1 h2
 |Ee v=>exact h2
theorem PD {m:Mode} {f:Nat} {args:List AV} {s:Ag} {K:AU→Ag→Prop} (h:Acx AP m f args s K):∃N out s',AZ (run AP N) m f args s=some (out,s')∧K out s':=by
 cases m with
 |pure=>
  obtain⟨hc,v,⟨N,hp⟩,hk⟩:=h
  exact⟨N,.ok v,s,by simp only[AZ,if_pos hc,hp,Option.map_some],(CQ v s K).1 hk⟩
 |borrow=>
  obtain⟨args',ha,v,⟨N,hp⟩,hs,hk⟩:=Hr h
  exact⟨N,.ok v,s,by simp only[AZ,ha,hp,if_pos hs],(CQ v s K).1 hk⟩
 |share=>
  obtain⟨N,out,s',hr,hk⟩:=h
  cases out with
  |ok r=>
   obtain⟨⟨r',s''⟩,h1,h2⟩:=hk
   exact⟨N,.ok r',s'',by simp only[AZ,hr,h1,Option.map_some],(CQ r' s'' K).1 h2⟩
  |Ee v=>
   obtain⟨h1,h2⟩:=hk
   exact⟨N,.Ee v,_,by simp only[AZ,hr,if_pos h1],h2⟩
 |own=>
  obtain⟨N,r,s',h1,h2⟩:=h
  exact⟨N,.ok r,s',h1,(CQ r s' K).1 h2⟩
 |keep=>
  obtain⟨N,out,s',hr,hk⟩:=h
  cases out with
  |ok r=>exact⟨N,.ok r,s',hr,(CQ r s' K).1 hk⟩
  |Ee v=>exact⟨N,.Ee v,s',hr,hk⟩
theorem Gz {s:Ag} {mk:Nat→Nat→AV} {ob:Nat→Obj} {K:AU→Ag→Prop}:U2 s mk ob K↔K (.ok (mk s.σ.length s.ctr)) (push s (ob s.ctr)):=OV _ _ _
theorem H6 {o:Cb} {env:Env} {s:Ag} {K:AU→Ag→Prop} (h:J9 AP o env s K):Op1 AP o env s K:=by
 cases o
 case Xl x=>exact⟨0,_,_,rfl,(CQ _ _ _).1 h⟩
 case I5 es=>simp only[J9]at h;exact⟨0,_,_,rfl,Gz.1 h⟩
 case JJ off e2 es cs=>
  simp only[J9]at h
  split at h
  case h_2=>cases h
  rename_i hoff
  obtain⟨he,h⟩:=h
  have h:=Gz.1 h
  have h:=Gz.1 h
  refine⟨0,_,_,?_,h⟩
  simp only[Af,hoff,if_pos he]
  simp[push]
 case pick c a b=>
  simp only[J9]at h
  split at h
  ·rename_i c' hc
   cases c'
   ·exact⟨0,_,_,by simp only[Af,hc],(CQ _ _ _).1 h⟩
   ·exact⟨0,_,_,by simp only[Af,hc],(CQ _ _ _).1 h⟩
  ·cases h
 case alloc es z=>simp only[J9]at h;exact⟨0,_,_,rfl,Gz.1 h⟩
 case box es x=>
  simp only[J9,force_eq]at h
  obtain⟨h1,h2⟩:=h
  exact⟨0,_,_,by simp only[Af,if_pos h1],Gz.1 h2⟩
 case build z ps=>
  obtain⟨cs,h1,h2⟩:=h
  exact⟨0,_,_,by simp only[Af,h1,Option.map_some],h2⟩
 case load sz a=>
  simp only[J9]at h
  split at h
  ·rename_i cs hv
   obtain⟨v,h1,h2⟩:=h
   exact⟨0,_,_,by simp only[Af,hv,ok,h1,Option.map_some],(CQ _ _ _).1 h2⟩
  ·rename_i o g i off hv
   split at h
   ·rename_i g' es nn cl elems ho
    obtain⟨hg,x,hx,v,h1,h2⟩:=h
    exact⟨0,_,_,by simp only[Af,hv,ho,if_pos hg,hx,ok,h1,Option.map_some],(CQ _ _ _).1 h2⟩
   ·cases h
  ·cases h
 case store sz a x=>
  simp only[J9]at h
  split at h
  ·rename_i o g i off hv
   split at h
   ·rename_i g' es nn cl elems ho
    obtain⟨hg,y,hy,h⟩:=h
    rw[force_eq]at h
    obtain⟨h1,h2⟩:=h
    rw[WR]at h2
    obtain⟨es',rfl,h2⟩:=h2
    rw[En]at h2
    exact⟨0,_,_,by simp only[Af,hv,ho,if_pos hg,hy,h1,if_true],h2⟩
   ·cases h
  ·cases h
 case OD x=>
  simp only[J9]at h
  split at h
  ·rename_i hv;exact⟨0,_,_,by simp only[Af,hv],h⟩
  ·rename_i hv;exact⟨0,_,_,by simp only[Af,hv],h⟩
  ·rename_i hv;exact⟨0,_,_,by simp only[Af,hv],h⟩
  ·cases h
 case bin op t x y=>
  obtain⟨v,h1,h2⟩:=Yk h
  exact⟨0,_,_,by simp only[Af,ok,h1,Option.map_some],h2⟩
 case un op x=>
  simp only[J9]at h
  split at h
  ·rename_i b hv
   cases b
   ·exact⟨0,_,_,by simp only[Af,hv,Bool.not_false],h⟩
   ·exact⟨0,_,_,by simp only[Af,hv,Bool.not_true],h⟩
  ·rename_i k n hv
   obtain⟨y,h1,h2⟩:=h
   exact⟨0,_,_,by simp only[Af,hv,h1],h2⟩
  ·cases h
 case conv k x=>
  simp only[J9]at h
  split at h
  ·rename_i k' n hv
   obtain⟨y,h1,h2⟩:=h
   exact⟨0,_,_,by simp only[Af,hv,h1],h2⟩
  ·cases h
 case field off sz x=>
  simp only[J9]at h
  split at h
  ·rename_i cs hv
   obtain⟨v,h1,h2⟩:=h
   exact⟨0,_,_,by simp only[Af,hv,ok,h1,Option.map_some],(CQ _ _ _).1 h2⟩
  ·cases h
 case QE off x=>
  simp only[J9]at h
  split at h
  ·rename_i hv;exact⟨0,_,_,by simp only[Af,hv],h⟩
  ·rename_i hv;exact⟨0,_,_,by simp only[Af,hv],h⟩
  ·cases h
 case QF es x i=>
  simp only[J9]at h
  split at h
  ·rename_i nn xs k n hx hi
   obtain⟨h0,v,h1,h2,h3⟩:=h
   exact⟨0,_,_,by simp only[Af,hx,hi,if_pos h0,h1,if_pos h2],h3⟩
  ·rename_i o g off len k n hx hi
   split at h
   ·rename_i g' es' nn cl elems ho
    obtain⟨h1,h2⟩:=h
    rw[WS]at h2
    exact⟨0,_,_,by simp only[Af,hx,hi,ho,if_pos h1],h2⟩
   ·cases h
  ·cases h
 case len k x=>
  simp only[J9]at h
  split at h
  ·rename_i hv
   obtain⟨n,rfl,h⟩:=h
   exact⟨0,_,_,by simp only[Af,hv],h⟩
  ·rename_i hv;exact⟨0,_,_,by simp only[Af,hv],h⟩
  ·rename_i hv;exact⟨0,_,_,by simp only[Af,hv],h⟩
  ·rename_i o g hv
   split at h
   ·rename_i g' cl ents ho
    obtain⟨h1,h2⟩:=h
    exact⟨0,_,_,by simp only[Af,hv,ho,if_pos h1],h2⟩
   ·cases h
  ·rename_i hv;exact⟨0,_,_,by simp only[Af,hv],h⟩
  ·exact IW h
 case Xx x i=>
  simp only[J9]at h
  split at h
  ·rename_i bs k n hx hi
   obtain⟨h1,b,h2,h3⟩:=h
   exact⟨0,_,_,by simp only[Af,hx,hi,if_pos h1,h2],h3⟩
  ·cases h
 case slice es x lo hi=>
  simp only[J9]at h
  split at h
  ·rename_i nn xs hx
   obtain⟨l,u,h1,h2,ys,rfl,h3⟩:=Ja h
   exact⟨0,_,_,by simp only[Af,hx,h1,if_pos h2],h3⟩
  ·rename_i o g off len hx
   split at h
   ·rename_i g' es' nn cl elems ho
    obtain⟨hg,h⟩:=h
    obtain⟨l,u,h1,h2⟩:=Ja h
    rw[WS]at h2
    exact⟨0,_,_,by simp only[Af,hx,ho,if_pos hg,h1],h2⟩
   ·cases h
  ·exact IW h
 case KH x lo hi=>
  simp only[J9]at h
  split at h
  ·rename_i bs hx
   obtain⟨l,u,h1,r,rfl,h2⟩:=Ja h
   exact⟨0,_,_,by simp only[Af,hx,h1],h2⟩
  ·cases h
 case NH=>simp only[J9]at h;exact⟨0,_,_,rfl,Gz.1 h⟩
 case lookup t z P9 m k=>
  simp only[J9]at h
  split at h
  ·rename_i o g hv
   split at h
   ·rename_i g' cl ents ho
    obtain⟨h1,r,h2,h3⟩:=h
    cases r with
    |none=>
     cases P9
     ·exact⟨0,_,_,by simp only[Af,hv,ho,if_pos h1,h2];rfl,(CQ _ _ _).1 h3⟩
     ·exact⟨0,_,_,by simp only[Af,hv,ho,if_pos h1,h2];rfl,h3⟩
    |some p=>
     cases P9
     ·exact⟨0,_,_,by simp only[Af,hv,ho,if_pos h1,h2];rfl,(CQ _ _ _).1 h3⟩
     ·exact⟨0,_,_,by simp only[Af,hv,ho,if_pos h1,h2];rfl,h3⟩
   ·cases h
  ·rename_i ents hv
   obtain⟨h1,r,h2,h3⟩:=h
   cases r with
   |none=>
    cases P9
    ·exact⟨0,_,_,by simp only[Af,hv,if_pos h1,h2];rfl,(CQ _ _ _).1 h3⟩
    ·exact⟨0,_,_,by simp only[Af,hv,if_pos h1,h2];rfl,h3⟩
   |some p=>
    cases P9
    ·exact⟨0,_,_,by simp only[Af,hv,if_pos h1,h2];rfl,(CQ _ _ _).1 h3⟩
    ·exact⟨0,_,_,by simp only[Af,hv,if_pos h1,h2];rfl,h3⟩
  ·exact IW h
 case mapset t m k v=>
  simp only[J9]at h
  split at h
  ·rename_i o g hv
   split at h
   ·rename_i g' cl ents ho
    rw[force_eq]at h
    obtain⟨h1,h2⟩:=h
    rw[WR]at h2
    obtain⟨r,h2,h3⟩:=h2
    rw[En]at h3
    cases r with
    |none=>exact⟨0,_,_,by simp only[Af,hv,ho,if_pos h1,h2];rfl,h3⟩
    |some p=>exact⟨0,_,_,by simp only[Af,hv,ho,if_pos h1,h2];rfl,h3⟩
   ·cases h
  ·cases h
 case delete t m k=>
  simp only[J9]at h
  split at h
  ·rename_i o g hv
   split at h
   ·rename_i g' cl ents ho
    obtain⟨h1,r,h2,h3⟩:=h
    cases r with
    |none=>exact⟨0,_,_,by simp only[Af,hv,ho,if_pos h1,h2],h3⟩
    |some p=>
     simp only at h3
     rw[En]at h3
     exact⟨0,_,_,by simp only[Af,hv,ho,if_pos h1,h2],h3⟩
   ·cases h
  ·cases h
 case lit own es z len parts=>
  simp only[J9,Ub]at h
  obtain⟨h1,h2⟩:=h
  rw[Gs]at h2
  cases own
  ·rw[cond_false]at h2
   cases hb:Nat.beq len 0
   ·rw[hb,cond_false]at h2
    have hne:len≠0:=fun e=>by subst e;simp at hb
    exact⟨0,_,_,by simp only[Af,if_pos h1,if_neg hne,if_pos h2.1];rfl,h2.2⟩
   ·rw[hb,cond_true]at h2
    have he:len=0:=Nat.eq_of_beq_eq_true hb
    exact⟨0,_,_,by simp only[Af,if_pos h1,if_pos he];rfl,h2⟩
  ·rw[cond_true,Ym]at h2
   exact⟨0,_,_,by simp only[Af,if_pos h1,if_true],Gz.1 h2⟩
 case append es bytes a x=>
  simp only[J9]at h
  obtain⟨ys,cl,h1,h⟩:=U3 h
  split at h
  ·rename_i o g len hv
   split at h
   ·rename_i g' es' nn cl' elems ho
    obtain⟨h2,h3⟩:=h
    rw[En]at h3
    exact⟨0,_,_,by simp only[Af,h1,hv,DY,ho,if_pos h2,Option.map_some],h3⟩
   ·cases h
  ·obtain⟨⟨v,s'⟩,h2,h3⟩:=h
   exact⟨0,_,_,by simp only[Af,h1,h2,Option.map_some],(CQ _ _ _).1 h3⟩
 case He es bytes z len cap=>
  simp only[J9]at h
  split at h
  ·rename_i k l k' c hl hc
   obtain⟨h1,xs,rfl,h2⟩:=h
   exact⟨0,_,_,by simp only[Af,hl,hc,if_pos h1],Gz.1 h2⟩
  ·cases h
 case ext x i=>
  simp only[J9]at h
  split at h
  ·rename_i cs hv
   obtain⟨v,h1,h2⟩:=h
   exact⟨0,_,_,by simp only[Af,hv,ok,h1,Option.map_some],(CQ _ _ _).1 h2⟩
  ·cases h
 case call m f args=>exact PD h
 case Gx m x args=>
  simp only[J9]at h
  split at h
  ·rename_i f caps hv
   obtain⟨N,out,s',h1,h2⟩:=PD h
   exact⟨N,out,s',by simp only[Af,hv];exact h1,h2⟩
  ·cases h
 all_goals exact IW h
end AI
end Go.Proofs.YtjjhejbffgaabaaGreatDoor
namespace Go.Proofs.YtjjhejbffgaabaaGreatDoor
namespace AI
open Go.RowKit
variable {AP:Nat→Option GY}
def Fp (g:Option (Nat×Bool)) (env:Env) (t e:Prop):Prop:=match g with
 |none=>t
 |some (r,b)=>match env.get r with
  | .bool b'=>Ku (b'==b) t e
  | .undef=>e
  |_=>False
def AcA (k:Env→Ag→Prop) (d:Option Nat) (env:Env) (Q:Ar→Env→Ag→Prop) (out:AU) (s:Ag):Prop:=match out with
 | .ok v=>k (put d v env) s
 | .Ee v=>Q (.Ee v) env s
def WT (AP:Nat→Option GY) (ops:List Aw):Env→Ag→(Ar→Env→Ag→Prop)→Prop:=
 List.rec (motive:=fun _=>Env→Ag→(Ar→Env→Ag→Prop)→Prop) (fun env s Q=>Q .normal env s)
    (fun o _ ih env s Q=>Fp o.guard env (J9 AP o.op env s (AcA (fun env s=>ih env s Q) o.dst env Q)) (ih (put o.dst .undef env) s Q)) ops
theorem Aav (o:Aw) (os:List Aw) (env:Env) (s:Ag) (Q:Ar→Env→Ag→Prop):WT AP (o::os) env s Q=Fp o.guard env
 (J9 AP o.op env s (AcA (fun env s=>WT AP os env s Q) o.dst env Q))
 (WT AP os (put o.dst .undef env) s Q):=rfl
theorem Ko:∀{os:List Aw} {env:Env} {s:Ag} {Q:Ar→Env→Ag→Prop},WT AP os env s Q→Ops AP os env s Q
 |[],env,s,Q,h=>⟨0,_,_,_,rfl,h⟩
 |o::os,env,s,Q,h=>by
  have Le:wanted o.guard env=some false→WT AP os (put o.dst .undef env) s Q→Ops AP (o::os) env s Q:=by
   intro hw h
   obtain⟨N,e,env',s',h1,h2⟩:=Ko h
   exact⟨N,e,env',s',by simp only[Di,hw];exact h1,h2⟩
  have hdo:wanted o.guard env=some true→J9 AP o.op env s (AcA (fun env s=>WT AP os env s Q) o.dst env Q)→Ops AP (o::os) env s Q:=by
   intro hw h
   obtain⟨N,out,s1,h1,h2⟩:=H6 h
   cases out with
   |ok v=>
    obtain⟨N',e,env',s',h3,h4⟩:=Ko h2
    refine⟨max N N',e,env',s',?_,h4⟩
    simp only[Di,hw,BU (Bz (Nat.le_max_left N N')) h1]
    exact EO (Bz (Nat.le_max_right N N')) h3
   |Ee v=>exact⟨N,_,_,_,by simp only[Di,hw,h1],h2⟩
  rw[Aav]at h
  unfold Fp at h
  split at h
  ·rename_i hg
   exact hdo (by rw[hg];rfl) h
  ·rename_i r b hg
   split at h
   ·rename_i b' hb
    cases hbb:(b'==b)
    ·rw[hbb]at h
     exact Le (by rw[hg];simp only[wanted,hb,hbb]) h
    ·rw[hbb]at h
     exact hdo (by rw[hg];simp only[wanted,hb,hbb]) h
   ·rename_i hb
    exact Le (by rw[hg];simp only[wanted,hb]) h
   ·cases h
def Kq:List Nat→Env→(Env→Prop)→Prop
 |[],_,K=>K []
 |t::ts,env,K=>(env.get t).force fun v=>Kq ts env fun e=>K ((t,v)::e)
theorem Ea:∀(ts:List Nat) (env:Env) (K:Env→Prop),Kq ts env K↔K (commit env ts)
 |[],_,_=>Iff.rfl
 |t::ts,env,K=>by
  simp only[Kq,force_eq,commit]
  exact Ea ts env _
def RI:List Nat→Env→Ag→(Env→Ag→Prop)→Prop
 |[],env,s,K=>K env s
 |t::ts,env,s,K=>match env.get t with
  | .own o g off len=>match nth s.σ o with
    |some (.arr g' _ nn cl elems)=>need (g=g'∧cl=true∧off+len≤elems.length) (eqK (sub elems off len) fun xs=>JR s.σ o .dead fun σ=>RI ts ((t,.sl nn xs)::env) ⟨σ,s.ctr⟩ K)
    |_=>False
  | .ref o g i off=>match nth s.σ o with
    |some (.arr g' _ nn cl elems)=>match cl,elems with
     |false,[x]=>match Lu x.cells 0 with
      |some (k,o2,g2,a2,n2)=>match nth s.σ o2 with
       |some (.arr g3 _ nn3 cl3 Il)=>need ((g=g'∧i=0∧off=0∧g2=g3∧o2≠o∧a2+n2≤Il.length∧cl3=true)∧DU (x.cells.set k (.sl nn3 (sub Il a2 n2)))=true) (eqK (sub Il a2 n2) fun xs=>JR s.σ o2 .dead fun σ1=>JR σ1 o .dead fun σ2=>RI ts ((t,.CO (x.cells.set k (.sl nn3 xs)))::env) ⟨σ2,s.ctr⟩ K)
       |_=>False
      |none=>False
     |cl,elems=>need (g=g'∧cl=true) (BX elems i fun x=>JR s.σ o .dead fun σ=>RI ts ((t,.CO (x.cells.drop off))::env) ⟨σ,s.ctr⟩ K)
    |_=>False
  | .map o g=>match nth s.σ o with
    |some (.mp g' cl ents)=>need (g=g'∧cl=true∧QT ents=true) (JR s.σ o .dead fun σ=>RI ts ((t,.fmap ents)::env) ⟨σ,s.ctr⟩ K)
    |_=>False
  | .sl nn xs=>RI ts ((t,.sl nn xs)::env) s K
  | .zc=>RI ts ((t,.zc)::env) s K
  |_=>False
theorem Em:∀{ts:List Nat} {env:Env} {s:Ag} {K:Env→Ag→Prop},RI ts env s K→∃env' s',EZ ts env s=some (env',s')∧K env' s'
 |[],env,s,K,h=>⟨env,s,rfl,h⟩
 |t::ts,env,s,K,h=>by
  simp only[RI]at h
  split at h
  ·rename_i o g off len hv
   split at h
   ·rename_i g' es nn cl elems ho
    obtain⟨⟨rfl,rfl,hf⟩,xs,rfl,h⟩:=h
    rw[En]at h
    obtain⟨env',s',h1,h2⟩:=Em h
    exact⟨env',s',by simp only[EZ,hv,ho,true_and,if_pos hf];exact h1,h2⟩
   ·cases h
  ·rename_i o g i off hv
   split at h
   ·rename_i g' es nn cl elems ho
    split at h
    ·rename_i x
     split at h
     ·rename_i k o2 g2 a2 n2 hoc
      split at h
      ·rename_i g3 es3 nn3 cl3 Il ho2
       obtain⟨⟨⟨hq1,hq2,hq3,hq4,hq5,hq6,rfl⟩,hcl⟩,xs,rfl,h⟩:=h
       rw[En,En]at h
       obtain⟨env',s',h1,h2⟩:=Em h
       refine⟨env',s',?_,h2⟩
       simp only[EZ,hv,ho,hoc,ho2]
       rw[if_pos ⟨hq1,hq2,hq3,hq4,hq5,hq6,hcl⟩]
       exact h1
      ·cases h
     ·cases h
    ·obtain⟨⟨rfl,rfl⟩,⟨x,hx,h⟩⟩:=h
     rw[En]at h
     obtain⟨env',s',h1,h2⟩:=Em h
     exact⟨env',s',by simp only[EZ,hv,ho,if_pos,hx];exact h1,h2⟩
   ·cases h
  ·rename_i o g hv
   split at h
   ·rename_i g' cl ents ho
    obtain⟨⟨rfl,rfl,hk⟩,h⟩:=h
    rw[En]at h
    obtain⟨env',s',h1,h2⟩:=Em h
    exact⟨env',s',by simp only[EZ,hv,ho,true_and,if_pos hk];exact h1,h2⟩
   ·cases h
  ·rename_i nn xs hv
   obtain⟨env',s',h1,h2⟩:=Em h
   exact⟨env',s',by simp only[EZ,hv];exact h1,h2⟩
  ·rename_i hv
   obtain⟨env',s',h1,h2⟩:=Em h
   exact⟨env',s',by simp only[EZ,hv];exact h1,h2⟩
  ·cases h
def Uc {α:Type}:Nat→List α→(List α→Prop)→Prop
 |0,_,K=>K []
 |_+1,[],K=>K []
 |n+1,x::xs,K=>Uc n xs fun ys=>K (x::ys)
theorem OY {α:Type}:∀(n:Nat) (l:List α) (K:List α→Prop),Uc n l K↔K (l.take n)
 |0,_,_=>by simp[Uc]
 |_+1,[],_=>by simp[Uc]
 |n+1,x::xs,K=>OY n xs fun ys=>K (x::ys)
def AcB (tr:Option Nat) (s:Ag) (K:Ag→Prop):Prop:=match tr with
 |none=>K s
 |some k=>Uc (kept k s.σ.length) s.σ fun σ=>K ⟨σ,s.ctr⟩
theorem Na (tr:Option Nat) (s:Ag) (K:Ag→Prop):AcB tr s K↔K (truncate tr s):=by
 cases tr with
 |none=>exact Iff.rfl
 |some k=>exact OY _ s.σ _
def AcC (live:List Nat) (tr:Option Nat) (Q:Ar→Env→Ag→Prop) (e:Ar) (env:Env) (s:Ag):Prop:=match e with
 | .normal=>Kq live env fun env=>AcB tr s fun s=>Q .normal env s
 |e=>Q e env s
def SE (k:Env→Ag→Prop) (Q:Ar→Env→Ag→Prop) (e:Ar) (env:Env) (s:Ag):Prop:=match e with
 | .normal=>k env s
 |e=>Q e env s
def Abq (id:Nat) (Q:Ar→Env→Ag→Prop) (e:Ar) (env:Env) (s:Ag):Prop:=match e with
 | .exit j=>Ku (Nat.beq j id) (Q .normal env s) (Q (.exit j) env s)
 |e=>Q e env s
def U5 (AP:Nat→Option GY) (o:Cb) (r g:Nat) (env:Env) (s:Ag) (K:AV→Option (Nat×Obj)→Nat→Prop):Prop:=
 J9 AP o env s fun out s'=>match out with
    | .Ee _=>False
    | .ok v=>match o.cls with
      |some .e=>K v none 0
      |some .r=>K v none 0
      |some .w=>match o.writes r env with
       |[t]=>match nth s'.σ t with
        |some ob=>K v (some (t,ob)) 0
        |none=>False
       |_=>False
      |some .a=>match nth s'.σ v.idx with
       |some ob=>bif Nat.blt v.idx s.σ.length then K (v.moved v.idx g) (some (v.idx,ob.O9 g)) 1
        else match nth s.σ r with
           |some .dead=>K (v.moved r g) (some (r,ob.O9 g)) 1
           |_=>False
       |none=>False
      |none=>False
theorem U6 {o:Cb} {r g:Nat} {env:Env} {s:Ag} {K:AV→Option (Nat×Obj)→Nat→Prop} (h:U5 AP o r g env s K):∃N v u b,Ij (run AP N) o r g env s=some (v,u,b)∧K v u b:=by
 obtain⟨N,out,s',h1,h2⟩:=H6 h
 cases out with
 |Ee v=>cases h2
 |ok v=>
  simp only at h2
  split at h2
  ·rename_i hc;exact⟨N,_,_,_,by simp only[Ij,hc,h1],h2⟩
  ·rename_i hc;exact⟨N,_,_,_,by simp only[Ij,hc,h1],h2⟩
  ·rename_i hc
   split at h2
   ·rename_i t ht
    split at h2
    ·rename_i ob hob;exact⟨N,_,_,_,by simp only[Ij,hc,h1,ht,hob],h2⟩
    ·cases h2
   ·cases h2
  ·rename_i hc
   split at h2
   ·rename_i ob hob
    cases hb:Nat.blt v.idx s.σ.length
    ·rw[hb,cond_false]at h2
     have hlt:¬v.idx<s.σ.length:=fun hlt=>by
      have:=(show (Nat.blt v.idx s.σ.length=true) from Nat.blt_eq▸hlt)
      rw[hb]at this;cases this
     split at h2
     ·rename_i hd
      exact⟨N,_,_,_,by simp only[Ij,hc,h1,hob,if_neg hlt,hd],h2⟩
     ·cases h2
    ·rw[hb,cond_true]at h2
     exact⟨N,_,_,_,by simp only[Ij,hc,h1,hob,if_pos (show v.idx<s.σ.length from Nat.blt_eq▸hb)],h2⟩
   ·cases h2
  ·cases h2
def LM (u:Option (Nat×Obj)) (b:Nat) (s:Ag) (K:Ag→Prop):Prop:=match u with
 |some (t,ob)=>JR s.σ t ob fun σ=>K ⟨σ,s.ctr+b⟩
 |none=>K ⟨s.σ,s.ctr+b⟩
theorem PE (u:Option (Nat×Obj)) (b:Nat) (s:Ag) (K:Ag→Prop):LM u b s K↔K (EN u b s):=by
 unfold LM EN
 split
 ·exact En _ _ _ _
 ·exact Iff.rfl
def Yo (AP:Nat→Option GY) (ops:List Aw):Nat→Nat→Env→Ag→(List Eff→Prop)→Prop:=
 List.rec (motive:=fun _=>Nat→Nat→Env→Ag→(List Eff→Prop)→Prop) (fun _ _ _ _ K=>K [])
    (fun o _ ih r g env s K=>Fp o.guard env
      (U5 AP o.op r g env s fun v u b=>LM u b s fun s'=>ih (r+rank o.op) (g+1) (put o.dst v env) s' fun es=>K (⟨o.dst,v,o.op.reads r env,o.op.writes r env,u,b⟩::es))
      (ih (r+rank o.op) (g+1) (put o.dst .undef env) s fun es=>K (⟨o.dst,.undef,[],[],none,0⟩::es))) ops
theorem Aaw (o:Aw) (os:List Aw) (r g:Nat) (env:Env) (s:Ag) (K:List Eff→Prop):Yo AP (o::os) r g env s K=Fp o.guard env
 (U5 AP o.op r g env s fun v u b=>LM u b s fun s'=>Yo AP os (r+rank o.op) (g+1) (put o.dst v env) s' fun es=>K (⟨o.dst,v,o.op.reads r env,o.op.writes r env,u,b⟩::es))
 (Yo AP os (r+rank o.op) (g+1) (put o.dst .undef env) s fun es=>K (⟨o.dst,.undef,[],[],none,0⟩::es)):=rfl
theorem Nb:∀{os:List Aw} {r g:Nat} {env:Env} {s:Ag} {K:List Eff→Prop},Yo AP os r g env s K→∃N es,G5 (run AP N) os r g env s=some es∧K es
 |[],r,g,env,s,K,h=>⟨0,_,rfl,h⟩
 |o::os,r,g,env,s,K,h=>by
  have Le:wanted o.guard env=some false→(Yo AP os (r+rank o.op) (g+1) (put o.dst .undef env) s fun es=>K (⟨o.dst,.undef,[],[],none,0⟩::es))→∃N es,G5 (run AP N) (o::os) r g env s=some es∧K es:=by
   intro hw h
   obtain⟨N,es,h1,h2⟩:=Nb h
   exact⟨N,_,by simp only[G5,hw,h1],h2⟩
  have hdo:wanted o.guard env=some true→(U5 AP o.op r g env s fun v u b=>LM u b s fun s'=>Yo AP os (r+rank o.op) (g+1) (put o.dst v env) s' fun es=>K (⟨o.dst,v,o.op.reads r env,o.op.writes r env,u,b⟩::es))→∃N es,G5 (run AP N) (o::os) r g env s=some es∧K es:=by
   intro hw h
   obtain⟨N,v,u,b,h1,h2⟩:=U6 h
   rw[PE]at h2
   obtain⟨N',es,h3,h4⟩:=Nb h2
   refine⟨max N N',_,?_,h4⟩
   simp only[G5,hw,QZ (Bz (Nat.le_max_left N N')) h1,Io (Bz (AP:=AP) (Nat.le_max_right N N')) h3]
  rw[Aaw]at h
  unfold Fp at h
  split at h
  ·rename_i hg
   exact hdo (by rw[hg];rfl) h
  ·rename_i r' b hg
   split at h
   ·rename_i b' hb
    cases hbb:(b'==b)
    ·rw[hbb]at h
     exact Le (by rw[hg];simp only[wanted,hb,hbb]) h
    ·rw[hbb]at h
     exact hdo (by rw[hg];simp only[wanted,hb,hbb]) h
   ·rename_i hb
    exact Le (by rw[hg];simp only[wanted,hb]) h
   ·cases h
def AcD {α:Type}:List α→List α→(List α→Prop)→Prop
 |[],ys,K=>K ys
 |x::xs,ys,K=>AcD xs ys fun r=>K (x::r)
theorem Ud {α:Type}:∀(xs ys:List α) (K:List α→Prop),AcD xs ys K↔K (xs++ys)
 |[],_,_=>Iff.rfl
 |x::xs,ys,K=>Ud xs ys _
def Qj:List Eff→Ag→(Ag→Prop)→Prop
 |[],s,K=>K s
 |e::es,s,K=>LM e.upd e.bump s fun s=>Qj es s K
theorem PG:∀(es:List Eff) (s:Ag) (K:Ag→Prop),Qj es s K↔K (KP es s)
 |[],_,_=>Iff.rfl
 |e::es,s,K=>by rw[Qj,PE,KP];exact PG es _ K
def Ag1 (n:Nat) (σ:List Obj) (K:List Obj→Prop):Prop:=match n with
 |0=>K σ
 |n+1=>AcD σ (List.replicate (n+1) .dead) K
theorem AcE (n:Nat) (σ:List Obj) (K:List Obj→Prop):Ag1 n σ K↔K (σ++List.replicate n .dead):=by
 cases n with
 |zero=>simp[Ag1]
 |succ n=>exact Ud _ _ _
def WU {α:Type}:Nat→List α→(List α→Prop)→Prop
 |0,xs,K=>K xs
 |_+1,[],K=>K []
 |n+1,_::xs,K=>WU n xs K
theorem Ue {α:Type}:∀(n:Nat) (l:List α) (K:List α→Prop),WU n l K↔K (l.drop n)
 |0,_,_=>by simp[WU]
 |_+1,[],_=>by simp[WU]
 |n+1,_::xs,K=>Ue n xs K
def AcF (AP:Nat→Option GY) (m:Nat) (un:List (Nat×Nat)) (ops:List Aw) (env:Env) (s:Ag) (K:Env→Ag→Prop):Prop:=
 Uc m ops fun hd=>Ag1 (ranks hd) s.σ fun σ=>Yo AP hd s.σ.length s.ctr env ⟨σ,s.ctr+m⟩ fun es=>
    need (Jw es un=true) (Qj es ⟨σ,s.ctr+m⟩ fun s1=>K (MO es env) s1)
theorem WV {m:Nat} {un:List (Nat×Nat)} {ops:List Aw} {env:Env} {s:Ag} {K:Env→Ag→Prop} (h:AcF AP m un ops env s K):∃N BI s1,KR (run AP N) m un ops env s=some (BI,s1)∧K BI s1:=by
 unfold AcF at h
 rw[OY,AcE]at h
 obtain⟨N,es,h1,h2,h3⟩:=Nb h
 rw[PG]at h3
 exact⟨N,_,_,by simp only[KR,h1,if_pos h2],h3⟩
def AcG (AP:Nat→Option GY) (op:Cb) (env:Env) (v:AV):List Ag→Prop→Prop
 |[],T=>T
 |S::r,T=>J9 AP op env S fun out _=>match out with
  | .ok u=>need (Gp u v=true) (AcG AP op env v r T)
  | .Ee _=>False
def AcH (AP:Nat→Option GY) (S:Ag):List (Cb×Env×AV)→Prop→Prop
 |[],T=>T
 |(op,env,v)::r,T=>J9 AP op env S fun out _=>match out with
  | .ok u=>need (Gp u v=true) (AcH AP S r T)
  | .Ee _=>False
theorem PI {op:Cb} {env:Env} {v:AV}:∀{past:List Ag} {T:Prop},AcG AP op env v past T→(∃ N,JU (run AP N) op env v past=true)∧T
 |[],T,h=>⟨⟨0,rfl⟩,h⟩
 |S::r,T,h=>by
  obtain⟨N,out,s',h1,h2⟩:=H6 h
  cases out with
  |Ee u=>exact h2.elim
  |ok u=>
   obtain⟨h3,h4⟩:=h2
   obtain⟨⟨N',h5⟩,h6⟩:=PI h4
   refine⟨⟨max N N',?_⟩,h6⟩
   simp only[JU,BU (Bz (Nat.le_max_left N N')) h1,h3,IK (Bz (Nat.le_max_right N N')) h5,Bool.and_self]
theorem PK {S:Ag}:∀{pend:List (Cb×Env×AV)} {T:Prop},AcH AP S pend T→(∃ N,JV (run AP N) S pend=true)∧T
 |[],T,h=>⟨⟨0,rfl⟩,h⟩
 |(op,env,v)::r,T,h=>by
  obtain⟨N,out,s',h1,h2⟩:=H6 h
  cases out with
  |Ee u=>exact h2.elim
  |ok u=>
   obtain⟨h3,h4⟩:=h2
   obtain⟨⟨N',h5⟩,h6⟩:=PK h4
   refine⟨⟨max N N',?_⟩,h6⟩
   simp only[JV,BU (Bz (Nat.le_max_left N N')) h1,h3,IL (Bz (Nat.le_max_right N N')) h5,Bool.and_self]
def Lh (AP:Nat→Option GY) (E:List Nat) (ops:List Aw):Nat→Env→Ag→Prop→Prop:=
 List.rec (motive:=fun _=>Nat→Env→Ag→Prop→Prop) (fun _ _ _ T=>T)
    (fun o _ ih i env s T=>bif DJ i E then Fp o.guard env
      (J9 AP o.op env s fun out _=>match out with
        | .ok v=>bif flt o then ih (i+1) (put o.dst v env) s T else False
        | .Ee _=>False)
      (ih (i+1) (put o.dst .undef env) s T)
      else ih (i+1) env s T) ops
theorem WW (E:List Nat) (o:Aw) (os:List Aw) (i:Nat) (env:Env) (s:Ag) (T:Prop):Lh AP E (o::os) i env s T=bif DJ i E then Fp o.guard env
        (J9 AP o.op env s fun out _=>match out with
          | .ok v=>bif flt o then Lh AP E os (i+1) (put o.dst v env) s T else False
          | .Ee _=>False)
        (Lh AP E os (i+1) (put o.dst .undef env) s T)
 else Lh AP E os (i+1) env s T:=rfl
theorem Ht {E:List Nat}:∀{os:List Aw} {i:Nat} {env:Env} {s:Ag} {T:Prop},Lh AP E os i env s T→(∃ N,Eh (run AP N) E os i env s=true)∧T
 |[],i,env,s,T,h=>⟨⟨0,rfl⟩,h⟩
 |o::os,i,env,s,T,h=>by
  rw[WW]at h
  cases hm:DJ i E with
  |false=>
   rw[hm,cond_false]at h
   obtain⟨⟨N,h1⟩,h2⟩:=Ht h
   exact⟨⟨N,by simp only[Eh,hm,Bool.false_eq_true,if_false];exact h1⟩,h2⟩
  |true=>
   rw[hm,cond_true]at h
   have Le:wanted o.guard env=some false→Lh AP E os (i+1) (put o.dst .undef env) s T→(∃ N,Eh (run AP N) E (o::os) i env s=true)∧T:=by
        intro hw h
        obtain⟨⟨N,h1⟩,h2⟩:=Ht h
        exact⟨⟨N,by simp only[Eh,hm,if_true,hw];exact h1⟩,h2⟩
   have hdo:wanted o.guard env=some true→(J9 AP o.op env s fun out _=>match out with
    | .ok v=>bif flt o then Lh AP E os (i+1) (put o.dst v env) s T else False
    | .Ee _=>False)→(∃ N,Eh (run AP N) E (o::os) i env s=true)∧T:=by
        intro hw h
        obtain⟨N,out,s1,h1,h2⟩:=H6 h
        cases out with
        |Ee v=>exact h2.elim
        |ok v=>
         dsimp only at h2
         cases hf:flt o with
         |false=>rw[hf]at h2;exact h2.elim
         |true=>
          rw[hf,cond_true]at h2
          obtain⟨⟨N',h3⟩,h4⟩:=Ht h2
          refine⟨⟨max N N',?_⟩,h4⟩
          simp only[Eh,hm,if_true,hw,BU (Bz (AP:=AP) (Nat.le_max_left N N')) h1,hf,EX (Bz (AP:=AP) (Nat.le_max_right N N')) h3,Bool.and_self]
   unfold Fp at h
   split at h
   ·rename_i hg
    exact hdo (by rw[hg];rfl) h
   ·rename_i r b hg
    split at h
    ·rename_i b' hb
     cases hbb:(b'==b)
     ·rw[hbb]at h
      exact Le (by rw[hg];simp only[wanted,hb,hbb]) h
     ·rw[hbb]at h
      exact hdo (by rw[hg];simp only[wanted,hb,hbb]) h
    ·rename_i hb
     exact Le (by rw[hg];simp only[wanted,hb]) h
    ·cases h
def WX (AP:Nat→Option GY) (m:Nat) (W pc:List Nat) (o:Aw) (os:List Aw) (i:Nat) (k:Env→Ag→List (Cb×Env×AV)→List Ag→Prop) (Q:Ar→Env→Ag→Prop) (env:Env) (s:Ag) (pend:List (Cb×Env×AV)) (past:List Ag) (out:AU) (s1:Ag):Prop:=match out with
 | .Ee v=>match pc with
   |p::E=>bif Nat.beq i p&&!(DJ i W||(flt o||Nat.blt i m))then Lh AP E os (i+1) env s (Q (.Ee v) [] s1)else False
   |[]=>False
 | .ok v=>bif DJ i W then bif o.op.E5 then AcG AP o.op env v past (k (put o.dst v env) s ((o.op,env,v)::pend) past)else False
   else bif flt o||Nat.blt i m then k (put o.dst v env) s pend past
   else AcH AP s1 pend (k (put o.dst v env) s1 pend (s::past))
def Yp (AP:Nat→Option GY) (m:Nat) (W pc:List Nat) (ops:List Aw):Nat→Env→Ag→List (Cb×Env×AV)→List Ag→(Ar→Env→Ag→Prop)→Prop:=
 List.rec (motive:=fun _=>Nat→Env→Ag→List (Cb×Env×AV)→List Ag→(Ar→Env→Ag→Prop)→Prop) (fun _ env s _ _ K=>K .normal env s)
    (fun o os ih i env s pend past K=>Fp o.guard env (J9 AP o.op env s (WX AP m W pc o os i (fun env s pend past=>ih (i+1) env s pend past K) K env s pend past))
      (ih (i+1) (put o.dst .undef env) s pend past K)) ops
theorem Aax (m:Nat) (W pc:List Nat) (o:Aw) (os:List Aw) (i:Nat) (env:Env) (s:Ag) (pend:List (Cb×Env×AV)) (past:List Ag) (K:Ar→Env→Ag→Prop):Yp AP m W pc (o::os) i env s pend past K=Fp o.guard env
 (J9 AP o.op env s (WX AP m W pc o os i (fun env s pend past=>Yp AP m W pc os (i+1) env s pend past K) K env s pend past))
 (Yp AP m W pc os (i+1) (put o.dst .undef env) s pend past K):=rfl
theorem Iw {m:Nat} {W pc:List Nat}:∀{os:List Aw} {i:Nat} {env:Env} {s:Ag} {pend:List (Cb×Env×AV)} {past:List Ag} {K:Ar→Env→Ag→Prop},Yp AP m W pc os i env s pend past K→∃N x env' s',FM (run AP N) m W pc os i env s pend past=some (x,env',s')∧K x env' s'
 |[],i,env,s,pend,past,K,h=>⟨0,_,_,_,rfl,h⟩
 |o::os,i,env,s,pend,past,K,h=>by
  have Le:wanted o.guard env=some false→Yp AP m W pc os (i+1) (put o.dst .undef env) s pend past K→∃N x env' s',FM (run AP N) m W pc (o::os) i env s pend past=some (x,env',s')∧K x env' s':=by
   intro hw h
   obtain⟨N,x,env',s',h1,h2⟩:=Iw h
   exact⟨N,x,env',s',by simp only[FM,hw];exact h1,h2⟩
  have hdo:wanted o.guard env=some true→J9 AP o.op env s (WX AP m W pc o os i (fun env s pend past=>Yp AP m W pc os (i+1) env s pend past K) K env s pend past)→∃N x env' s',FM (run AP N) m W pc (o::os) i env s pend past=some (x,env',s')∧K x env' s':=by
   intro hw h
   obtain⟨N,out,s1,h1,h2⟩:=H6 h
   cases out with
   |Ee v=>
    simp only[WX]at h2
    cases pc with
    |nil=>exact h2.elim
    |cons p E=>
     dsimp only at h2
     cases hc:(Nat.beq i p&&!(DJ i W||(flt o||Nat.blt i m)))with
     |false=>rw[hc]at h2;exact h2.elim
     |true=>
      rw[hc,cond_true]at h2
      obtain⟨⟨N1,h3⟩,h4⟩:=Ht h2
      refine⟨max N N1,_,_,_,?_,h4⟩
      simp only[FM,hw,BU (Bz (AP:=AP) (Nat.le_max_left N N1)) h1,hc,EX (Bz (AP:=AP) (Nat.le_max_right N N1)) h3,Bool.and_self,if_true]
   |ok v=>
    simp only[WX]at h2
    cases hm:DJ i W with
    |true=>
     rw[hm,cond_true]at h2
     cases hp:o.op.E5 with
     |false=>rw[hp]at h2;exact h2.elim
     |true=>
      rw[hp,cond_true]at h2
      obtain⟨⟨N1,h3⟩,h4⟩:=PI h2
      obtain⟨N2,x,env',s',h5,h6⟩:=Iw h4
      refine⟨max N (max N1 N2),x,env',s',?_,h6⟩
      simp only[FM,hw,BU (Bz (AP:=AP) (Nat.le_max_left N (max N1 N2))) h1,hm,hp,IK (Bz (AP:=AP) (show N1≤max N (max N1 N2) by omega)) h3,Bool.and_self,if_true]
      exact Ei (Bz (show N2≤max N (max N1 N2) by omega)) h5
    |false=>
     rw[hm,cond_false]at h2
     cases hf:(flt o||Nat.blt i m)with
     |true=>
      rw[hf,cond_true]at h2
      obtain⟨N2,x,env',s',h5,h6⟩:=Iw h2
      refine⟨max N N2,x,env',s',?_,h6⟩
      simp only[FM,hw,BU (Bz (AP:=AP) (Nat.le_max_left N N2)) h1,hm,hf,if_true,Bool.false_eq_true,if_false]
      exact Ei (Bz (Nat.le_max_right N N2)) h5
     |false=>
      rw[hf,cond_false]at h2
      obtain⟨⟨N1,h3⟩,h4⟩:=PK h2
      obtain⟨N2,x,env',s',h5,h6⟩:=Iw h4
      refine⟨max N (max N1 N2),x,env',s',?_,h6⟩
      simp only[FM,hw,BU (Bz (AP:=AP) (Nat.le_max_left N (max N1 N2))) h1,hm,hf,IL (Bz (AP:=AP) (show N1≤max N (max N1 N2) by omega)) h3,if_true,Bool.false_eq_true,if_false]
      exact Ei (Bz (show N2≤max N (max N1 N2) by omega)) h5
  rw[Aax]at h
  unfold Fp at h
  split at h
  ·rename_i hg
   exact hdo (by rw[hg];rfl) h
  ·rename_i r b hg
   split at h
   ·rename_i b' hb
    cases hbb:(b'==b)
    ·rw[hbb]at h
     exact Le (by rw[hg];simp only[wanted,hb,hbb]) h
    ·rw[hbb]at h
     exact hdo (by rw[hg];simp only[wanted,hb,hbb]) h
   ·rename_i hb
    exact Le (by rw[hg];simp only[wanted,hb]) h
   ·cases h
def AcI (v:AV) (A B:Prop):Prop:=match v with
 | .bool c=>Ku c A B
 |_=>False
def vC (AP:Nat→Option GY) (c:AA):Env→Ag→(Ar→Env→Ag→Prop)→Prop:=
 AA.rec (motive:=fun _=>Env→Ag→(Ar→Env→Ag→Prop)→Prop)
    (fun env s Q=>Q .normal env s)
    (fun _ JD ops live tr env s Q=>RI JD env s fun env s=>WT AP ops env s (AcC live tr Q))
    (fun m un JD ops live tr env s Q=>RI JD env s fun env s=>AcF AP m un ops env s fun BI s1=>WU m ops fun tl=>WT AP tl BI s1 (AcC live tr Q))
    (fun m W pc JD ops live tr env s Q=>RI JD env s fun env s=>Yp AP m W pc ops 0 env s [] [] (AcC live tr Q))
    (fun _ _ iha ihb env s Q=>iha env s (SE (fun env s=>ihb env s Q) Q))
    (fun c _ _ iha ihb env s Q=>AcI (c.val env) (iha env s Q) (ihb env s Q))
    (fun id _ iha env s Q=>iha env s (Abq id Q))
    (fun live a _ env s Q=>Kq live env fun env=>Run AP (.loop live a) env s Q)
    (fun id env s Q=>Q (.exit id) env s)
    (fun env s Q=>Q .ret env s) c
theorem RJ {env:Env} {t:Nat}:∀{ts:List Nat},t∈ts→(commit env ts).get t=env.get t
 |[],h=>by simp at h
 |t'::ts,h=>by
  simp only[commit,Env.get]
  cases hb:Nat.beq t' t
  ·have hne:t≠t':=fun e=>by subst e;simp at hb
   rw[cond_false]
   exact RJ ((List.mem_cons.1 h).resolve_left hne)
  ·rw[cond_true,Nat.eq_of_beq_eq_true hb]
theorem Ov {env env':Env}:∀{ts:List Nat},(∀ t∈ts,env.get t=env'.get t)→commit env ts=commit env' ts
 |[],_=>rfl
 |t::ts,h=>by simp only[commit];rw[h t (by simp),Ov fun t' h'=>h t' (by simp[h'])]
theorem SH (env:Env) (ts:List Nat):commit (commit env ts) ts=commit env ts:=Ov fun _ h=>RJ h
theorem Lj {live:List Nat} {a:AA} {env:Env} {s:Ag} {Q:Ar→Env→Ag→Prop} (h:Run AP (.loop live a) (commit env live) s Q):Run AP (.loop live a) env s Q:=by
 obtain⟨N,e,env',s',h1,h2⟩:=h
 refine⟨N,e,env',s',?_,h2⟩
 simp only[EG]at h1 ⊢
 cases N with
 |zero=>simp[iter]at h1
 |succ N=>
  simp only[iter,SH]at h1 ⊢
  exact h1
theorem Ir:∀{c:AA} {env:Env} {s:Ag} {Q:Ar→Env→Ag→Prop},vC AP c env s Q→Run AP c env s Q:=by
 intro c
 induction c with
 |skip=>intro env s Q h;exact⟨0,_,_,_,rfl,h⟩
 |exit id=>intro env s Q h;exact⟨0,_,_,_,rfl,h⟩
 |ret=>intro env s Q h;exact⟨0,_,_,_,rfl,h⟩
 |region hd JD ops live tr=>
  intro env s Q h
  obtain⟨BI,s1,h1,h2⟩:=Em h
  obtain⟨N,e,Dc,s2,h3,h4⟩:=Ko h2
  cases e with
  |normal=>exact⟨N,_,_,_,by simp only[EG,h1,h3],(Na _ _ _).1 ((Ea _ _ _).1 h4)⟩
  |exit id=>exact⟨N,_,_,_,by simp only[EG,h1,h3],h4⟩
  |ret=>exact⟨N,_,_,_,by simp only[EG,h1,h3],h4⟩
  |Ee v=>exact⟨N,_,_,_,by simp only[EG,h1,h3],h4⟩
 |mix m W pc JD ops live tr=>
  intro env s Q h
  obtain⟨BI,s1,h1,h2⟩:=Em h
  obtain⟨N,e,Dc,s2,h3,h4⟩:=Iw h2
  cases e with
  |normal=>exact⟨N,_,_,_,by simp only[EG,h1,h3],(Na _ _ _).1 ((Ea _ _ _).1 h4)⟩
  |exit id=>exact⟨N,_,_,_,by simp only[EG,h1,h3],h4⟩
  |ret=>exact⟨N,_,_,_,by simp only[EG,h1,h3],h4⟩
  |Ee v=>exact⟨N,_,_,_,by simp only[EG,h1,h3],h4⟩
 |par m un JD ops live tr=>
  intro env s Q h
  obtain⟨BI,s1,h1,h2⟩:=Em h
  obtain⟨N',AiW,s1',hh,h2⟩:=WV h2
  rw[Ue]at h2
  obtain⟨N,e,Dc,s2,h3,h4⟩:=Ko h2
  have hh':KR (run AP (max N N')) m un ops BI s1=some (AiW,s1'):=by
   unfold KR at hh ⊢
   split at hh
   ·rename_i es hes
    rw[Io (Bz (Nat.le_max_right N N')) hes]
    exact hh
   ·cases hh
  have h3':=EO (Bz (AP:=AP) (Nat.le_max_left N N')) h3
  cases e with
  |normal=>exact⟨max N N',_,_,_,by simp only[EG,h1,hh',h3'],(Na _ _ _).1 ((Ea _ _ _).1 h4)⟩
  |exit id=>exact⟨max N N',_,_,_,by simp only[EG,h1,hh',h3'],h4⟩
  |ret=>exact⟨max N N',_,_,_,by simp only[EG,h1,hh',h3'],h4⟩
  |Ee v=>exact⟨max N N',_,_,_,by simp only[EG,h1,hh',h3'],h4⟩
 |seq a b iha ihb=>
  intro env s Q h
  obtain⟨N,e,BI,s1,h1,h2⟩:=iha h
  cases e with
  |normal=>
   obtain⟨N',e',Dc,s2,h3,h4⟩:=ihb h2
   have h1':=DC (Bz (AP:=AP) (Nat.le_max_left N N')) (Nat.le_max_left N N') h1
   have h3':=DC (Bz (AP:=AP) (Nat.le_max_right N N')) (Nat.le_max_right N N') h3
   exact⟨max N N',e',Dc,s2,by simp only[EG,h1',h3'],h4⟩
  |exit id=>exact⟨N,_,_,_,by simp only[EG,h1],h2⟩
  |ret=>exact⟨N,_,_,_,by simp only[EG,h1],h2⟩
  |Ee v=>exact⟨N,_,_,_,by simp only[EG,h1],h2⟩
 |cond c a b iha ihb=>
  intro env s Q h
  change AcI (c.val env) (vC AP a env s Q) (vC AP b env s Q)at h
  unfold AcI at h
  split at h
  ·rename_i c' hc
   cases c'
   ·obtain⟨N,e,BI,s1,h1,h2⟩:=ihb h
    exact⟨N,e,BI,s1,by simp only[EG,hc,h1],h2⟩
   ·obtain⟨N,e,BI,s1,h1,h2⟩:=iha h
    exact⟨N,e,BI,s1,by simp only[EG,hc,h1],h2⟩
  ·cases h
 |block id a iha=>
  intro env s Q h
  obtain⟨N,e,BI,s1,h1,h2⟩:=iha h
  cases e with
  |normal=>exact⟨N,_,_,_,by simp only[EG,h1],h2⟩
  |exit j=>
   simp only[Abq]at h2
   cases hb:Nat.beq j id
   ·rw[hb]at h2
    have hne:j≠id:=fun e=>by subst e;simp at hb
    exact⟨N,_,_,_,by simp only[EG,h1,if_neg hne],h2⟩
   ·rw[hb]at h2
    exact⟨N,_,_,_,by simp only[EG,h1,if_pos (Nat.eq_of_beq_eq_true hb)],h2⟩
  |ret=>exact⟨N,_,_,_,by simp only[EG,h1],h2⟩
  |Ee v=>exact⟨N,_,_,_,by simp only[EG,h1],h2⟩
 |loop live a iha=>
  intro env s Q h
  exact Lj ((Ea _ _ _).1 h)
def Yq (AP:Nat→Option GY) (live:List Nat) (a:AA) (Q:Ar→Env→Ag→Prop) (e:Ar) (env:Env) (s:Ag):Prop:=match e with
 | .normal=>Kq live env fun env=>Run AP (.loop live a) env s Q
 |e=>Q e env s
theorem Jy {live:List Nat} {a:AA} {env:Env} {s:Ag} {Q:Ar→Env→Ag→Prop} (h:vC AP a env s (Yq AP live a Q)) (hc:commit env live=env):Run AP (.loop live a) env s Q:=by
 obtain⟨N,e,BI,s1,h1,h2⟩:=Ir h
 cases e with
 |normal=>
  obtain⟨N',e',Dc,s2,h3,h4⟩:=Lj ((Ea _ _ _).1 h2)
  refine⟨max N N'+1,e',Dc,s2,?_,h4⟩
  have h1':=DC (Bz (AP:=AP) (show N≤max N N'+1 by omega)) (show N≤max N N'+1 by omega) h1
  simp only[EG]at h3 ⊢
  rw[iter.eq_2]
  rw[hc,h1']
  exact LD (fun env s r hr=>DC (Bz (by omega)) (by omega) hr) (by omega) h3
 |exit id=>exact⟨N+1,_,_,_,by simp only[EG,iter.eq_2,hc,DC (Bz (AP:=AP) (Nat.le_succ N)) (Nat.le_succ N) h1],h2⟩
 |ret=>exact⟨N+1,_,_,_,by simp only[EG,iter.eq_2,hc,DC (Bz (AP:=AP) (Nat.le_succ N)) (Nat.le_succ N) h1],h2⟩
 |Ee v=>exact⟨N+1,_,_,_,by simp only[EG,iter.eq_2,hc,DC (Bz (AP:=AP) (Nat.le_succ N)) (Nat.le_succ N) h1],h2⟩
def PU (fn:F9) (K:AU→Ag→Prop) (e:Ar) (env:Env) (s:Ag):Prop:=match e with
 | .normal=>KZ (FH env s fn.results) fun vs=>K (.ok (EF vs)) s
 | .ret=>KZ (FH env s fn.results) fun vs=>K (.ok (EF vs)) s
 | .Ee v=>K (.Ee v) s
 | .exit _=>False
theorem WY {f:Nat} {fn:F9} {args:List AV} {s:Ag} {K:AU→Ag→Prop} (hf:AP f=some (.code fn)) (hl:args.length=fn.np) (h:Run AP fn.body (params args 0) s (PU fn K)):AY AP f args s K:=by
 obtain⟨N,e,env,s',h1,h2⟩:=h
 cases e with
 |normal=>
  obtain⟨vs,h3,h4⟩:=h2
  exact⟨N+1,_,_,by simp only[run,hf,if_pos hl,evF,h1,h3,Option.map_some],h4⟩
 |ret=>
  obtain⟨vs,h3,h4⟩:=h2
  exact⟨N+1,_,_,by simp only[run,hf,if_pos hl,evF,h1,h3,Option.map_some],h4⟩
 |Ee v=>exact⟨N+1,_,_,by simp only[run,hf,if_pos hl,evF,h1],h2⟩
 |exit id=>cases h2
end AI
end Go.Proofs.YtjjhejbffgaabaaGreatDoor
namespace Go.Proofs.YtjjhejbffgaabaaGreatDoor
namespace AI
open Go.RowKit
variable {AP:Nat→Option GY}
def Agx (live:List Nat) (I:Env→Ag→Prop) (Q:Ar→Env→Ag→Prop) (e:Ar) (env:Env) (s:Ag):Prop:=match e with
 | .normal=>Kq live env fun env=>I env s
 |e=>Q e env s
structure again (I:Nat→Env→Ag→Prop) (m:Nat) (env:Env) (s:Ag):Prop where
 mk::(h:∃m',m'<m∧I m' env s)
theorem Ah {live:List Nat} {a:AA} {Q:Ar→Env→Ag→Prop} (I:Nat→Env→Ag→Prop)
 (hI:∀m env s,I m env s→commit env live=env∧vC AP a env s (Agx live (again I m) Q)):
 ∀m env s,I m env s→Run AP (.loop live a) env s Q:=by
 intro m
 induction m using Nat.strongRecOn with
 |ind m ih=>
  intro env s h
  obtain⟨hc,h1⟩:=hI m env s h
  obtain⟨N,e,BI,s1,h2,h3⟩:=Ir h1
  have hr:Run AP a env s (Yq AP live a Q):=by
   refine⟨N,e,BI,s1,h2,?_⟩
   cases e with
   |normal=>
    simp only[Agx,Yq,Ea]at h3 ⊢
    obtain⟨m',hm,h4⟩:=h3
    exact ih m' hm _ _ h4
   |exit id=>exact h3
   |ret=>exact h3
   |Ee v=>exact h3
  obtain⟨N,e,BI,s1,h1,h2⟩:=hr
  cases e with
  |normal=>
   obtain⟨N',e',Dc,s2,h3,h4⟩:=Lj ((Ea _ _ _).1 h2)
   refine⟨max N N'+1,e',Dc,s2,?_,h4⟩
   have h1':=DC (Bz (AP:=AP) (show N≤max N N'+1 by omega)) (show N≤max N N'+1 by omega) h1
   simp only[EG]at h3 ⊢
   rw[iter.eq_2]
   rw[hc,h1']
   exact LD (fun env s r hr=>DC (Bz (by omega)) (by omega) hr) (by omega) h3
  |exit id=>exact⟨N+1,_,_,_,by simp only[EG,iter.eq_2,hc,DC (Bz (AP:=AP) (Nat.le_succ N)) (Nat.le_succ N) h1],h2⟩
  |ret=>exact⟨N+1,_,_,_,by simp only[EG,iter.eq_2,hc,DC (Bz (AP:=AP) (Nat.le_succ N)) (Nat.le_succ N) h1],h2⟩
  |Ee v=>exact⟨N+1,_,_,_,by simp only[EG,iter.eq_2,hc,DC (Bz (AP:=AP) (Nat.le_succ N)) (Nat.le_succ N) h1],h2⟩
structure AQ (AP:Nat→Option GY) (f:Nat) (args:List AV) (R:AV→Prop):Prop where
 mk::(h:∃v,Pure AP f args v∧R v)
def Ag2 (R:AV→Prop) (out:AU) (s:Ag):Prop:=match out with
 | .ok r=>Zc s.σ Hw r R
 | .Ee _=>False
theorem Ai {f:Nat} {fn:F9} {args:List AV} {R:AV→Prop} (hf:AP f=some (.code fn)) (hl:args.length=fn.np) (h:vC AP fn.body (params args 0) ⟨[],0⟩ (PU fn (Ag2 R))):AQ AP f args R:=by
 obtain⟨N,out,s',h1,h2⟩:=WY hf hl (Ir h)
 cases out with
 |ok r=>
  have h2:Zc s'.σ Hw r R:=h2
  obtain⟨v,h3,h4⟩:=WQ h2
  exact⟨v,⟨N,by simp only[Dv,h1];exact h3⟩,h4⟩
 |Ee r=>cases h2
theorem Aa {f:Nat} {args:List AV} {R:AV→Prop} {K:AV→Prop} (h:AQ AP f args R) (h2:∀v,R v→K v):Y8 AP f args K:=by
 obtain⟨v,h3,h4⟩:=h
 exact⟨v,h3,h2 v h4⟩
theorem Gu {f:Nat} {args:List AV} {p:Prop} [Decidable p] {K:AV→Prop} (h:AQ AP f args (· =.bool (decide p))) (h1:p→K (.bool true)) (h2:¬p→K (.bool false)):Y8 AP f args K:=by
 refine Aa h ?_
 rintro _ rfl
 by_cases hp:p
 ·rw[decide_eq_true hp];exact h1 hp
 ·rw[decide_eq_false hp];exact h2 hp
theorem AY.mono {f:Nat} {args:List AV} {s:Ag} {K K':AU→Ag→Prop} (h:AY AP f args s K) (hk:∀out s,K out s→K' out s):AY AP f args s K':=by
 obtain⟨N,out,s',h1,h2⟩:=h
 exact⟨N,out,s',h1,hk _ _ h2⟩
theorem GK {p:Prop} [Decidable p] (h:p):AV.bool true=AV.bool (decide p):=by rw[decide_eq_true h]
theorem EI {p:Prop} [Decidable p] (h:¬p):AV.bool false=AV.bool (decide p):=by rw[decide_eq_false h]
theorem AQ.mono {f:Nat} {args:List AV} {R R':AV→Prop} (h:AQ AP f args R) (h2:∀v,R v→R' v):AQ AP f args R':=by
 obtain⟨v,h3,h4⟩:=h
 exact⟨v,h3,h2 v h4⟩
theorem AL {f:Nat} {fn:F9} {args:List AV} {s:Ag} {K:AU→Ag→Prop} (hf:AP f=some (.code fn)) (hl:args.length=fn.np) (h:vC AP fn.body (params args 0) s (PU fn K)):AY AP f args s K:=
 WY hf hl (Ir h)
end AI
end Go.Proofs.YtjjhejbffgaabaaGreatDoor
namespace Go.Proofs.YtjjhejbffgaabaaGreatDoor
namespace AI
def ints (l:List Int):List AV:=l.map (.int .i64)
@[simp] theorem lI (l:List Int):(ints l).length=l.length:=by simp[ints]
theorem AcJ {l:List Int} {i:Nat} {x:Int} (h:l[i]?=some x):nth (ints l) i=some (.int .i64 x):=by simp[ints,Az,h]
theorem nI {l:List Int} {i:Nat} (h:i<l.length):nth (ints l) i=some (.int .i64 l[i]):=AcJ (List.getElem?_eq_getElem h)
theorem wrap_i64 {z:Int} (h:-2^63≤z) (h2:z<2^63):IntKind.i64.wrap z=z:=by
 rw[IntKind.wrap_i64];omega
theorem nIN {l:List Int} {i:Nat} (h:i<l.length):nth (ints l) (Int.toNat (Nat.cast i))=some (.int .i64 l[i]):=nI h
theorem WZ {es:Nat} {x:AV} (h:x.cells.length=es):Bg es [x]:=by intro y hy;simp at hy;exact hy▸h
theorem Jh {b n:Nat} (h:n*b≤2 ^ 46):roomy b n:=Nat.le_trans h (by decide)
def iss (E:List (Bool×List Int)):List AV:=E.map fun p=>.sl p.1 (ints p.2)
@[simp] theorem lS (E:List (Bool×List Int)):(iss E).length=E.length:=by simp[iss]
theorem nS {E:List (Bool×List Int)} {i:Nat} (h:i<E.length):nth (iss E) i=some (.sl E[i].1 (ints E[i].2)):=by simp[iss,Az,h]
theorem nSN {E:List (Bool×List Int)} {i:Nat} (h:i<E.length):nth (iss E) (Int.toNat (Nat.cast i))=some (.sl E[i].1 (ints E[i].2)):=nS h
theorem EJ {α:Type} {l:List α} {i:Nat} (h:¬(i:Int)<(l.length:Int)):l.take i=l:=List.take_of_length_le (by omega)
theorem CX {α:Type} {p:α→Prop} {l:List α} {i:Nat} (h:i<l.length) (h1:∀x∈l.take i,p x) (h2:p l[i]):∀x∈l.take (i+1),p x:=by
 intro x hx
 rw[List.take_succ_eq_append_getElem h,List.mem_append,List.mem_singleton]at hx
 rcases hx with hx|rfl
 ·exact h1 x hx
 ·exact h2
theorem tIN {l:List Int} {i:Nat} {x y:Int}:(ints l).set (Int.toNat (Nat.cast i)) (Bl (.int .i64 x) 0 (.int .i64 y))=ints (l.set i y):=by
 simp[ints,Bl,AV.cells,List.map_set]
theorem tI {l:List Int} {i:Nat} {x y:Int}:(ints l).set i (Bl (.int .i64 x) 0 (.int .i64 y))=ints (l.set i y):=tIN
theorem uI {l:List Int}:sub (ints l) 0 l.length=ints l:=by
 unfold sub;rw[List.drop_zero,List.take_of_length_le (by simp)]
theorem uS {l:List (Bool×List Int)}:sub (iss l) 0 l.length=iss l:=by
 unfold sub;rw[List.drop_zero,List.take_of_length_le (by simp)]
theorem uIS {l:List Int} {x:Int}:sub (ints (l++[x])) 0 (l.length+1)=ints (l++[x]):=by
 have:=uI (l:=l++[x]);rwa [List.length_append]at this
theorem uSS {l:List (Bool×List Int)} {x:Bool×List Int}:sub (iss (l++[x])) 0 (l.length+1)=iss (l++[x]):=by
 have:=uS (l:=l++[x]);rwa [List.length_append]at this
theorem rIN (n:Nat) (z:Int):List.replicate (Int.toNat (Nat.cast n)) (AV.int .i64 z)=ints (List.replicate n z):=by simp[ints]
theorem rI (n:Nat) (z:Int):List.replicate n (AV.int .i64 z)=ints (List.replicate n z):=by simp[ints]
theorem nY {l:List UInt8} {i:Nat} (h:i<l.length):nth l i=some l[i]:=by simp[Az,h]
theorem nYN {l:List UInt8} {i:Nat} (h:i<l.length):nth l (Int.toNat (Nat.cast i))=some l[i]:=nY h
def bools (l:List Bool):List AV:=l.map .bool
@[simp] theorem lB (l:List Bool):(bools l).length=l.length:=by simp[bools]
theorem nB {l:List Bool} {i:Nat} (h:i<l.length):nth (bools l) i=some (.bool l[i]):=by simp[bools,Az,h]
theorem nBN {l:List Bool} {i:Nat} (h:i<l.length):nth (bools l) (Int.toNat (Nat.cast i))=some (.bool l[i]):=nB h
theorem tBN {l:List Bool} {i:Nat} {x y:Bool}:(bools l).set (Int.toNat (Nat.cast i)) (Bl (.bool x) 0 (.bool y))=bools (l.set i y):=by
 simp[bools,Bl,AV.cells,List.map_set]
theorem tB {l:List Bool} {i:Nat} {x y:Bool}:(bools l).set i (Bl (.bool x) 0 (.bool y))=bools (l.set i y):=tBN
theorem uB {l:List Bool}:sub (bools l) 0 l.length=bools l:=by
 unfold sub;rw[List.drop_zero,List.take_of_length_le (by simp)]
theorem rBN (n:Nat) (z:Bool):List.replicate (Int.toNat (Nat.cast n)) (AV.bool z)=bools (List.replicate n z):=by simp[bools]
section
variable {α β:Type} [DecidableEq α] {fk:α→AV} {fv:β→AV} {t:JC}
def F8 (fk:α→AV) (fv:β→AV) (M:List (α×β)):List (AV×AV):=M.map fun p=>(fk p.1,fv p.2)
def Bh:List (α×β)→α→Option β
 |[],_=>none
 |(k',v)::M,k=>if k=k' then some v else Bh M k
def BO:List (α×β)→α→β→List (α×β)
 |[],k,v=>[(k,v)]
 |(k',v')::M,k,v=>if k=k' then(k,v)::M else(k',v')::BO M k v
theorem Dh (M:List (α×β)) (k k':α) (v:β):Bh (BO M k v) k'=if k'=k then some v else Bh M k':=by
 induction M with
 |nil=>simp[BO,Bh]
 |cons p M ih=>
  obtain⟨a,b⟩:=p
  simp only[BO]
  by_cases h:k=a
  ·subst h;simp only[if_pos,Bh];split<;>simp_all
  ·rw[if_neg h]
   simp only[Bh,ih]
   by_cases h1:k'=a
   ·subst h1;rw[if_pos rfl,if_neg (fun e=>h e.symm),if_pos rfl]
   ·rw[if_neg h1,if_neg h1]
theorem Kr (hk:∀a b,Dk t (fk a) (fk b)=some (decide (a=b))) (k:α):∀(M:List (α×β)) (i:Nat),
 (Bh M k=none∧findKey t (fk k) (F8 fk fv M) i=some none∧BO M k=fun v=>M++[(k,v)])∨
 ∃j v,Bh M k=some v∧findKey t (fk k) (F8 fk fv M) i=some (some (i+j,fv v))∧BO M k=fun v=>M.set j (k,v)
 |[],i=>.inl ⟨rfl,rfl,rfl⟩
 |(a,b)::M,i=>by
  by_cases h:k=a
  ·subst h
   refine .inr ⟨0,b,by simp[Bh],?_,by funext v;simp[BO]⟩
   simp only[F8,List.map_cons,findKey,hk,decide_true,Nat.add_zero]
  ·rcases Kr hk k M (i+1)with⟨h1,h2,h3⟩|⟨j,v,h1,h2,h3⟩
   ·refine .inl ⟨by simp[Bh,h,h1],?_,by funext v;simp[BO,h,h3]⟩
    simp only[F8,List.map_cons,findKey,hk,decide_eq_false h]at h2 ⊢
    exact h2
   ·refine .inr ⟨j+1,v,by simp[Bh,h,h1],?_,by funext v;simp[BO,h,h3]⟩
    simp only[F8,List.map_cons,findKey,hk,decide_eq_false h]at h2 ⊢
    rw[h2];congr 3;omega
theorem ML (hk:∀a b,Dk t (fk a) (fk b)=some (decide (a=b))) {M:List (α×β)} {k:α} {K:Option (Nat×AV)→Prop}
 (h1:Bh M k=none→K none) (h2:∀i v,Bh M k=some v→K (some (i,fv v))):Je t (fk k) (F8 fk fv M) K:=by
 rcases Kr (fv:=fv) hk k M 0 with⟨g1,g2,_⟩|⟨j,v,g1,g2,_⟩
 ·exact⟨_,g2,h1 g1⟩
 ·exact⟨_,g2,h2 _ _ g1⟩
theorem Mc (hk:∀a b,Dk t (fk a) (fk b)=some (decide (a=b))) {M:List (α×β)} {k:α} {v:β} {K:List (AV×AV)→Prop}
 (h:K (F8 fk fv (BO M k v))):SS t (fk k) (fv v) (F8 fk fv M) K:=by
 rcases Kr (fv:=fv) hk k M 0 with⟨g1,g2,g3⟩|⟨j,w,g1,g2,g3⟩
 ·refine⟨_,g2,?_⟩
  rw[g3]at h
  simpa[Acz,F8]using h
 ·refine⟨_,g2,?_⟩
  rw[g3]at h
  simpa[Acz,F8,List.map_set]using h
end
theorem Fz (a b:Int):Dk .int (.int .i64 a) (.int .i64 b)=some (decide (a=b)):=by
 simp only[Dk,if_true];rfl
abbrev DF (M:List (Int×Int)):List (AV×AV):=F8 (.int .i64) (.int .i64) M
theorem fkI {M:List (Int×Int)} {k:Int} {K:Option (Nat×AV)→Prop}
 (h1:Bh M k=none→K none) (h2:∀i v,Bh M k=some v→K (some (i,.int .i64 v))):Je .int (.int .i64 k) (DF M) K:=ML Fz h1 h2
theorem msI {M:List (Int×Int)} {k v:Int} {K:List (AV×AV)→Prop} (h:K (DF (BO M k v))):SS .int (.int .i64 k) (.int .i64 v) (DF M) K:=Mc Fz h
end AI
end Go.Proofs.YtjjhejbffgaabaaGreatDoor
