/- The evaluator, step by step on symbols: what must hold for it to end in 'Q'. The evaluator, step by step on symbols: operations. The evaluator, step by step on symbols: regions, code, loops, functions. Loops by an invariant; what a function answers, as a predicate. Lists of numbers as abstract values; small facts that the steps need. -/
import Derived.Test.YthjeehjphekjmaaGreatDoorBSe
set_option linter.unusedVariables false
set_option maxRecDepth 4000
namespace Go.Proofs.YthjeehjphekjmaaGreatDoor
namespace AI
open Go.RowKit
variable {AP:Nat→Option Gv}
structure Run (AP:Nat→Option Gv) (c:Am) (env:Env) (s:Ag) (Q:Ak→Env→Ag→Prop):Prop where
 mk::(h:∃N e env' s',Et (run AP N) N c env s=some (e,env',s')∧Q e env' s')
def Op1 (AP:Nat→Option Gv) (o:BP) (env:Env) (s:Ag) (K:AX→Ag→Prop):Prop:=
 ∃N out s',Ah (run AP N) o env s=some (out,s')∧K out s'
def Ops (AP:Nat→Option Gv) (os:List AL) (env:Env) (s:Ag) (Q:Ak→Env→Ag→Prop):Prop:=
 ∃N e env' s',Dn (run AP N) os env s=some (e,env',s')∧Q e env' s'
structure Pure (AP:Nat→Option Gv) (f:Nat) (args:List AV) (v:AV):Prop where
 mk::(h:∃N,Dv (run AP N) f args=some v)
structure AQ (AP:Nat→Option Gv) (f:Nat) (args:List AV) (s:Ag) (K:AX→Ag→Prop):Prop where
 mk::(h:∃N out s',run AP N f args s=some (out,s')∧K out s')
theorem Bj {n n':Nat} (h:n≤n'):D5 (run AP n) (run AP n'):=Pv h
theorem Run.mono {c:Am} {env:Env} {s:Ag} {Q Q':Ak→Env→Ag→Prop} (h:Run AP c env s Q) (hq:∀e env s,Q e env s→Q' e env s):Run AP c env s Q':=by
 obtain⟨N,e,env',s',h1,h2⟩:=h
 exact⟨N,e,env',s',h1,hq _ _ _ h2⟩
def AV.force {R:Sort _} (v:AV) (f:AV→R):R:=
 match v with
 | .bool b=>f (.bool b)
 | .int k n=>f (.int k n)
 | .str s=>f (.str s)
 | .sl nn xs=>f (.sl nn xs)
 | .zc=>f .zc
 | .own o g a b=>f (.own o g a b)
 | .agg cs=>f (.agg cs)
 | .CO cs=>f (.CO cs)
 | .ref o g i a=>f (.ref o g i a)
 | .Dh cs=>f (.Dh cs)
 | .fn g cs=>f (.fn g cs)
 | .map o g=>f (.map o g)
 | .fmap es=>f (.fmap es)
 | .iface t v=>f (.iface t v)
 | .H8=>f .H8
 | .CJ=>f .CJ
 | .EW=>f .EW
 | .F8=>f .F8
 | .undef=>f .undef
 | .junk=>f .junk
theorem force_eq {R:Sort _} (v:AV) (f:AV→R):v.force f=f v:=by cases v<;>rfl
def Js (b:Bool) (t e:Prop):Prop:=match b with
 |true=>t
 |false=>e
theorem Uj {b:Bool} {t e:Prop} (h1:b=true→t) (h2:b=false→e):Js b t e:=by
 cases b
 ·exact h2 rfl
 ·exact h1 rfl
structure KH (p t e:Prop):Prop where
 mk::(yes:p→t) (no:¬p→e)
structure need (p t:Prop):Prop where
 mk::(l:p) (r:t)
structure Ip (k:IntKind) (z:Int) (K:AV→Prop):Prop where
 mk::(h:∃y,k.wrap z=y∧K (.int k y))
theorem Dz {k:IntKind} {z y:Int} {K:AV→Prop} (h:k.wrap z=y) (h2:K (.int k y)):Ip k z K:=⟨y,h,h2⟩
structure AY {α:Type} (xs:List α) (i:Nat) (K:α→Prop):Prop where
 mk::(h:∃x,nth xs i=some x∧K x)
theorem AU {α:Type} {xs:List α} {i:Nat} {K:α→Prop} {x:α} (h:nth xs i=some x) (h2:K x):AY xs i K:=⟨x,h,h2⟩
structure JH {α:Type} (o:Option α) (K:α→Prop):Prop where
 mk::(h:∃x,o=some x∧K x)
theorem Ai {α:Type} {o:Option α} {K:α→Prop} {x:α} (h:o=some x) (h2:K x):JH o K:=⟨x,h,h2⟩
structure Uk (AP:Nat→Option Gv) (f:Nat) (args:List AV) (K:AV→Prop):Prop where
 mk::(h:∃v,Pure AP f args v∧K v)
def settle (v:AV) (K:AV→Prop):Prop:=match v with
 | .bool b=>Js b (K (.bool true)) (K (.bool false))
 |v=>v.force K
theorem Px (v:AV) (K:AV→Prop):settle v K↔K v:=by
 cases v<;>first|exact Iff.rfl|skip
 rename_i b
 cases b<;>exact Iff.rfl
def Qx {α:Type}:List α→Nat→α→(List α→Prop)→Prop
 |[],_,_,K=>K []
 |_::xs,0,y,K=>K (y::xs)
 |x::xs,n+1,y,K=>Qx xs n y fun ys=>K (x::ys)
theorem Fq {α:Type}:∀(l:List α) (n:Nat) (y:α) (K:List α→Prop),Qx l n y K↔K (l.set n y)
 |[],_,_,_=>Iff.rfl
 |_::_,0,_,_=>Iff.rfl
 |x::xs,n+1,y,K=>Fq xs n y fun ys=>K (x::ys)
def YJ {α:Type}:List α→α→(List α→Prop)→Prop
 |[],y,K=>K [y]
 |x::xs,y,K=>YJ xs y fun ys=>K (x::ys)
theorem QW {α:Type}:∀(l:List α) (y:α) (K:List α→Prop),YJ l y K↔K (l++[y])
 |[],_,_=>Iff.rfl
 |x::xs,y,K=>QW xs y fun ys=>K (x::ys)
def Sm (s:Ag) (mk:Nat→Nat→AV) (ob:Nat→Obj) (K:AX→Ag→Prop):Prop:=
 YJ s.σ (ob s.ctr) fun σ=>K (.ok (mk s.σ.length s.ctr)) ⟨σ,s.ctr+1⟩
structure eqK {α:Type} (a:α) (K:α→Prop):Prop where
 mk::(h:∃b,a=b∧K b)
theorem Bh {α:Type} {a b:α} {K:α→Prop} (h1:a=b) (h:K b):eqK a K:=⟨_,h1,h⟩
def WT (op:BinOp) (k:IntKind) (a b:Int) (K:AV→Prop):Prop:=
 match op with
 | .add=>Ip k (a+b) K
 | .sub=>Ip k (a-b) K
 | .mul=>Ip k (a*b) K
 | .quo=>need (b≠0) (Ip k (a.tdiv b) K)
 | .rem=>need (b≠0) (K (.int k (a.tmod b)))
 | .eql=>KH (a=b) (K (.bool true)) (K (.bool false))
 | .neq=>KH (a=b) (K (.bool false)) (K (.bool true))
 | .lss=>KH (a<b) (K (.bool true)) (K (.bool false))
 | .leq=>KH (a≤b) (K (.bool true)) (K (.bool false))
 | .gtr=>KH (b<a) (K (.bool true)) (K (.bool false))
 | .geq=>KH (b≤a) (K (.bool true)) (K (.bool false))
 | .and=>eqK (k.wrap (BitVec.ofInt k.bits a &&& BitVec.ofInt k.bits b).toNat) fun z=>K (.int k z)
 | .or=>eqK (k.wrap (BitVec.ofInt k.bits a ||| BitVec.ofInt k.bits b).toNat) fun z=>K (.int k z)
 | .xor=>eqK (k.wrap (BitVec.ofInt k.bits a ^^^ BitVec.ofInt k.bits b).toNat) fun z=>K (.int k z)
 | .shl=>need (0≤b) (Ip k (a*2 ^ (min b.toNat k.bits)) K)
 | .shr=>need (0≤b) (eqK (a.fdiv (2 ^ (min b.toNat k.bits))) fun z=>K (.int k z))
 |_=>False
def WU (op:BinOp) (a b:List UInt8) (K:AV→Prop):Prop:=
 match op with
 | .eql=>KH (a=b) (K (.bool true)) (K (.bool false))
 | .neq=>KH (a=b) (K (.bool false)) (K (.bool true))
 | .lss=>Js (Op.bytesLess a b) (K (.bool true)) (K (.bool false))
 | .leq=>Js (Op.bytesLess a b||a==b) (K (.bool true)) (K (.bool false))
 | .gtr=>Js (Op.bytesLess a b||a==b) (K (.bool false)) (K (.bool true))
 | .geq=>Js (Op.bytesLess a b) (K (.bool false)) (K (.bool true))
 | .add=>need (a.length+b.length<2 ^ 63) (K (.str (a++b)))
 |_=>False
def YK (op:BinOp) (k k':IntKind) (t:Prop):Prop:=match op with
 | .shl=>t
 | .shr=>t
 |_=>need (k=k') t
theorem Xv {op:BinOp} {k k':IntKind} {t:Prop} (h:YK op k k' t):(k=k'∨op=.shl∨op=.shr)∧t:=by
 unfold YK at h
 split at h
 ·exact⟨.inr (.inl rfl),h⟩
 ·exact⟨.inr (.inr rfl),h⟩
 ·exact⟨.inl h.1,h.2⟩
theorem AaD {op:BinOp} {k k':IntKind} {t:J7} {a b:Int} (h:k=k'∨op=.shl∨op=.shr):bin op t (.int k a) (.int k' b)=Ic op k a b:=by
 simp only[bin]
 split
 ·rfl
 ·rename_i hk
  rcases h with h|rfl|rfl
  ·exact absurd h hk
  ·rfl
  ·rfl
def AcJ (op:BinOp) (t:J7) (x y:AV) (K:AV→Prop):Prop:=
 match x,y with
 | .int k a,.int k' b=>YK op k k' (WT op k a b K)
 | .str a,.str b=>WU op a b K
 |x,y=>JH (bin op t x y) fun v=>settle v K
theorem Vo {op:BinOp} {t:J7} {x y:AV} {K:AV→Prop} (h:AcJ op t x y K):∃v,bin op t x y=some v∧K v:=by
 unfold AcJ at h
 split at h
 ·rename_i k a k' b
  obtain⟨hk,h⟩:=Xv h
  rw[AaD hk]
  unfold WT at h
  cases op<;>simp only at h
  case add=>obtain⟨y,h1,h2⟩:=h;exact⟨_,rfl,by rw[h1];exact h2⟩
  case sub=>obtain⟨y,h1,h2⟩:=h;exact⟨_,rfl,by rw[h1];exact h2⟩
  case mul=>obtain⟨y,h1,h2⟩:=h;exact⟨_,rfl,by rw[h1];exact h2⟩
  case quo=>obtain⟨h0,y,h1,h2⟩:=h;exact⟨_,by simp only[Ic,if_neg h0];rfl,by rw[h1];exact h2⟩
  case rem=>obtain⟨h0,h2⟩:=h;exact⟨_,by simp only[Ic,if_neg h0],h2⟩
  case and=>obtain⟨z,rfl,h2⟩:=h;exact⟨_,rfl,h2⟩
  case or=>obtain⟨z,rfl,h2⟩:=h;exact⟨_,rfl,h2⟩
  case xor=>obtain⟨z,rfl,h2⟩:=h;exact⟨_,rfl,h2⟩
  case shl=>obtain⟨h0,y,h1,h2⟩:=h;exact⟨_,by simp only[Ic,if_neg (Int.not_lt.2 h0)];rfl,by rw[h1];exact h2⟩
  case shr=>obtain⟨h0,z,rfl,h2⟩:=h;exact⟨_,by simp only[Ic,if_neg (Int.not_lt.2 h0)],h2⟩
  case eql=>
   by_cases c:a=b
   ·exact⟨_,rfl,by have:=h.1 c;simpa only[c,beq_self_eq_true,bne_self_eq_false,Bool.not_true]using this⟩
   ·exact⟨_,rfl,by have:=h.2 c;simpa only[bne,beq_false_of_ne c,Bool.not_false]using this⟩
  case neq=>
   by_cases c:a=b
   ·exact⟨_,rfl,by have:=h.1 c;simpa only[c,beq_self_eq_true,bne_self_eq_false,Bool.not_true]using this⟩
   ·exact⟨_,rfl,by have:=h.2 c;simpa only[bne,beq_false_of_ne c,Bool.not_false]using this⟩
  case lss=>
   by_cases c:a<b
   ·exact⟨_,rfl,by simpa[c]using h.1 c⟩
   ·exact⟨_,rfl,by simpa[c]using h.2 c⟩
  case leq=>
   by_cases c:a≤b
   ·exact⟨_,rfl,by simpa[c]using h.1 c⟩
   ·exact⟨_,rfl,by simpa[c]using h.2 c⟩
  case gtr=>
   by_cases c:b<a
   ·exact⟨_,rfl,by simpa[c]using h.1 c⟩
   ·exact⟨_,rfl,by simpa[c]using h.2 c⟩
  case geq=>
   by_cases c:b≤a
   ·exact⟨_,rfl,by simpa[c]using h.1 c⟩
   ·exact⟨_,rfl,by simpa[c]using h.2 c⟩
 ·rename_i a b
  simp only[bin]
  unfold WU at h
  cases op<;>simp only at h
  case add=>obtain⟨h0,h2⟩:=h;exact⟨_,by simp only[Vp,if_pos h0],h2⟩
  case eql=>
   by_cases c:a=b
   ·exact⟨_,rfl,by have:=h.1 c;simpa only[c,beq_self_eq_true,bne_self_eq_false,Bool.not_true]using this⟩
   ·exact⟨_,rfl,by have:=h.2 c;simpa only[bne,beq_false_of_ne c,Bool.not_false]using this⟩
  case neq=>
   by_cases c:a=b
   ·exact⟨_,rfl,by have:=h.1 c;simpa only[c,beq_self_eq_true,bne_self_eq_false,Bool.not_true]using this⟩
   ·exact⟨_,rfl,by have:=h.2 c;simpa only[bne,beq_false_of_ne c,Bool.not_false]using this⟩
  case lss=>cases c:Op.bytesLess a b<;>rw[c]at h<;>exact⟨_,rfl,by rw[c];exact h⟩
  case leq=>cases c:(Op.bytesLess a b||a==b)<;>rw[c]at h<;>exact⟨_,rfl,by rw[c];exact h⟩
  case gtr=>cases c:(Op.bytesLess a b||a==b)<;>rw[c]at h<;>exact⟨_,rfl,by rw[c];exact h⟩
  case geq=>cases c:Op.bytesLess a b<;>rw[c]at h<;>exact⟨_,rfl,by rw[c];exact h⟩
 ·obtain⟨v,h1,h2⟩:=h
  exact⟨v,h1,(Px v K).1 h2⟩
end AI
end Go.Proofs.YthjeehjphekjmaaGreatDoor
namespace Go.Proofs.YthjeehjphekjmaaGreatDoor
namespace AI
open Go.RowKit
variable {AP:Nat→Option Gv}
def done (v:AV) (s:Ag) (K:AX→Ag→Prop):Prop:=settle v fun v=>K (.ok v) s
def YL:Aw:=fun _ _ _=>none
def Ul (o:BP) (env:Env) (s:Ag) (K:AX→Ag→Prop):Prop:=
 JH (Ah YL o env s) fun r=>match r with
    |(.ok v,s')=>done v s' K
    |(.D9 v,s')=>K (.D9 v) s'
def WV (σ:List Obj) (n:Nat) (r:AV) (R:AV→Prop):Prop:=match r with
 | .own o g off len=>match n with
   |0=>False
   |n+1=>match nth σ o with
    |some (.arr g' _ nn cl elems)=>match cl with
     |true=>need (g=g'∧off+len≤elems.length) (eqK (sub elems off len) fun xs=>R (.sl nn xs))
     |false=>JH (snap σ (n+1) (.own o g off len)) R
    |_=>False
 |r=>JH (snap σ n r) R
theorem NQ {σ:List Obj} {n:Nat} {r:AV} {R:AV→Prop} (h:WV σ n r R):∃v,snap σ n r=some v∧R v:=by
 unfold WV at h
 split at h
 ·rename_i o g off len
  split at h
  ·cases h
  ·split at h
   ·rename_i g' es nn cl elems ho
    split at h
    ·obtain⟨h1,xs,rfl,h2⟩:=h
     refine⟨_,?_,h2⟩
     simp only[snap,ho,if_pos h1,if_true]
    ·obtain⟨v,h1,h2⟩:=h;exact⟨v,h1,h2⟩
   ·cases h
 ·obtain⟨v,h1,h2⟩:=h;exact⟨v,h1,h2⟩
def Py (σ:List Obj):Nat→List AV→(List AV→Prop)→Prop
 |_,[],K=>K []
 |0,_::_,_=>False
 |n+1,v::vs,K=>WV σ n v fun a=>Py σ n vs fun r=>K (a::r)
theorem Gx {σ:List Obj}:∀{n:Nat} {vs:List AV} {K:List AV→Prop},Py σ n vs K→∃r,Hf σ n vs=some r∧K r
 |n,[],K,h=>⟨[],by cases n<;>rfl,by cases n<;>exact h⟩
 |0,_::_,_,h=>by cases h
 |n+1,v::vs,K,h=>by
  obtain⟨a,h1,h2⟩:=NQ h
  obtain⟨r,h3,h4⟩:=Gx h2
  exact⟨_,by simp only[Hf,h1,h3],h4⟩
def WX (σ:List Obj) (n:Nat) (r:AV) (R:AV→Prop):Prop:=match r with
 | .CO cs=>match n with
   |0=>False
   |n+1=>Py σ n cs fun vs=>R (.CO vs)
 | .agg cs=>match n with
   |0=>False
   |n+1=>Py σ n cs fun vs=>R (.agg vs)
 |r=>WV σ n r R
theorem Um {σ:List Obj} {n:Nat} {r:AV} {R:AV→Prop} (h:WX σ n r R):∃v,snap σ n r=some v∧R v:=by
 unfold WX at h
 split at h
 ·split at h
  ·cases h
  ·obtain⟨vs,h1,h2⟩:=Gx h
   exact⟨_,by simp only[snap,h1,Option.map_some],h2⟩
 ·split at h
  ·cases h
  ·obtain⟨vs,h1,h2⟩:=Gx h
   exact⟨_,by simp only[snap,h1,Option.map_some],h2⟩
 ·exact NQ h
def YM (AP:Nat→Option Gv) (m:Mode) (f:Nat) (args:List AV) (s:Ag) (K:AX→Ag→Prop):Prop:=
 match m with
 | .pure=>need (Ez args=true) (Uk AP f args fun v=>done v s K)
 | .borrow=>Py s.σ Iy args fun args'=>Uk AP f args' fun v=>need (v.scalar=true) (done v s K)
 | .share=>AQ AP f args s fun out s'=>match out with
   | .ok r=>JH (compact s.σ.length r s') fun r=>done r.1 r.2 K
   | .D9 v=>need (v.closed=true) (K (.D9 v) ⟨s'.σ.take s.σ.length,s'.ctr⟩)
 | .own=>∃N r s',A8 (run AP N) .own f args s=some (.ok r,s')∧done r s' K
 | .keep=>AQ AP f args s fun out s'=>match out with
   | .ok r=>done r s' K
   | .D9 v=>K (.D9 v) s'
structure LW (g g' es es' len:Nat) (nn cl c:Bool) (elems ys:List AV) (bytes:Nat) (K:Nat→Bool→Bool→List AV→Prop):Prop where
 mk::(h:(g=g'∧es=es'∧len≤elems.length∧Bq es ys∧roomy bytes (len+ys.length))∧K (len+ys.length) (nn||!ys.isEmpty) (cl&&c) (elems.take len++ys))
def AcK (a b:Bool) (K:Bool→Prop):Prop:=match b with
 |true=>K a
 |false=>K false
theorem Un (a b:Bool) (K:Bool→Prop):AcK a b K↔K (a&&b):=by cases a<;>cases b<;>exact Iff.rfl
def YN (b:Bool) (K:Bool→Prop):Prop:=match b with
 |true=>K true
 |false=>K false
theorem Vq (b:Bool) (K:Bool→Prop):YN b K↔K b:=by cases b<;>exact Iff.rfl
def WY (env:Env):List (Nat×AO)→(List (Nat×AV)→Prop)→Prop
 |[],K=>K []
 |(j,x)::ps,K=>(x.val env).force fun v=>WY env ps fun r=>K ((j,v)::r)
theorem QX (env:Env):∀(ps:List (Nat×AO)) (K:List (Nat×AV)→Prop),WY env ps K↔K (Nv env ps)
 |[],_=>Iff.rfl
 |(j,x)::ps,K=>by simp only[WY,force_eq,Nv];exact QX env ps _
def E8 (z:AV):Nat→List (Nat×AV)→Nat→(List AV→Prop)→Prop
 |0,_,_,K=>K []
 |n+1,[],i,K=>E8 z n [] (i+1) fun r=>K (z::r)
 |n+1,(j,v)::ps,i,K=>bif Nat.beq i j then E8 z n ps (i+1) fun r=>K (v::r)else E8 z n ((j,v)::ps) (i+1) fun r=>K (z::r)
theorem F5 (z:AV):∀(n:Nat) (ps:List (Nat×AV)) (i:Nat) (K:List AV→Prop),E8 z n ps i K↔K (BG z n ps i)
 |0,_,_,_=>by simp only[E8,BG]
 |n+1,[],i,K=>by simp only[E8,BG];exact F5 z n [] (i+1) _
 |n+1,(j,v)::ps,i,K=>by
  simp only[E8,BG]
  cases Nat.beq i j
  ·exact F5 z n _ (i+1) _
  ·exact F5 z n _ (i+1) _
def Vr (es:Nat) (v:AV) (s:Ag) (K:List AV→Bool→Prop):Prop:=match v with
 | .sl _ xs=>K xs true
 | .zc=>K [] true
 |v=>JH (elemsOf s es v) fun r=>K r.1 r.2
theorem Sr {es:Nat} {v:AV} {s:Ag} {K:List AV→Bool→Prop} (h:Vr es v s K):∃ys c,elemsOf s es v=some (ys,c)∧K ys c:=by
 unfold Vr at h
 split at h
 ·exact⟨_,_,rfl,h⟩
 ·exact⟨_,_,rfl,h⟩
 ·obtain⟨⟨ys,c⟩,h1,h2⟩:=h
  exact⟨ys,c,h1,h2⟩
def AaE (off j:Nat) (K:Nat→Prop):Prop:=match off with
 |0=>K j
 |n+1=>K (n+1+j)
theorem Uo (off j:Nat) (K:Nat→Prop):AaE off j K↔K (off+j):=by
 cases off with
 |zero=>simp[AaE]
 |succ n=>exact Iff.rfl
structure Ur (t:J7) (k:AV) (ents:List (AV×AV)) (K:Option (Nat×AV)→Prop):Prop where
 mk::(h:∃r,findKey t k ents 0=some r∧K r)
def YO (k v:AV) (ents:List (AV×AV)) (r:Option (Nat×AV)):List (AV×AV):=match r with
 |some (i,_)=>ents.set i (k,v)
 |none=>ents++[(k,v)]
structure YP (t:J7) (k v:AV) (ents:List (AV×AV)) (K:List (AV×AV)→Prop):Prop where
 mk::(h:∃r,findKey t k ents 0=some r∧K (YO k v ents r))
def Sv (env:Env) (d:Nat) (x:Option AO) (K:Nat→Prop):Prop:=match x with
 |none=>K d
 |some x=>match x.val env with
  | .int _ n=>need (0≤n) (K n.toNat)
  |_=>False
def OC (env:Env) (len:Nat) (lo hi:Option AO) (K:Nat→Nat→Prop):Prop:=
 Sv env len hi fun h=>Sv env 0 lo fun l=>need (l≤h∧h≤len) (K l h)
theorem LY {env:Env} {d:Nat} {x:Option AO} {K:Nat→Prop} (h:Sv env d x K):∃n,(match x with|none=>some d|some x=>bound (x.val env))=some n∧K n:=by
 unfold Sv at h
 split at h
 ·exact⟨d,rfl,h⟩
 ·rename_i x
  split at h
  ·rename_i k n hv
   exact⟨n.toNat,by simp only[hv,bound,if_pos h.1],h.2⟩
  ·cases h
theorem Ie {env:Env} {len:Nat} {lo hi:Option AO} {K:Nat→Nat→Prop} (h:OC env len lo hi K):∃l u,bounds env len lo hi=some (l,u)∧K l u:=by
 obtain⟨u,h1,h2⟩:=LY h
 obtain⟨l,h3,h4,h5⟩:=LY h2
 refine⟨l,u,?_,h5⟩
 unfold bounds
 cases hi<;>cases lo<;>simp_all
def Ja (AP:Nat→Option Gv) (o:BP) (env:Env) (s:Ag) (K:AX→Ag→Prop):Prop:=
 match o with
 | .mov x=>done (x.val env) s K
 | .H9 es=>Sm s (fun o g=>.own o g 0 0) (fun g=>.arr g es false true []) K
 | .IL off e2 es cs=>match nth cs off with
   |some (.sl false [])=>need (0<e2) (Sm s (fun o g=>.own o g 0 0) (fun g=>.arr g e2 false true []) fun out s1=>match out with
        | .ok v=>Sm s1 (fun o g=>.ref o g 0 0) (fun g=>.arr g es true (AV.agg (cs.set off v)).closed [.agg (cs.set off v)]) K
        | .D9 _=>False)
   |_=>False
 | .pick c a b=>match c.val env with
   | .bool c=>Js c (done (a.val env) s K) (done (b.val env) s K)
   |_=>False
 | .alloc es z=>Sm s (fun o g=>.ref o g 0 0) (fun g=>.arr g es true z.closed [z]) K
 | .box es x=>(x.val env).force fun v=>need ((v.storable&&v.cells.length==es)=true) (Sm s (fun o g=>.ref o g 0 0) (fun g=>.arr g es true v.closed [v]) K)
 | .build z parts=>JH (DT z (Jb env parts)) fun cs=>K (.ok (.agg cs)) s
 | .load sz a=>match a.val env with
   | .Dh cs=>JH (loadCells cs sz) fun v=>done v s K
   | .ref o g i off=>match nth s.σ o with
     |some (.arr g' _ _ _ elems)=>need (g=g') (AY elems i fun x=>JH (loadCells (x.cells.drop off) sz) fun v=>done v s K)
     |_=>False
   |_=>False
 | .store sz a x=>match a.val env with
   | .ref o g i off=>match nth s.σ o with
     |some (.arr g' es nn cl elems)=>need (g=g') (AY elems i fun y=>(x.val env).force fun v=>need ((v.storable&&v.cells.length==sz&&off+sz≤es)=true)
       (AcK cl v.closed fun cl'=>eqK (elems.set i (BI y off v)) fun es'=>Qx s.σ o (.arr g' es nn cl' es') fun σ=>K (.ok .undef) ⟨σ,s.ctr⟩))
     |_=>False
   |_=>False
 | .Nk x=>match x.val env with
   | .ref o g i off=>K (.ok (.ref o g i off)) s
   | .Dh cs=>K (.ok (.Dh cs)) s
   | .fn f cs=>K (.ok (.fn f cs)) s
   |_=>False
 | .bin op t x y=>AcJ op t (x.val env) (y.val env) fun v=>K (.ok v) s
 | .un op x=>match op,x.val env with
   | .not,.bool b=>Js b (K (.ok (.bool false)) s) (K (.ok (.bool true)) s)
   | .neg,.int k n=>Ip k (0-n) fun v=>K (.ok v) s
   |_,_=>False
 | .conv k x=>match x.val env with
   | .int _ n=>Ip k n fun v=>K (.ok v) s
   |_=>False
 | .field off sz x=>match x.val env with
   | .agg cs=>JH (loadCells (cs.drop off) sz) fun v=>done v s K
   |_=>False
 | .OO off x=>match x.val env with
   | .Dh cs=>K (.ok (.Dh (cs.drop off))) s
   | .ref o g i off'=>K (.ok (.ref o g i (off'+off))) s
   |_=>False
 | .OQ es x i=>match x.val env,i.val env with
   | .sl _ xs,.int _ i=>need (0≤i) (AY xs i.toNat fun v=>need (v.cells.length=es) (K (.ok (.Dh v.cells)) s))
   | .own o g off len,.int _ i=>match nth s.σ o with
     |some (.arr g' es' _ _ _)=>need (g=g'∧es=es'∧0≤i∧i<len) (AaE off i.toNat fun j=>K (.ok (.ref o g j 0)) s)
     |_=>False
   |_,_=>False
 | .len k x=>match k,x.val env with
   | .slice,.sl _ xs=>eqK xs.length fun n=>K (.ok (.int .i64 n)) s
   | .slice,.own _ _ _ n=>K (.ok (.int .i64 n)) s
   | .str,.str bs=>K (.ok (.int .i64 bs.length)) s
   | .map,.map o g=>match nth s.σ o with
     |some (.mp g' _ ents)=>need (g=g') (K (.ok (.int .i64 ents.length)) s)
     |_=>False
   | .map,.fmap ents=>K (.ok (.int .i64 ents.length)) s
   |_,_=>Ul (.len k x) env s K
 | .Ls=>Sm s (fun o g=>.map o g) (fun g=>.mp g true []) K
 | .lookup t z Ou m k=>match m.val env with
   | .map o g=>match nth s.σ o with
     |some (.mp g' _ ents)=>need (g=g'∧Hy t (k.val env)=true) (Ur t (k.val env) ents fun r=>match r with
      |some (_,v)=>bif Ou then K (.ok (.CO [v,.bool true])) s else done v s K
      |none=>bif Ou then K (.ok (.CO [z,.bool false])) s else done z s K)
     |_=>False
   | .fmap ents=>need (Hy t (k.val env)=true) (Ur t (k.val env) ents fun r=>match r with
        |some (_,v)=>bif Ou then K (.ok (.CO [v,.bool true])) s else done v s K
        |none=>bif Ou then K (.ok (.CO [z,.bool false])) s else done z s K)
   |_=>Ul (.lookup t z Ou m k) env s K
 | .mapset t m k v=>match m.val env with
   | .map o g=>match nth s.σ o with
     |some (.mp g' cl ents)=>(v.val env).force fun vv=>need (g=g'∧Hy t (k.val env)=true∧vv.storable=true)
       (AcK cl vv.closed fun cl'=>YP t (k.val env) vv ents fun WZ=>Qx s.σ o (.mp g' cl' WZ) fun σ=>K (.ok .undef) ⟨σ,s.ctr⟩)
     |_=>False
   |_=>False
 | .delete t m k=>match m.val env with
   | .map o g=>match nth s.σ o with
     |some (.mp g' cl ents)=>need (g=g'∧Hy t (k.val env)=true) (Ur t (k.val env) ents fun r=>match r with
      |some (i,_)=>Qx s.σ o (.mp g' cl (ents.eraseIdx i)) fun σ=>K (.ok .undef) ⟨σ,s.ctr⟩
      |none=>K (.ok .undef) s)
     |_=>False
   |_=>False
 | .lit own es z len parts=>WY env parts fun ps=>need (Pz es len ps 0=true) (E8 z len ps 0 fun xs=>
    bif own then YN (Gw ps) fun c=>Sm s (fun o g=>.own o g 0 len) (fun g=>.arr g es true c xs) K
    else bif Nat.beq len 0 then K (.ok .zc) s else need (Gw ps=true) (K (.ok (.sl true xs)) s))
 | .U9 x i=>match x.val env,i.val env with
   | .str bs,.int _ i=>need (0≤i) (AY bs i.toNat fun b=>K (.ok (.int .u8 b.toNat)) s)
   |_,_=>False
 | .slice es x lo hi=>match x.val env with
   | .sl nn xs=>OC env xs.length lo hi fun l h=>need (Bq es xs) (eqK (sub xs l (h-l)) fun ys=>K (.ok (.sl nn ys)) s)
   | .own o g off len=>match nth s.σ o with
     |some (.arr g' es' _ _ _)=>need (g=g'∧es=es') (OC env len lo hi fun l h=>AaE off l fun j=>K (.ok (.own o g j (h-l))) s)
     |_=>False
   |_=>Ul (.slice es x lo hi) env s K
 | .Jz x lo hi=>match x.val env with
   | .str bs=>OC env bs.length lo hi fun l h=>eqK ((bs.drop l).take (h-l)) fun r=>K (.ok (.str r)) s
   |_=>False
 | .append es bytes a x=>Vr es (x.val env) s fun ys c=>match a.val env with
   | .own o g 0 len=>match nth s.σ o with
     |some (.arr g' es' nn cl' elems)=>LW g g' es es' len nn cl' c elems ys bytes fun n nn cl es'=>Qx s.σ o (.arr s.ctr es nn cl es') fun σ=>K (.ok (.own o s.ctr 0 n)) ⟨σ,s.ctr+1⟩
     |_=>False
   |v=>JH (Fh es bytes s v ys c) fun r=>done r.1 r.2 K
 | .Gu es bytes z len cap=>match len.val env,cap.val env with
   | .int _ l,.int _ c=>need (0≤l∧l≤c∧roomy bytes c.toNat) (eqK (List.replicate l.toNat z) fun xs=>Sm s (fun o g=>.own o g 0 l.toNat) (fun g=>.arr g es true z.closed xs) K)
   |_,_=>False
 | .ext x i=>match x.val env with
   | .CO cs=>JH (nth cs i) fun v=>done v s K
   |_=>False
 | .call m f args=>YM AP m f (vals env args) s K
 | .F9 m x args=>match x.val env with
   | .fn f caps=>YM AP m f (vals env args++caps) s K
   |_=>False
 |o=>Ul o env s K
theorem Xw (C:Aw):D5 YL C:=fun _ _ _ _ h=>by cases h
theorem Cb (v:AV) (s:Ag) (K:AX→Ag→Prop):done v s K↔K (.ok v) s:=Px v _
theorem Hz {o:BP} {env:Env} {s:Ag} {K:AX→Ag→Prop} (h:Ul o env s K):Op1 AP o env s K:=by
 obtain⟨⟨out,s'⟩,h1,h2⟩:=h
 refine⟨0,out,s',BM (Xw _) h1,?_⟩
 cases out with
 |ok v=>exact(Cb v s' K).1 h2
 |D9 v=>exact h2
theorem NR {m:Mode} {f:Nat} {args:List AV} {s:Ag} {K:AX→Ag→Prop} (h:YM AP m f args s K):∃N out s',A8 (run AP N) m f args s=some (out,s')∧K out s':=by
 cases m with
 |pure=>
  obtain⟨hc,v,⟨N,hp⟩,hk⟩:=h
  exact⟨N,.ok v,s,by simp only[A8,if_pos hc,hp,Option.map_some],(Cb v s K).1 hk⟩
 |borrow=>
  obtain⟨args',ha,v,⟨N,hp⟩,hs,hk⟩:=Gx h
  exact⟨N,.ok v,s,by simp only[A8,ha,hp,if_pos hs],(Cb v s K).1 hk⟩
 |share=>
  obtain⟨N,out,s',hr,hk⟩:=h
  cases out with
  |ok r=>
   obtain⟨⟨r',s''⟩,h1,h2⟩:=hk
   exact⟨N,.ok r',s'',by simp only[A8,hr,h1,Option.map_some],(Cb r' s'' K).1 h2⟩
  |D9 v=>
   obtain⟨h1,h2⟩:=hk
   exact⟨N,.D9 v,_,by simp only[A8,hr,if_pos h1],h2⟩
 |own=>
  obtain⟨N,r,s',h1,h2⟩:=h
  exact⟨N,.ok r,s',h1,(Cb r s' K).1 h2⟩
 |keep=>
  obtain⟨N,out,s',hr,hk⟩:=h
  cases out with
  |ok r=>exact⟨N,.ok r,s',hr,(Cb r s' K).1 hk⟩
  |D9 v=>exact⟨N,.D9 v,s',hr,hk⟩
theorem Gg {s:Ag} {mk:Nat→Nat→AV} {ob:Nat→Obj} {K:AX→Ag→Prop}:Sm s mk ob K↔K (.ok (mk s.σ.length s.ctr)) (push s (ob s.ctr)):=QW _ _ _
theorem GI {o:BP} {env:Env} {s:Ag} {K:AX→Ag→Prop} (h:Ja AP o env s K):Op1 AP o env s K:=by
 cases o
 case mov x=>exact⟨0,_,_,rfl,(Cb _ _ _).1 h⟩
 case H9 es=>simp only[Ja]at h;exact⟨0,_,_,rfl,Gg.1 h⟩
 case IL off e2 es cs=>
  simp only[Ja]at h
  split at h
  case h_2=>cases h
  rename_i hoff
  obtain⟨he,h⟩:=h
  have h:=Gg.1 h
  have h:=Gg.1 h
  refine⟨0,_,_,?_,h⟩
  simp only[Ah,hoff,if_pos he]
  simp[push]
 case pick c a b=>
  simp only[Ja]at h
  split at h
  ·rename_i c' hc
   cases c'
   ·exact⟨0,_,_,by simp only[Ah,hc],(Cb _ _ _).1 h⟩
   ·exact⟨0,_,_,by simp only[Ah,hc],(Cb _ _ _).1 h⟩
  ·cases h
 case alloc es z=>simp only[Ja]at h;exact⟨0,_,_,rfl,Gg.1 h⟩
 case box es x=>
  simp only[Ja,force_eq]at h
  obtain⟨h1,h2⟩:=h
  exact⟨0,_,_,by simp only[Ah,if_pos h1],Gg.1 h2⟩
 case build z ps=>
  obtain⟨cs,h1,h2⟩:=h
  exact⟨0,_,_,by simp only[Ah,h1,Option.map_some],h2⟩
 case load sz a=>
  simp only[Ja]at h
  split at h
  ·rename_i cs hv
   obtain⟨v,h1,h2⟩:=h
   exact⟨0,_,_,by simp only[Ah,hv,ok,h1,Option.map_some],(Cb _ _ _).1 h2⟩
  ·rename_i o g i off hv
   split at h
   ·rename_i g' es nn cl elems ho
    obtain⟨hg,x,hx,v,h1,h2⟩:=h
    exact⟨0,_,_,by simp only[Ah,hv,ho,if_pos hg,hx,ok,h1,Option.map_some],(Cb _ _ _).1 h2⟩
   ·cases h
  ·cases h
 case store sz a x=>
  simp only[Ja]at h
  split at h
  ·rename_i o g i off hv
   split at h
   ·rename_i g' es nn cl elems ho
    obtain⟨hg,y,hy,h⟩:=h
    rw[force_eq]at h
    obtain⟨h1,h2⟩:=h
    rw[Un]at h2
    obtain⟨es',rfl,h2⟩:=h2
    rw[Fq]at h2
    exact⟨0,_,_,by simp only[Ah,hv,ho,if_pos hg,hy,h1,if_true],h2⟩
   ·cases h
  ·cases h
 case Nk x=>
  simp only[Ja]at h
  split at h
  ·rename_i hv;exact⟨0,_,_,by simp only[Ah,hv],h⟩
  ·rename_i hv;exact⟨0,_,_,by simp only[Ah,hv],h⟩
  ·rename_i hv;exact⟨0,_,_,by simp only[Ah,hv],h⟩
  ·cases h
 case bin op t x y=>
  obtain⟨v,h1,h2⟩:=Vo h
  exact⟨0,_,_,by simp only[Ah,ok,h1,Option.map_some],h2⟩
 case un op x=>
  simp only[Ja]at h
  split at h
  ·rename_i b hv
   cases b
   ·exact⟨0,_,_,by simp only[Ah,hv,Bool.not_false],h⟩
   ·exact⟨0,_,_,by simp only[Ah,hv,Bool.not_true],h⟩
  ·rename_i k n hv
   obtain⟨y,h1,h2⟩:=h
   exact⟨0,_,_,by simp only[Ah,hv,h1],h2⟩
  ·cases h
 case conv k x=>
  simp only[Ja]at h
  split at h
  ·rename_i k' n hv
   obtain⟨y,h1,h2⟩:=h
   exact⟨0,_,_,by simp only[Ah,hv,h1],h2⟩
  ·cases h
 case field off sz x=>
  simp only[Ja]at h
  split at h
  ·rename_i cs hv
   obtain⟨v,h1,h2⟩:=h
   exact⟨0,_,_,by simp only[Ah,hv,ok,h1,Option.map_some],(Cb _ _ _).1 h2⟩
  ·cases h
 case OO off x=>
  simp only[Ja]at h
  split at h
  ·rename_i hv;exact⟨0,_,_,by simp only[Ah,hv],h⟩
  ·rename_i hv;exact⟨0,_,_,by simp only[Ah,hv],h⟩
  ·cases h
 case OQ es x i=>
  simp only[Ja]at h
  split at h
  ·rename_i nn xs k n hx hi
   obtain⟨h0,v,h1,h2,h3⟩:=h
   exact⟨0,_,_,by simp only[Ah,hx,hi,if_pos h0,h1,if_pos h2],h3⟩
  ·rename_i o g off len k n hx hi
   split at h
   ·rename_i g' es' nn cl elems ho
    obtain⟨h1,h2⟩:=h
    rw[Uo]at h2
    exact⟨0,_,_,by simp only[Ah,hx,hi,ho,if_pos h1],h2⟩
   ·cases h
  ·cases h
 case len k x=>
  simp only[Ja]at h
  split at h
  ·rename_i hv
   obtain⟨n,rfl,h⟩:=h
   exact⟨0,_,_,by simp only[Ah,hv],h⟩
  ·rename_i hv;exact⟨0,_,_,by simp only[Ah,hv],h⟩
  ·rename_i hv;exact⟨0,_,_,by simp only[Ah,hv],h⟩
  ·rename_i o g hv
   split at h
   ·rename_i g' cl ents ho
    obtain⟨h1,h2⟩:=h
    exact⟨0,_,_,by simp only[Ah,hv,ho,if_pos h1],h2⟩
   ·cases h
  ·rename_i hv;exact⟨0,_,_,by simp only[Ah,hv],h⟩
  ·exact Hz h
 case U9 x i=>
  simp only[Ja]at h
  split at h
  ·rename_i bs k n hx hi
   obtain⟨h1,b,h2,h3⟩:=h
   exact⟨0,_,_,by simp only[Ah,hx,hi,if_pos h1,h2],h3⟩
  ·cases h
 case slice es x lo hi=>
  simp only[Ja]at h
  split at h
  ·rename_i nn xs hx
   obtain⟨l,u,h1,h2,ys,rfl,h3⟩:=Ie h
   exact⟨0,_,_,by simp only[Ah,hx,h1,if_pos h2],h3⟩
  ·rename_i o g off len hx
   split at h
   ·rename_i g' es' nn cl elems ho
    obtain⟨hg,h⟩:=h
    obtain⟨l,u,h1,h2⟩:=Ie h
    rw[Uo]at h2
    exact⟨0,_,_,by simp only[Ah,hx,ho,if_pos hg,h1],h2⟩
   ·cases h
  ·exact Hz h
 case Jz x lo hi=>
  simp only[Ja]at h
  split at h
  ·rename_i bs hx
   obtain⟨l,u,h1,r,rfl,h2⟩:=Ie h
   exact⟨0,_,_,by simp only[Ah,hx,h1],h2⟩
  ·cases h
 case Ls=>simp only[Ja]at h;exact⟨0,_,_,rfl,Gg.1 h⟩
 case lookup t z Ou m k=>
  simp only[Ja]at h
  split at h
  ·rename_i o g hv
   split at h
   ·rename_i g' cl ents ho
    obtain⟨h1,r,h2,h3⟩:=h
    cases r with
    |none=>
     cases Ou
     ·exact⟨0,_,_,by simp only[Ah,hv,ho,if_pos h1,h2];rfl,(Cb _ _ _).1 h3⟩
     ·exact⟨0,_,_,by simp only[Ah,hv,ho,if_pos h1,h2];rfl,h3⟩
    |some p=>
     cases Ou
     ·exact⟨0,_,_,by simp only[Ah,hv,ho,if_pos h1,h2];rfl,(Cb _ _ _).1 h3⟩
     ·exact⟨0,_,_,by simp only[Ah,hv,ho,if_pos h1,h2];rfl,h3⟩
   ·cases h
  ·rename_i ents hv
   obtain⟨h1,r,h2,h3⟩:=h
   cases r with
   |none=>
    cases Ou
    ·exact⟨0,_,_,by simp only[Ah,hv,if_pos h1,h2];rfl,(Cb _ _ _).1 h3⟩
    ·exact⟨0,_,_,by simp only[Ah,hv,if_pos h1,h2];rfl,h3⟩
   |some p=>
    cases Ou
    ·exact⟨0,_,_,by simp only[Ah,hv,if_pos h1,h2];rfl,(Cb _ _ _).1 h3⟩
    ·exact⟨0,_,_,by simp only[Ah,hv,if_pos h1,h2];rfl,h3⟩
  ·exact Hz h
 case mapset t m k v=>
  simp only[Ja]at h
  split at h
  ·rename_i o g hv
   split at h
   ·rename_i g' cl ents ho
    rw[force_eq]at h
    obtain⟨h1,h2⟩:=h
    rw[Un]at h2
    obtain⟨r,h2,h3⟩:=h2
    rw[Fq]at h3
    cases r with
    |none=>exact⟨0,_,_,by simp only[Ah,hv,ho,if_pos h1,h2];rfl,h3⟩
    |some p=>exact⟨0,_,_,by simp only[Ah,hv,ho,if_pos h1,h2];rfl,h3⟩
   ·cases h
  ·cases h
 case delete t m k=>
  simp only[Ja]at h
  split at h
  ·rename_i o g hv
   split at h
   ·rename_i g' cl ents ho
    obtain⟨h1,r,h2,h3⟩:=h
    cases r with
    |none=>exact⟨0,_,_,by simp only[Ah,hv,ho,if_pos h1,h2],h3⟩
    |some p=>
     simp only at h3
     rw[Fq]at h3
     exact⟨0,_,_,by simp only[Ah,hv,ho,if_pos h1,h2],h3⟩
   ·cases h
  ·cases h
 case lit own es z len parts=>
  simp only[Ja,QX]at h
  obtain⟨h1,h2⟩:=h
  rw[F5]at h2
  cases own
  ·rw[cond_false]at h2
   cases hb:Nat.beq len 0
   ·rw[hb,cond_false]at h2
    have hne:len≠0:=fun e=>by subst e;simp at hb
    exact⟨0,_,_,by simp only[Ah,if_pos h1,if_neg hne,if_pos h2.1];rfl,h2.2⟩
   ·rw[hb,cond_true]at h2
    have he:len=0:=Nat.eq_of_beq_eq_true hb
    exact⟨0,_,_,by simp only[Ah,if_pos h1,if_pos he];rfl,h2⟩
  ·rw[cond_true,Vq]at h2
   exact⟨0,_,_,by simp only[Ah,if_pos h1,if_true],Gg.1 h2⟩
 case append es bytes a x=>
  simp only[Ja]at h
  obtain⟨ys,cl,h1,h⟩:=Sr h
  split at h
  ·rename_i o g len hv
   split at h
   ·rename_i g' es' nn cl' elems ho
    obtain⟨h2,h3⟩:=h
    rw[Fq]at h3
    exact⟨0,_,_,by simp only[Ah,h1,hv,Fh,ho,if_pos h2,Option.map_some],h3⟩
   ·cases h
  ·obtain⟨⟨v,s'⟩,h2,h3⟩:=h
   exact⟨0,_,_,by simp only[Ah,h1,h2,Option.map_some],(Cb _ _ _).1 h3⟩
 case Gu es bytes z len cap=>
  simp only[Ja]at h
  split at h
  ·rename_i k l k' c hl hc
   obtain⟨h1,xs,rfl,h2⟩:=h
   exact⟨0,_,_,by simp only[Ah,hl,hc,if_pos h1],Gg.1 h2⟩
  ·cases h
 case ext x i=>
  simp only[Ja]at h
  split at h
  ·rename_i cs hv
   obtain⟨v,h1,h2⟩:=h
   exact⟨0,_,_,by simp only[Ah,hv,ok,h1,Option.map_some],(Cb _ _ _).1 h2⟩
  ·cases h
 case call m f args=>exact NR h
 case F9 m x args=>
  simp only[Ja]at h
  split at h
  ·rename_i f caps hv
   obtain⟨N,out,s',h1,h2⟩:=NR h
   exact⟨N,out,s',by simp only[Ah,hv];exact h1,h2⟩
  ·cases h
 all_goals exact Hz h
end AI
end Go.Proofs.YthjeehjphekjmaaGreatDoor
namespace Go.Proofs.YthjeehjphekjmaaGreatDoor
namespace AI
open Go.RowKit
variable {AP:Nat→Option Gv}
def EM (g:Option (Nat×Bool)) (env:Env) (t e:Prop):Prop:=match g with
 |none=>t
 |some (r,b)=>match env.get r with
  | .bool b'=>Js (b'==b) t e
  | .undef=>e
  |_=>False
def YQ (k:Env→Ag→Prop) (d:Option Nat) (env:Env) (Q:Ak→Env→Ag→Prop) (out:AX) (s:Ag):Prop:=match out with
 | .ok v=>k (put d v env) s
 | .D9 v=>Q (.D9 v) env s
def Us (AP:Nat→Option Gv) (ops:List AL):Env→Ag→(Ak→Env→Ag→Prop)→Prop:=
 List.rec (motive:=fun _=>Env→Ag→(Ak→Env→Ag→Prop)→Prop) (fun env s Q=>Q .normal env s)
    (fun o _ ih env s Q=>EM o.guard env (Ja AP o.op env s (YQ (fun env s=>ih env s Q) o.dst env Q)) (ih (put o.dst .undef env) s Q)) ops
theorem Xx (o:AL) (os:List AL) (env:Env) (s:Ag) (Q:Ak→Env→Ag→Prop):Us AP (o::os) env s Q=EM o.guard env
 (Ja AP o.op env s (YQ (fun env s=>Us AP os env s Q) o.dst env Q))
 (Us AP os (put o.dst .undef env) s Q):=rfl
theorem Jc:∀{os:List AL} {env:Env} {s:Ag} {Q:Ak→Env→Ag→Prop},Us AP os env s Q→Ops AP os env s Q
 |[],env,s,Q,h=>⟨0,_,_,_,rfl,h⟩
 |o::os,env,s,Q,h=>by
  have JI:wanted o.guard env=some false→Us AP os (put o.dst .undef env) s Q→Ops AP (o::os) env s Q:=by
   intro hw h
   obtain⟨N,e,env',s',h1,h2⟩:=Jc h
   exact⟨N,e,env',s',by simp only[Dn,hw];exact h1,h2⟩
  have hdo:wanted o.guard env=some true→Ja AP o.op env s (YQ (fun env s=>Us AP os env s Q) o.dst env Q)→Ops AP (o::os) env s Q:=by
   intro hw h
   obtain⟨N,out,s1,h1,h2⟩:=GI h
   cases out with
   |ok v=>
    obtain⟨N',e,env',s',h3,h4⟩:=Jc h2
    refine⟨max N N',e,env',s',?_,h4⟩
    simp only[Dn,hw,BM (Bj (Nat.le_max_left N N')) h1]
    exact Ef (Bj (Nat.le_max_right N N')) h3
   |D9 v=>exact⟨N,_,_,_,by simp only[Dn,hw,h1],h2⟩
  rw[Xx]at h
  unfold EM at h
  split at h
  ·rename_i hg
   exact hdo (by rw[hg];rfl) h
  ·rename_i r b hg
   split at h
   ·rename_i b' hb
    cases hbb:(b'==b)
    ·rw[hbb]at h
     exact JI (by rw[hg];simp only[wanted,hb,hbb]) h
    ·rw[hbb]at h
     exact hdo (by rw[hg];simp only[wanted,hb,hbb]) h
   ·rename_i hb
    exact JI (by rw[hg];simp only[wanted,hb]) h
   ·cases h
def Jd:List Nat→Env→(Env→Prop)→Prop
 |[],_,K=>K []
 |t::ts,env,K=>(env.get t).force fun v=>Jd ts env fun e=>K ((t,v)::e)
theorem DF:∀(ts:List Nat) (env:Env) (K:Env→Prop),Jd ts env K↔K (commit env ts)
 |[],_,_=>Iff.rfl
 |t::ts,env,K=>by
  simp only[Jd,force_eq,commit]
  exact DF ts env _
def Qy:List Nat→Env→Ag→(Env→Ag→Prop)→Prop
 |[],env,s,K=>K env s
 |t::ts,env,s,K=>match env.get t with
  | .own o g off len=>match nth s.σ o with
    |some (.arr g' _ nn cl elems)=>need (g=g'∧cl=true∧off+len≤elems.length) (eqK (sub elems off len) fun xs=>Qx s.σ o .dead fun σ=>Qy ts ((t,.sl nn xs)::env) ⟨σ,s.ctr⟩ K)
    |_=>False
  | .ref o g i off=>match nth s.σ o with
    |some (.arr g' _ nn cl elems)=>need (g=g'∧cl=true) (AY elems i fun x=>Qx s.σ o .dead fun σ=>Qy ts ((t,.Dh (x.cells.drop off))::env) ⟨σ,s.ctr⟩ K)
    |_=>False
  | .map o g=>match nth s.σ o with
    |some (.mp g' cl ents)=>need (g=g'∧cl=true∧O8 ents=true) (Qx s.σ o .dead fun σ=>Qy ts ((t,.fmap ents)::env) ⟨σ,s.ctr⟩ K)
    |_=>False
  | .sl nn xs=>Qy ts ((t,.sl nn xs)::env) s K
  | .zc=>Qy ts ((t,.zc)::env) s K
  |_=>False
theorem Eh:∀{ts:List Nat} {env:Env} {s:Ag} {K:Env→Ag→Prop},Qy ts env s K→∃env' s',EY ts env s=some (env',s')∧K env' s'
 |[],env,s,K,h=>⟨env,s,rfl,h⟩
 |t::ts,env,s,K,h=>by
  simp only[Qy]at h
  split at h
  ·rename_i o g off len hv
   split at h
   ·rename_i g' es nn cl elems ho
    obtain⟨⟨rfl,rfl,hf⟩,xs,rfl,h⟩:=h
    rw[Fq]at h
    obtain⟨env',s',h1,h2⟩:=Eh h
    exact⟨env',s',by simp only[EY,hv,ho,true_and,if_pos hf];exact h1,h2⟩
   ·cases h
  ·rename_i o g i off hv
   split at h
   ·rename_i g' es nn cl elems ho
    obtain⟨⟨rfl,rfl⟩,⟨x,hx,h⟩⟩:=h
    rw[Fq]at h
    obtain⟨env',s',h1,h2⟩:=Eh h
    exact⟨env',s',by simp only[EY,hv,ho,if_pos,hx];exact h1,h2⟩
   ·cases h
  ·rename_i o g hv
   split at h
   ·rename_i g' cl ents ho
    obtain⟨⟨rfl,rfl,hk⟩,h⟩:=h
    rw[Fq]at h
    obtain⟨env',s',h1,h2⟩:=Eh h
    exact⟨env',s',by simp only[EY,hv,ho,true_and,if_pos hk];exact h1,h2⟩
   ·cases h
  ·rename_i nn xs hv
   obtain⟨env',s',h1,h2⟩:=Eh h
   exact⟨env',s',by simp only[EY,hv];exact h1,h2⟩
  ·rename_i hv
   obtain⟨env',s',h1,h2⟩:=Eh h
   exact⟨env',s',by simp only[EY,hv];exact h1,h2⟩
  ·cases h
def QY {α:Type}:Nat→List α→(List α→Prop)→Prop
 |0,_,K=>K []
 |_+1,[],K=>K []
 |n+1,x::xs,K=>QY n xs fun ys=>K (x::ys)
theorem NG {α:Type}:∀(n:Nat) (l:List α) (K:List α→Prop),QY n l K↔K (l.take n)
 |0,_,_=>by simp[QY]
 |_+1,[],_=>by simp[QY]
 |n+1,x::xs,K=>NG n xs fun ys=>K (x::ys)
def YR (tr:Option Nat) (s:Ag) (K:Ag→Prop):Prop:=match tr with
 |none=>K s
 |some k=>QY (kept k s.σ.length) s.σ fun σ=>K ⟨σ,s.ctr⟩
theorem KW (tr:Option Nat) (s:Ag) (K:Ag→Prop):YR tr s K↔K (truncate tr s):=by
 cases tr with
 |none=>exact Iff.rfl
 |some k=>exact NG _ s.σ _
def YS (live:List Nat) (tr:Option Nat) (Q:Ak→Env→Ag→Prop) (e:Ak) (env:Env) (s:Ag):Prop:=match e with
 | .normal=>Jd live env fun env=>YR tr s fun s=>Q .normal env s
 |e=>Q e env s
def Ju (k:Env→Ag→Prop) (Q:Ak→Env→Ag→Prop) (e:Ak) (env:Env) (s:Ag):Prop:=match e with
 | .normal=>k env s
 |e=>Q e env s
def Va (id:Nat) (Q:Ak→Env→Ag→Prop) (e:Ak) (env:Env) (s:Ag):Prop:=match e with
 | .exit j=>Js (Nat.beq j id) (Q .normal env s) (Q (.exit j) env s)
 |e=>Q e env s
def Sz (AP:Nat→Option Gv) (o:BP) (r g:Nat) (env:Env) (s:Ag) (K:AV→Option (Nat×Obj)→Nat→Prop):Prop:=
 Ja AP o env s fun out s'=>match out with
    | .D9 _=>False
    | .ok v=>match o.cls with
      |some .e=>K v none 0
      |some .r=>K v none 0
      |some .w=>match o.writes r env with
       |[t]=>match nth s'.σ t with
        |some ob=>K v (some (t,ob)) 0
        |none=>False
       |_=>False
      |some .a=>match nth s'.σ v.idx with
       |some ob=>bif Nat.blt v.idx s.σ.length then K (v.moved v.idx g) (some (v.idx,ob.NM g)) 1
        else match nth s.σ r with
           |some .dead=>K (v.moved r g) (some (r,ob.NM g)) 1
           |_=>False
       |none=>False
      |none=>False
theorem SA {o:BP} {r g:Nat} {env:Env} {s:Ag} {K:AV→Option (Nat×Obj)→Nat→Prop} (h:Sz AP o r g env s K):∃N v u b,G8 (run AP N) o r g env s=some (v,u,b)∧K v u b:=by
 obtain⟨N,out,s',h1,h2⟩:=GI h
 cases out with
 |D9 v=>cases h2
 |ok v=>
  simp only at h2
  split at h2
  ·rename_i hc;exact⟨N,_,_,_,by simp only[G8,hc,h1],h2⟩
  ·rename_i hc;exact⟨N,_,_,_,by simp only[G8,hc,h1],h2⟩
  ·rename_i hc
   split at h2
   ·rename_i t ht
    split at h2
    ·rename_i ob hob;exact⟨N,_,_,_,by simp only[G8,hc,h1,ht,hob],h2⟩
    ·cases h2
   ·cases h2
  ·rename_i hc
   split at h2
   ·rename_i ob hob
    cases hb:Nat.blt v.idx s.σ.length
    ·rw[hb,cond_false]at h2
     have hlt:¬v.idx<s.σ.length:=fun hlt=>by
      have:=(show (Nat.blt v.idx s.σ.length=true) from Nat.blt_eq▸hlt)
      rw[hb]at this;cases this
     split at h2
     ·rename_i hd
      exact⟨N,_,_,_,by simp only[G8,hc,h1,hob,if_neg hlt,hd],h2⟩
     ·cases h2
    ·rw[hb,cond_true]at h2
     exact⟨N,_,_,_,by simp only[G8,hc,h1,hob,if_pos (show v.idx<s.σ.length from Nat.blt_eq▸hb)],h2⟩
   ·cases h2
  ·cases h2
def Ku (u:Option (Nat×Obj)) (b:Nat) (s:Ag) (K:Ag→Prop):Prop:=match u with
 |some (t,ob)=>Qx s.σ t ob fun σ=>K ⟨σ,s.ctr+b⟩
 |none=>K ⟨s.σ,s.ctr+b⟩
theorem NS (u:Option (Nat×Obj)) (b:Nat) (s:Ag) (K:Ag→Prop):Ku u b s K↔K (Ed u b s):=by
 unfold Ku Ed
 split
 ·exact Fq _ _ _ _
 ·exact Iff.rfl
def Vs (AP:Nat→Option Gv) (ops:List AL):Nat→Nat→Env→Ag→(List Eff→Prop)→Prop:=
 List.rec (motive:=fun _=>Nat→Nat→Env→Ag→(List Eff→Prop)→Prop) (fun _ _ _ _ K=>K [])
    (fun o _ ih r g env s K=>EM o.guard env
      (Sz AP o.op r g env s fun v u b=>Ku u b s fun s'=>ih (r+rank o.op) (g+1) (put o.dst v env) s' fun es=>K (⟨o.dst,v,o.op.reads r env,o.op.writes r env,u,b⟩::es))
      (ih (r+rank o.op) (g+1) (put o.dst .undef env) s fun es=>K (⟨o.dst,.undef,[],[],none,0⟩::es))) ops
theorem Xy (o:AL) (os:List AL) (r g:Nat) (env:Env) (s:Ag) (K:List Eff→Prop):Vs AP (o::os) r g env s K=EM o.guard env
 (Sz AP o.op r g env s fun v u b=>Ku u b s fun s'=>Vs AP os (r+rank o.op) (g+1) (put o.dst v env) s' fun es=>K (⟨o.dst,v,o.op.reads r env,o.op.writes r env,u,b⟩::es))
 (Vs AP os (r+rank o.op) (g+1) (put o.dst .undef env) s fun es=>K (⟨o.dst,.undef,[],[],none,0⟩::es)):=rfl
theorem KX:∀{os:List AL} {r g:Nat} {env:Env} {s:Ag} {K:List Eff→Prop},Vs AP os r g env s K→∃N es,Gq (run AP N) os r g env s=some es∧K es
 |[],r,g,env,s,K,h=>⟨0,_,rfl,h⟩
 |o::os,r,g,env,s,K,h=>by
  have JI:wanted o.guard env=some false→(Vs AP os (r+rank o.op) (g+1) (put o.dst .undef env) s fun es=>K (⟨o.dst,.undef,[],[],none,0⟩::es))→∃N es,Gq (run AP N) (o::os) r g env s=some es∧K es:=by
   intro hw h
   obtain⟨N,es,h1,h2⟩:=KX h
   exact⟨N,_,by simp only[Gq,hw,h1],h2⟩
  have hdo:wanted o.guard env=some true→(Sz AP o.op r g env s fun v u b=>Ku u b s fun s'=>Vs AP os (r+rank o.op) (g+1) (put o.dst v env) s' fun es=>K (⟨o.dst,v,o.op.reads r env,o.op.writes r env,u,b⟩::es))→∃N es,Gq (run AP N) (o::os) r g env s=some es∧K es:=by
   intro hw h
   obtain⟨N,v,u,b,h1,h2⟩:=SA h
   rw[NS]at h2
   obtain⟨N',es,h3,h4⟩:=KX h2
   refine⟨max N N',_,?_,h4⟩
   simp only[Gq,hw,Pq (Bj (Nat.le_max_left N N')) h1,He (Bj (AP:=AP) (Nat.le_max_right N N')) h3]
  rw[Xy]at h
  unfold EM at h
  split at h
  ·rename_i hg
   exact hdo (by rw[hg];rfl) h
  ·rename_i r' b hg
   split at h
   ·rename_i b' hb
    cases hbb:(b'==b)
    ·rw[hbb]at h
     exact JI (by rw[hg];simp only[wanted,hb,hbb]) h
    ·rw[hbb]at h
     exact hdo (by rw[hg];simp only[wanted,hb,hbb]) h
   ·rename_i hb
    exact JI (by rw[hg];simp only[wanted,hb]) h
   ·cases h
def YT {α:Type}:List α→List α→(List α→Prop)→Prop
 |[],ys,K=>K ys
 |x::xs,ys,K=>YT xs ys fun r=>K (x::r)
theorem QZ {α:Type}:∀(xs ys:List α) (K:List α→Prop),YT xs ys K↔K (xs++ys)
 |[],_,_=>Iff.rfl
 |x::xs,ys,K=>QZ xs ys _
def OD:List Eff→Ag→(Ag→Prop)→Prop
 |[],s,K=>K s
 |e::es,s,K=>Ku e.upd e.bump s fun s=>OD es s K
theorem NT:∀(es:List Eff) (s:Ag) (K:Ag→Prop),OD es s K↔K (JC es s)
 |[],_,_=>Iff.rfl
 |e::es,s,K=>by rw[OD,NS,JC];exact NT es _ K
def AcL (n:Nat) (σ:List Obj) (K:List Obj→Prop):Prop:=match n with
 |0=>K σ
 |n+1=>YT σ (List.replicate (n+1) .dead) K
theorem YU (n:Nat) (σ:List Obj) (K:List Obj→Prop):AcL n σ K↔K (σ++List.replicate n .dead):=by
 cases n with
 |zero=>simp[AcL]
 |succ n=>exact QZ _ _ _
def Ut {α:Type}:Nat→List α→(List α→Prop)→Prop
 |0,xs,K=>K xs
 |_+1,[],K=>K []
 |n+1,_::xs,K=>Ut n xs K
theorem Q5 {α:Type}:∀(n:Nat) (l:List α) (K:List α→Prop),Ut n l K↔K (l.drop n)
 |0,_,_=>by simp[Ut]
 |_+1,[],_=>by simp[Ut]
 |n+1,_::xs,K=>Q5 n xs K
def YV (AP:Nat→Option Gv) (m:Nat) (un:List (Nat×Nat)) (ops:List AL) (env:Env) (s:Ag) (K:Env→Ag→Prop):Prop:=
 QY m ops fun hd=>AcL (ranks hd) s.σ fun σ=>Vs AP hd s.σ.length s.ctr env ⟨σ,s.ctr+m⟩ fun es=>
    need (Iu es un=true) (OD es ⟨σ,s.ctr+m⟩ fun s1=>K (KQ es env) s1)
theorem Uu {m:Nat} {un:List (Nat×Nat)} {ops:List AL} {env:Env} {s:Ag} {K:Env→Ag→Prop} (h:YV AP m un ops env s K):∃N Ce s1,JF (run AP N) m un ops env s=some (Ce,s1)∧K Ce s1:=by
 unfold YV at h
 rw[NG,YU]at h
 obtain⟨N,es,h1,h2,h3⟩:=KX h
 rw[NT]at h3
 exact⟨N,_,_,by simp only[JF,h1,if_pos h2],h3⟩
def YW (AP:Nat→Option Gv) (op:BP) (env:Env) (v:AV):List Ag→Prop→Prop
 |[],T=>T
 |S::r,T=>Ja AP op env S fun out _=>match out with
  | .ok u=>need (Ko u v=true) (YW AP op env v r T)
  | .D9 _=>False
def YX (AP:Nat→Option Gv) (S:Ag):List (BP×Env×AV)→Prop→Prop
 |[],T=>T
 |(op,env,v)::r,T=>Ja AP op env S fun out _=>match out with
  | .ok u=>need (Ko u v=true) (YX AP S r T)
  | .D9 _=>False
theorem NU {op:BP} {env:Env} {v:AV}:∀{past:List Ag} {T:Prop},YW AP op env v past T→(∃ N,I4 (run AP N) op env v past=true)∧T
 |[],T,h=>⟨⟨0,rfl⟩,h⟩
 |S::r,T,h=>by
  obtain⟨N,out,s',h1,h2⟩:=GI h
  cases out with
  |D9 u=>exact h2.elim
  |ok u=>
   obtain⟨h3,h4⟩:=h2
   obtain⟨⟨N',h5⟩,h6⟩:=NU h4
   refine⟨⟨max N N',?_⟩,h6⟩
   simp only[I4,BM (Bj (Nat.le_max_left N N')) h1,h3,Hu (Bj (Nat.le_max_right N N')) h5,Bool.and_self]
theorem NV {S:Ag}:∀{pend:List (BP×Env×AV)} {T:Prop},YX AP S pend T→(∃ N,I5 (run AP N) S pend=true)∧T
 |[],T,h=>⟨⟨0,rfl⟩,h⟩
 |(op,env,v)::r,T,h=>by
  obtain⟨N,out,s',h1,h2⟩:=GI h
  cases out with
  |D9 u=>exact h2.elim
  |ok u=>
   obtain⟨h3,h4⟩:=h2
   obtain⟨⟨N',h5⟩,h6⟩:=NV h4
   refine⟨⟨max N N',?_⟩,h6⟩
   simp only[I5,BM (Bj (Nat.le_max_left N N')) h1,h3,Hw (Bj (Nat.le_max_right N N')) h5,Bool.and_self]
def JJ (AP:Nat→Option Gv) (E:List Nat) (ops:List AL):Nat→Env→Ag→Prop→Prop:=
 List.rec (motive:=fun _=>Nat→Env→Ag→Prop→Prop) (fun _ _ _ T=>T)
    (fun o _ ih i env s T=>bif CZ i E then EM o.guard env
      (Ja AP o.op env s fun out _=>match out with
        | .ok v=>bif flt o then ih (i+1) (put o.dst v env) s T else False
        | .D9 _=>False)
      (ih (i+1) (put o.dst .undef env) s T)
      else ih (i+1) env s T) ops
theorem Uw (E:List Nat) (o:AL) (os:List AL) (i:Nat) (env:Env) (s:Ag) (T:Prop):JJ AP E (o::os) i env s T=bif CZ i E then EM o.guard env
        (Ja AP o.op env s fun out _=>match out with
          | .ok v=>bif flt o then JJ AP E os (i+1) (put o.dst v env) s T else False
          | .D9 _=>False)
        (JJ AP E os (i+1) (put o.dst .undef env) s T)
 else JJ AP E os (i+1) env s T:=rfl
theorem Gy {E:List Nat}:∀{os:List AL} {i:Nat} {env:Env} {s:Ag} {T:Prop},JJ AP E os i env s T→(∃ N,DN (run AP N) E os i env s=true)∧T
 |[],i,env,s,T,h=>⟨⟨0,rfl⟩,h⟩
 |o::os,i,env,s,T,h=>by
  rw[Uw]at h
  cases hm:CZ i E with
  |false=>
   rw[hm,cond_false]at h
   obtain⟨⟨N,h1⟩,h2⟩:=Gy h
   exact⟨⟨N,by simp only[DN,hm,Bool.false_eq_true,if_false];exact h1⟩,h2⟩
  |true=>
   rw[hm,cond_true]at h
   have JI:wanted o.guard env=some false→JJ AP E os (i+1) (put o.dst .undef env) s T→(∃ N,DN (run AP N) E (o::os) i env s=true)∧T:=by
        intro hw h
        obtain⟨⟨N,h1⟩,h2⟩:=Gy h
        exact⟨⟨N,by simp only[DN,hm,if_true,hw];exact h1⟩,h2⟩
   have hdo:wanted o.guard env=some true→(Ja AP o.op env s fun out _=>match out with
    | .ok v=>bif flt o then JJ AP E os (i+1) (put o.dst v env) s T else False
    | .D9 _=>False)→(∃ N,DN (run AP N) E (o::os) i env s=true)∧T:=by
        intro hw h
        obtain⟨N,out,s1,h1,h2⟩:=GI h
        cases out with
        |D9 v=>exact h2.elim
        |ok v=>
         dsimp only at h2
         cases hf:flt o with
         |false=>rw[hf]at h2;exact h2.elim
         |true=>
          rw[hf,cond_true]at h2
          obtain⟨⟨N',h3⟩,h4⟩:=Gy h2
          refine⟨⟨max N N',?_⟩,h4⟩
          simp only[DN,hm,if_true,hw,BM (Bj (AP:=AP) (Nat.le_max_left N N')) h1,hf,Ey (Bj (AP:=AP) (Nat.le_max_right N N')) h3,Bool.and_self]
   unfold EM at h
   split at h
   ·rename_i hg
    exact hdo (by rw[hg];rfl) h
   ·rename_i r b hg
    split at h
    ·rename_i b' hb
     cases hbb:(b'==b)
     ·rw[hbb]at h
      exact JI (by rw[hg];simp only[wanted,hb,hbb]) h
     ·rw[hbb]at h
      exact hdo (by rw[hg];simp only[wanted,hb,hbb]) h
    ·rename_i hb
     exact JI (by rw[hg];simp only[wanted,hb]) h
    ·cases h
def Ux (AP:Nat→Option Gv) (m:Nat) (W pc:List Nat) (o:AL) (os:List AL) (i:Nat) (k:Env→Ag→List (BP×Env×AV)→List Ag→Prop) (Q:Ak→Env→Ag→Prop) (env:Env) (s:Ag) (pend:List (BP×Env×AV)) (past:List Ag) (out:AX) (s1:Ag):Prop:=match out with
 | .D9 v=>match pc with
   |p::E=>bif Nat.beq i p&&!(CZ i W||(flt o||Nat.blt i m))then JJ AP E os (i+1) env s (Q (.D9 v) [] s1)else False
   |[]=>False
 | .ok v=>bif CZ i W then bif o.op.EF then YW AP o.op env v past (k (put o.dst v env) s ((o.op,env,v)::pend) past)else False
   else bif flt o||Nat.blt i m then k (put o.dst v env) s pend past
   else YX AP s1 pend (k (put o.dst v env) s1 pend (s::past))
def Vt (AP:Nat→Option Gv) (m:Nat) (W pc:List Nat) (ops:List AL):Nat→Env→Ag→List (BP×Env×AV)→List Ag→(Ak→Env→Ag→Prop)→Prop:=
 List.rec (motive:=fun _=>Nat→Env→Ag→List (BP×Env×AV)→List Ag→(Ak→Env→Ag→Prop)→Prop) (fun _ env s _ _ K=>K .normal env s)
    (fun o os ih i env s pend past K=>EM o.guard env (Ja AP o.op env s (Ux AP m W pc o os i (fun env s pend past=>ih (i+1) env s pend past K) K env s pend past))
      (ih (i+1) (put o.dst .undef env) s pend past K)) ops
theorem Xz (m:Nat) (W pc:List Nat) (o:AL) (os:List AL) (i:Nat) (env:Env) (s:Ag) (pend:List (BP×Env×AV)) (past:List Ag) (K:Ak→Env→Ag→Prop):Vt AP m W pc (o::os) i env s pend past K=EM o.guard env
 (Ja AP o.op env s (Ux AP m W pc o os i (fun env s pend past=>Vt AP m W pc os (i+1) env s pend past K) K env s pend past))
 (Vt AP m W pc os (i+1) (put o.dst .undef env) s pend past K):=rfl
theorem Hg {m:Nat} {W pc:List Nat}:∀{os:List AL} {i:Nat} {env:Env} {s:Ag} {pend:List (BP×Env×AV)} {past:List Ag} {K:Ak→Env→Ag→Prop},Vt AP m W pc os i env s pend past K→∃N x env' s',EZ (run AP N) m W pc os i env s pend past=some (x,env',s')∧K x env' s'
 |[],i,env,s,pend,past,K,h=>⟨0,_,_,_,rfl,h⟩
 |o::os,i,env,s,pend,past,K,h=>by
  have JI:wanted o.guard env=some false→Vt AP m W pc os (i+1) (put o.dst .undef env) s pend past K→∃N x env' s',EZ (run AP N) m W pc (o::os) i env s pend past=some (x,env',s')∧K x env' s':=by
   intro hw h
   obtain⟨N,x,env',s',h1,h2⟩:=Hg h
   exact⟨N,x,env',s',by simp only[EZ,hw];exact h1,h2⟩
  have hdo:wanted o.guard env=some true→Ja AP o.op env s (Ux AP m W pc o os i (fun env s pend past=>Vt AP m W pc os (i+1) env s pend past K) K env s pend past)→∃N x env' s',EZ (run AP N) m W pc (o::os) i env s pend past=some (x,env',s')∧K x env' s':=by
   intro hw h
   obtain⟨N,out,s1,h1,h2⟩:=GI h
   cases out with
   |D9 v=>
    simp only[Ux]at h2
    cases pc with
    |nil=>exact h2.elim
    |cons p E=>
     dsimp only at h2
     cases hc:(Nat.beq i p&&!(CZ i W||(flt o||Nat.blt i m)))with
     |false=>rw[hc]at h2;exact h2.elim
     |true=>
      rw[hc,cond_true]at h2
      obtain⟨⟨N1,h3⟩,h4⟩:=Gy h2
      refine⟨max N N1,_,_,_,?_,h4⟩
      simp only[EZ,hw,BM (Bj (AP:=AP) (Nat.le_max_left N N1)) h1,hc,Ey (Bj (AP:=AP) (Nat.le_max_right N N1)) h3,Bool.and_self,if_true]
   |ok v=>
    simp only[Ux]at h2
    cases hm:CZ i W with
    |true=>
     rw[hm,cond_true]at h2
     cases hp:o.op.EF with
     |false=>rw[hp]at h2;exact h2.elim
     |true=>
      rw[hp,cond_true]at h2
      obtain⟨⟨N1,h3⟩,h4⟩:=NU h2
      obtain⟨N2,x,env',s',h5,h6⟩:=Hg h4
      refine⟨max N (max N1 N2),x,env',s',?_,h6⟩
      simp only[EZ,hw,BM (Bj (AP:=AP) (Nat.le_max_left N (max N1 N2))) h1,hm,hp,Hu (Bj (AP:=AP) (show N1≤max N (max N1 N2) by omega)) h3,Bool.and_self,if_true]
      exact DR (Bj (show N2≤max N (max N1 N2) by omega)) h5
    |false=>
     rw[hm,cond_false]at h2
     cases hf:(flt o||Nat.blt i m)with
     |true=>
      rw[hf,cond_true]at h2
      obtain⟨N2,x,env',s',h5,h6⟩:=Hg h2
      refine⟨max N N2,x,env',s',?_,h6⟩
      simp only[EZ,hw,BM (Bj (AP:=AP) (Nat.le_max_left N N2)) h1,hm,hf,if_true,Bool.false_eq_true,if_false]
      exact DR (Bj (Nat.le_max_right N N2)) h5
     |false=>
      rw[hf,cond_false]at h2
      obtain⟨⟨N1,h3⟩,h4⟩:=NV h2
      obtain⟨N2,x,env',s',h5,h6⟩:=Hg h4
      refine⟨max N (max N1 N2),x,env',s',?_,h6⟩
      simp only[EZ,hw,BM (Bj (AP:=AP) (Nat.le_max_left N (max N1 N2))) h1,hm,hf,Hw (Bj (AP:=AP) (show N1≤max N (max N1 N2) by omega)) h3,if_true,Bool.false_eq_true,if_false]
      exact DR (Bj (show N2≤max N (max N1 N2) by omega)) h5
  rw[Xz]at h
  unfold EM at h
  split at h
  ·rename_i hg
   exact hdo (by rw[hg];rfl) h
  ·rename_i r b hg
   split at h
   ·rename_i b' hb
    cases hbb:(b'==b)
    ·rw[hbb]at h
     exact JI (by rw[hg];simp only[wanted,hb,hbb]) h
    ·rw[hbb]at h
     exact hdo (by rw[hg];simp only[wanted,hb,hbb]) h
   ·rename_i hb
    exact JI (by rw[hg];simp only[wanted,hb]) h
   ·cases h
def YZ (v:AV) (A B:Prop):Prop:=match v with
 | .bool c=>Js c A B
 |_=>False
def vC (AP:Nat→Option Gv) (c:Am):Env→Ag→(Ak→Env→Ag→Prop)→Prop:=
 Am.rec (motive:=fun _=>Env→Ag→(Ak→Env→Ag→Prop)→Prop)
    (fun env s Q=>Q .normal env s)
    (fun _ IK ops live tr env s Q=>Qy IK env s fun env s=>Us AP ops env s (YS live tr Q))
    (fun m un IK ops live tr env s Q=>Qy IK env s fun env s=>YV AP m un ops env s fun Ce s1=>Ut m ops fun tl=>Us AP tl Ce s1 (YS live tr Q))
    (fun m W pc IK ops live tr env s Q=>Qy IK env s fun env s=>Vt AP m W pc ops 0 env s [] [] (YS live tr Q))
    (fun _ _ iha ihb env s Q=>iha env s (Ju (fun env s=>ihb env s Q) Q))
    (fun c _ _ iha ihb env s Q=>YZ (c.val env) (iha env s Q) (ihb env s Q))
    (fun id _ iha env s Q=>iha env s (Va id Q))
    (fun live a _ env s Q=>Jd live env fun env=>Run AP (.loop live a) env s Q)
    (fun id env s Q=>Q (.exit id) env s)
    (fun env s Q=>Q .ret env s) c
theorem PD {env:Env} {t:Nat}:∀{ts:List Nat},t∈ts→(commit env ts).get t=env.get t
 |[],h=>by simp at h
 |t'::ts,h=>by
  simp only[commit,Env.get]
  cases hb:Nat.beq t' t
  ·have hne:t≠t':=fun e=>by subst e;simp at hb
   rw[cond_false]
   exact PD ((List.mem_cons.1 h).resolve_left hne)
  ·rw[cond_true,Nat.eq_of_beq_eq_true hb]
theorem LZ {env env':Env}:∀{ts:List Nat},(∀ t∈ts,env.get t=env'.get t)→commit env ts=commit env' ts
 |[],_=>rfl
 |t::ts,h=>by simp only[commit];rw[h t (by simp),LZ fun t' h'=>h t' (by simp[h'])]
theorem Qz (env:Env) (ts:List Nat):commit (commit env ts) ts=commit env ts:=LZ fun _ h=>PD h
theorem JK {live:List Nat} {a:Am} {env:Env} {s:Ag} {Q:Ak→Env→Ag→Prop} (h:Run AP (.loop live a) (commit env live) s Q):Run AP (.loop live a) env s Q:=by
 obtain⟨N,e,env',s',h1,h2⟩:=h
 refine⟨N,e,env',s',?_,h2⟩
 simp only[Et]at h1 ⊢
 cases N with
 |zero=>simp[iter]at h1
 |succ N=>
  simp only[iter,Qz]at h1 ⊢
  exact h1
theorem Hl:∀{c:Am} {env:Env} {s:Ag} {Q:Ak→Env→Ag→Prop},vC AP c env s Q→Run AP c env s Q:=by
 intro c
 induction c with
 |skip=>intro env s Q h;exact⟨0,_,_,_,rfl,h⟩
 |exit id=>intro env s Q h;exact⟨0,_,_,_,rfl,h⟩
 |ret=>intro env s Q h;exact⟨0,_,_,_,rfl,h⟩
 |region hd IK ops live tr=>
  intro env s Q h
  obtain⟨Ce,s1,h1,h2⟩:=Eh h
  obtain⟨N,e,ET,s2,h3,h4⟩:=Jc h2
  cases e with
  |normal=>exact⟨N,_,_,_,by simp only[Et,h1,h3],(KW _ _ _).1 ((DF _ _ _).1 h4)⟩
  |exit id=>exact⟨N,_,_,_,by simp only[Et,h1,h3],h4⟩
  |ret=>exact⟨N,_,_,_,by simp only[Et,h1,h3],h4⟩
  |D9 v=>exact⟨N,_,_,_,by simp only[Et,h1,h3],h4⟩
 |mix m W pc IK ops live tr=>
  intro env s Q h
  obtain⟨Ce,s1,h1,h2⟩:=Eh h
  obtain⟨N,e,ET,s2,h3,h4⟩:=Hg h2
  cases e with
  |normal=>exact⟨N,_,_,_,by simp only[Et,h1,h3],(KW _ _ _).1 ((DF _ _ _).1 h4)⟩
  |exit id=>exact⟨N,_,_,_,by simp only[Et,h1,h3],h4⟩
  |ret=>exact⟨N,_,_,_,by simp only[Et,h1,h3],h4⟩
  |D9 v=>exact⟨N,_,_,_,by simp only[Et,h1,h3],h4⟩
 |par m un IK ops live tr=>
  intro env s Q h
  obtain⟨Ce,s1,h1,h2⟩:=Eh h
  obtain⟨N',Aeu,s1',hh,h2⟩:=Uu h2
  rw[Q5]at h2
  obtain⟨N,e,ET,s2,h3,h4⟩:=Jc h2
  have hh':JF (run AP (max N N')) m un ops Ce s1=some (Aeu,s1'):=by
   unfold JF at hh ⊢
   split at hh
   ·rename_i es hes
    rw[He (Bj (Nat.le_max_right N N')) hes]
    exact hh
   ·cases hh
  have h3':=Ef (Bj (AP:=AP) (Nat.le_max_left N N')) h3
  cases e with
  |normal=>exact⟨max N N',_,_,_,by simp only[Et,h1,hh',h3'],(KW _ _ _).1 ((DF _ _ _).1 h4)⟩
  |exit id=>exact⟨max N N',_,_,_,by simp only[Et,h1,hh',h3'],h4⟩
  |ret=>exact⟨max N N',_,_,_,by simp only[Et,h1,hh',h3'],h4⟩
  |D9 v=>exact⟨max N N',_,_,_,by simp only[Et,h1,hh',h3'],h4⟩
 |seq a b iha ihb=>
  intro env s Q h
  obtain⟨N,e,Ce,s1,h1,h2⟩:=iha h
  cases e with
  |normal=>
   obtain⟨N',e',ET,s2,h3,h4⟩:=ihb h2
   have h1':=CV (Bj (AP:=AP) (Nat.le_max_left N N')) (Nat.le_max_left N N') h1
   have h3':=CV (Bj (AP:=AP) (Nat.le_max_right N N')) (Nat.le_max_right N N') h3
   exact⟨max N N',e',ET,s2,by simp only[Et,h1',h3'],h4⟩
  |exit id=>exact⟨N,_,_,_,by simp only[Et,h1],h2⟩
  |ret=>exact⟨N,_,_,_,by simp only[Et,h1],h2⟩
  |D9 v=>exact⟨N,_,_,_,by simp only[Et,h1],h2⟩
 |cond c a b iha ihb=>
  intro env s Q h
  change YZ (c.val env) (vC AP a env s Q) (vC AP b env s Q)at h
  unfold YZ at h
  split at h
  ·rename_i c' hc
   cases c'
   ·obtain⟨N,e,Ce,s1,h1,h2⟩:=ihb h
    exact⟨N,e,Ce,s1,by simp only[Et,hc,h1],h2⟩
   ·obtain⟨N,e,Ce,s1,h1,h2⟩:=iha h
    exact⟨N,e,Ce,s1,by simp only[Et,hc,h1],h2⟩
  ·cases h
 |block id a iha=>
  intro env s Q h
  obtain⟨N,e,Ce,s1,h1,h2⟩:=iha h
  cases e with
  |normal=>exact⟨N,_,_,_,by simp only[Et,h1],h2⟩
  |exit j=>
   simp only[Va]at h2
   cases hb:Nat.beq j id
   ·rw[hb]at h2
    have hne:j≠id:=fun e=>by subst e;simp at hb
    exact⟨N,_,_,_,by simp only[Et,h1,if_neg hne],h2⟩
   ·rw[hb]at h2
    exact⟨N,_,_,_,by simp only[Et,h1,if_pos (Nat.eq_of_beq_eq_true hb)],h2⟩
  |ret=>exact⟨N,_,_,_,by simp only[Et,h1],h2⟩
  |D9 v=>exact⟨N,_,_,_,by simp only[Et,h1],h2⟩
 |loop live a iha=>
  intro env s Q h
  exact JK ((DF _ _ _).1 h)
def Vu (AP:Nat→Option Gv) (live:List Nat) (a:Am) (Q:Ak→Env→Ag→Prop) (e:Ak) (env:Env) (s:Ag):Prop:=match e with
 | .normal=>Jd live env fun env=>Run AP (.loop live a) env s Q
 |e=>Q e env s
theorem Iz {live:List Nat} {a:Am} {env:Env} {s:Ag} {Q:Ak→Env→Ag→Prop} (h:vC AP a env s (Vu AP live a Q)) (hc:commit env live=env):Run AP (.loop live a) env s Q:=by
 obtain⟨N,e,Ce,s1,h1,h2⟩:=Hl h
 cases e with
 |normal=>
  obtain⟨N',e',ET,s2,h3,h4⟩:=JK ((DF _ _ _).1 h2)
  refine⟨max N N'+1,e',ET,s2,?_,h4⟩
  have h1':=CV (Bj (AP:=AP) (show N≤max N N'+1 by omega)) (show N≤max N N'+1 by omega) h1
  simp only[Et]at h3 ⊢
  rw[iter.eq_2]
  rw[hc,h1']
  exact Kt (fun env s r hr=>CV (Bj (by omega)) (by omega) hr) (by omega) h3
 |exit id=>exact⟨N+1,_,_,_,by simp only[Et,iter.eq_2,hc,CV (Bj (AP:=AP) (Nat.le_succ N)) (Nat.le_succ N) h1],h2⟩
 |ret=>exact⟨N+1,_,_,_,by simp only[Et,iter.eq_2,hc,CV (Bj (AP:=AP) (Nat.le_succ N)) (Nat.le_succ N) h1],h2⟩
 |D9 v=>exact⟨N+1,_,_,_,by simp only[Et,iter.eq_2,hc,CV (Bj (AP:=AP) (Nat.le_succ N)) (Nat.le_succ N) h1],h2⟩
def Nq (fn:FK) (K:AX→Ag→Prop) (e:Ak) (env:Env) (s:Ag):Prop:=match e with
 | .normal=>JH (FW env s fn.results) fun vs=>K (.ok (E5 vs)) s
 | .ret=>JH (FW env s fn.results) fun vs=>K (.ok (E5 vs)) s
 | .D9 v=>K (.D9 v) s
 | .exit _=>False
theorem Uy {f:Nat} {fn:FK} {args:List AV} {s:Ag} {K:AX→Ag→Prop} (hf:AP f=some (.code fn)) (hl:args.length=fn.np) (h:Run AP fn.body (params args 0) s (Nq fn K)):AQ AP f args s K:=by
 obtain⟨N,e,env,s',h1,h2⟩:=h
 cases e with
 |normal=>
  obtain⟨vs,h3,h4⟩:=h2
  exact⟨N+1,_,_,by simp only[run,hf,if_pos hl,evF,h1,h3,Option.map_some],h4⟩
 |ret=>
  obtain⟨vs,h3,h4⟩:=h2
  exact⟨N+1,_,_,by simp only[run,hf,if_pos hl,evF,h1,h3,Option.map_some],h4⟩
 |D9 v=>exact⟨N+1,_,_,by simp only[run,hf,if_pos hl,evF,h1],h2⟩
 |exit id=>cases h2
end AI
end Go.Proofs.YthjeehjphekjmaaGreatDoor
namespace Go.Proofs.YthjeehjphekjmaaGreatDoor
namespace AI
open Go.RowKit
variable {AP:Nat→Option Gv}
def Aau (live:List Nat) (I:Env→Ag→Prop) (Q:Ak→Env→Ag→Prop) (e:Ak) (env:Env) (s:Ag):Prop:=match e with
 | .normal=>Jd live env fun env=>I env s
 |e=>Q e env s
structure again (I:Nat→Env→Ag→Prop) (m:Nat) (env:Env) (s:Ag):Prop where
 mk::(h:∃m',m'<m∧I m' env s)
theorem Ae {live:List Nat} {a:Am} {Q:Ak→Env→Ag→Prop} (I:Nat→Env→Ag→Prop)
 (hI:∀m env s,I m env s→commit env live=env∧vC AP a env s (Aau live (again I m) Q)):
 ∀m env s,I m env s→Run AP (.loop live a) env s Q:=by
 intro m
 induction m using Nat.strongRecOn with
 |ind m ih=>
  intro env s h
  obtain⟨hc,h1⟩:=hI m env s h
  obtain⟨N,e,Ce,s1,h2,h3⟩:=Hl h1
  have hr:Run AP a env s (Vu AP live a Q):=by
   refine⟨N,e,Ce,s1,h2,?_⟩
   cases e with
   |normal=>
    simp only[Aau,Vu,DF]at h3 ⊢
    obtain⟨m',hm,h4⟩:=h3
    exact ih m' hm _ _ h4
   |exit id=>exact h3
   |ret=>exact h3
   |D9 v=>exact h3
  obtain⟨N,e,Ce,s1,h1,h2⟩:=hr
  cases e with
  |normal=>
   obtain⟨N',e',ET,s2,h3,h4⟩:=JK ((DF _ _ _).1 h2)
   refine⟨max N N'+1,e',ET,s2,?_,h4⟩
   have h1':=CV (Bj (AP:=AP) (show N≤max N N'+1 by omega)) (show N≤max N N'+1 by omega) h1
   simp only[Et]at h3 ⊢
   rw[iter.eq_2]
   rw[hc,h1']
   exact Kt (fun env s r hr=>CV (Bj (by omega)) (by omega) hr) (by omega) h3
  |exit id=>exact⟨N+1,_,_,_,by simp only[Et,iter.eq_2,hc,CV (Bj (AP:=AP) (Nat.le_succ N)) (Nat.le_succ N) h1],h2⟩
  |ret=>exact⟨N+1,_,_,_,by simp only[Et,iter.eq_2,hc,CV (Bj (AP:=AP) (Nat.le_succ N)) (Nat.le_succ N) h1],h2⟩
  |D9 v=>exact⟨N+1,_,_,_,by simp only[Et,iter.eq_2,hc,CV (Bj (AP:=AP) (Nat.le_succ N)) (Nat.le_succ N) h1],h2⟩
structure Au (AP:Nat→Option Gv) (f:Nat) (args:List AV) (R:AV→Prop):Prop where
 mk::(h:∃v,Pure AP f args v∧R v)
def AcM (R:AV→Prop) (out:AX) (s:Ag):Prop:=match out with
 | .ok r=>WX s.σ Iy r R
 | .D9 _=>False
theorem Af {f:Nat} {fn:FK} {args:List AV} {R:AV→Prop} (hf:AP f=some (.code fn)) (hl:args.length=fn.np) (h:vC AP fn.body (params args 0) ⟨[],0⟩ (Nq fn (AcM R))):Au AP f args R:=by
 obtain⟨N,out,s',h1,h2⟩:=Uy hf hl (Hl h)
 cases out with
 |ok r=>
  have h2:WX s'.σ Iy r R:=h2
  obtain⟨v,h3,h4⟩:=Um h2
  exact⟨v,⟨N,by simp only[Dv,h1];exact h3⟩,h4⟩
 |D9 r=>cases h2
theorem Aa {f:Nat} {args:List AV} {R:AV→Prop} {K:AV→Prop} (h:Au AP f args R) (h2:∀v,R v→K v):Uk AP f args K:=by
 obtain⟨v,h3,h4⟩:=h
 exact⟨v,h3,h2 v h4⟩
theorem EJ {f:Nat} {args:List AV} {p:Prop} [Decidable p] {K:AV→Prop} (h:Au AP f args (· =.bool (decide p))) (h1:p→K (.bool true)) (h2:¬p→K (.bool false)):Uk AP f args K:=by
 refine Aa h ?_
 rintro _ rfl
 by_cases hp:p
 ·rw[decide_eq_true hp];exact h1 hp
 ·rw[decide_eq_false hp];exact h2 hp
theorem AQ.mono {f:Nat} {args:List AV} {s:Ag} {K K':AX→Ag→Prop} (h:AQ AP f args s K) (hk:∀out s,K out s→K' out s):AQ AP f args s K':=by
 obtain⟨N,out,s',h1,h2⟩:=h
 exact⟨N,out,s',h1,hk _ _ h2⟩
theorem Dk {p:Prop} [Decidable p] (h:p):AV.bool true=AV.bool (decide p):=by rw[decide_eq_true h]
theorem BU {p:Prop} [Decidable p] (h:¬p):AV.bool false=AV.bool (decide p):=by rw[decide_eq_false h]
theorem Au.mono {f:Nat} {args:List AV} {R R':AV→Prop} (h:Au AP f args R) (h2:∀v,R v→R' v):Au AP f args R':=by
 obtain⟨v,h3,h4⟩:=h
 exact⟨v,h3,h2 v h4⟩
theorem Ar {f:Nat} {fn:FK} {args:List AV} {s:Ag} {K:AX→Ag→Prop} (hf:AP f=some (.code fn)) (hl:args.length=fn.np) (h:vC AP fn.body (params args 0) s (Nq fn K)):AQ AP f args s K:=
 Uy hf hl (Hl h)
end AI
end Go.Proofs.YthjeehjphekjmaaGreatDoor
namespace Go.Proofs.YthjeehjphekjmaaGreatDoor
namespace AI
def ints (l:List Int):List AV:=l.map (.int .i64)
@[simp] theorem lI (l:List Int):(ints l).length=l.length:=by simp[ints]
theorem Y0 {l:List Int} {i:Nat} {x:Int} (h:l[i]?=some x):nth (ints l) i=some (.int .i64 x):=by simp[ints,AZ,h]
theorem nI {l:List Int} {i:Nat} (h:i<l.length):nth (ints l) i=some (.int .i64 l[i]):=Y0 (List.getElem?_eq_getElem h)
theorem wrap_i64 {z:Int} (h:-2^63≤z) (h2:z<2^63):IntKind.i64.wrap z=z:=by
 rw[IntKind.wrap_i64];omega
theorem nIN {l:List Int} {i:Nat} (h:i<l.length):nth (ints l) (Int.toNat (Nat.cast i))=some (.int .i64 l[i]):=nI h
theorem LX {b n:Nat} (h:n*b≤2 ^ 46):roomy b n:=Nat.le_trans h (by decide)
def iss (E:List (Bool×List Int)):List AV:=E.map fun p=>.sl p.1 (ints p.2)
@[simp] theorem lS (E:List (Bool×List Int)):(iss E).length=E.length:=by simp[iss]
theorem nS {E:List (Bool×List Int)} {i:Nat} (h:i<E.length):nth (iss E) i=some (.sl E[i].1 (ints E[i].2)):=by simp[iss,AZ,h]
theorem nSN {E:List (Bool×List Int)} {i:Nat} (h:i<E.length):nth (iss E) (Int.toNat (Nat.cast i))=some (.sl E[i].1 (ints E[i].2)):=nS h
theorem Ik {α:Type} {l:List α} {i:Nat} (h:¬(i:Int)<(l.length:Int)):l.take i=l:=List.take_of_length_le (by omega)
theorem FZ {α:Type} {p:α→Prop} {l:List α} {i:Nat} (h:i<l.length) (h1:∀x∈l.take i,p x) (h2:p l[i]):∀x∈l.take (i+1),p x:=by
 intro x hx
 rw[List.take_succ_eq_append_getElem h,List.mem_append,List.mem_singleton]at hx
 rcases hx with hx|rfl
 ·exact h1 x hx
 ·exact h2
theorem tIN {l:List Int} {i:Nat} {x y:Int}:(ints l).set (Int.toNat (Nat.cast i)) (BI (.int .i64 x) 0 (.int .i64 y))=ints (l.set i y):=by
 simp[ints,BI,AV.cells,List.map_set]
theorem tI {l:List Int} {i:Nat} {x y:Int}:(ints l).set i (BI (.int .i64 x) 0 (.int .i64 y))=ints (l.set i y):=tIN
theorem uI {l:List Int}:sub (ints l) 0 l.length=ints l:=by
 unfold sub;rw[List.drop_zero,List.take_of_length_le (by simp)]
theorem uS {l:List (Bool×List Int)}:sub (iss l) 0 l.length=iss l:=by
 unfold sub;rw[List.drop_zero,List.take_of_length_le (by simp)]
theorem uIS {l:List Int} {x:Int}:sub (ints (l++[x])) 0 (l.length+1)=ints (l++[x]):=by
 have:=uI (l:=l++[x]);rwa [List.length_append]at this
theorem uSS {l:List (Bool×List Int)} {x:Bool×List Int}:sub (iss (l++[x])) 0 (l.length+1)=iss (l++[x]):=by
 have:=uS (l:=l++[x]);rwa [List.length_append]at this
theorem rIN (n:Nat) (z:Int):List.replicate (Int.toNat (Nat.cast n)) (AV.int .i64 z)=ints (List.replicate n z):=by simp[ints]
theorem rI (n:Nat) (z:Int):List.replicate n (AV.int .i64 z)=ints (List.replicate n z):=by simp[ints]
theorem nY {l:List UInt8} {i:Nat} (h:i<l.length):nth l i=some l[i]:=by simp[AZ,h]
theorem nYN {l:List UInt8} {i:Nat} (h:i<l.length):nth l (Int.toNat (Nat.cast i))=some l[i]:=nY h
def bools (l:List Bool):List AV:=l.map .bool
@[simp] theorem lB (l:List Bool):(bools l).length=l.length:=by simp[bools]
theorem nB {l:List Bool} {i:Nat} (h:i<l.length):nth (bools l) i=some (.bool l[i]):=by simp[bools,AZ,h]
theorem nBN {l:List Bool} {i:Nat} (h:i<l.length):nth (bools l) (Int.toNat (Nat.cast i))=some (.bool l[i]):=nB h
theorem tBN {l:List Bool} {i:Nat} {x y:Bool}:(bools l).set (Int.toNat (Nat.cast i)) (BI (.bool x) 0 (.bool y))=bools (l.set i y):=by
 simp[bools,BI,AV.cells,List.map_set]
theorem tB {l:List Bool} {i:Nat} {x y:Bool}:(bools l).set i (BI (.bool x) 0 (.bool y))=bools (l.set i y):=tBN
theorem uB {l:List Bool}:sub (bools l) 0 l.length=bools l:=by
 unfold sub;rw[List.drop_zero,List.take_of_length_le (by simp)]
theorem rBN (n:Nat) (z:Bool):List.replicate (Int.toNat (Nat.cast n)) (AV.bool z)=bools (List.replicate n z):=by simp[bools]
section
variable {α β:Type} [DecidableEq α] {fk:α→AV} {fv:β→AV} {t:J7}
def L6 (fk:α→AV) (fv:β→AV) (M:List (α×β)):List (AV×AV):=M.map fun p=>(fk p.1,fv p.2)
def JL:List (α×β)→α→Option β
 |[],_=>none
 |(k',v)::M,k=>if k=k' then some v else JL M k
def PE:List (α×β)→α→β→List (α×β)
 |[],k,v=>[(k,v)]
 |(k',v')::M,k,v=>if k=k' then(k,v)::M else(k',v')::PE M k v
theorem Je (hk:∀a b,CW t (fk a) (fk b)=some (decide (a=b))) (k:α):∀(M:List (α×β)) (i:Nat),
 (JL M k=none∧findKey t (fk k) (L6 fk fv M) i=some none∧PE M k=fun v=>M++[(k,v)])∨
 ∃j v,JL M k=some v∧findKey t (fk k) (L6 fk fv M) i=some (some (i+j,fv v))∧PE M k=fun v=>M.set j (k,v)
 |[],i=>.inl ⟨rfl,rfl,rfl⟩
 |(a,b)::M,i=>by
  by_cases h:k=a
  ·subst h
   refine .inr ⟨0,b,by simp[JL],?_,by funext v;simp[PE]⟩
   simp only[L6,List.map_cons,findKey,hk,decide_true,Nat.add_zero]
  ·rcases Je hk k M (i+1)with⟨h1,h2,h3⟩|⟨j,v,h1,h2,h3⟩
   ·refine .inl ⟨by simp[JL,h,h1],?_,by funext v;simp[PE,h,h3]⟩
    simp only[L6,List.map_cons,findKey,hk,decide_eq_false h]at h2 ⊢
    exact h2
   ·refine .inr ⟨j+1,v,by simp[JL,h,h1],?_,by funext v;simp[PE,h,h3]⟩
    simp only[L6,List.map_cons,findKey,hk,decide_eq_false h]at h2 ⊢
    rw[h2];congr 3;omega
theorem Vw (hk:∀a b,CW t (fk a) (fk b)=some (decide (a=b))) {M:List (α×β)} {k:α} {K:Option (Nat×AV)→Prop}
 (h1:JL M k=none→K none) (h2:∀i v,JL M k=some v→K (some (i,fv v))):Ur t (fk k) (L6 fk fv M) K:=by
 rcases Je (fv:=fv) hk k M 0 with⟨g1,g2,_⟩|⟨j,v,g1,g2,_⟩
 ·exact⟨_,g2,h1 g1⟩
 ·exact⟨_,g2,h2 _ _ g1⟩
theorem Vx (hk:∀a b,CW t (fk a) (fk b)=some (decide (a=b))) {M:List (α×β)} {k:α} {v:β} {K:List (AV×AV)→Prop}
 (h:K (L6 fk fv (PE M k v))):YP t (fk k) (fv v) (L6 fk fv M) K:=by
 rcases Je (fv:=fv) hk k M 0 with⟨g1,g2,g3⟩|⟨j,w,g1,g2,g3⟩
 ·refine⟨_,g2,?_⟩
  rw[g3]at h
  simpa[YO,L6]using h
 ·refine⟨_,g2,?_⟩
  rw[g3]at h
  simpa[YO,L6,List.map_set]using h
end
theorem PG (a b:Int):CW .int (.int .i64 a) (.int .i64 b)=some (decide (a=b)):=by
 simp only[CW,if_true];rfl
abbrev Fz (M:List (Int×Int)):List (AV×AV):=L6 (.int .i64) (.int .i64) M
theorem fkI {M:List (Int×Int)} {k:Int} {K:Option (Nat×AV)→Prop}
 (h1:JL M k=none→K none) (h2:∀i v,JL M k=some v→K (some (i,.int .i64 v))):Ur .int (.int .i64 k) (Fz M) K:=Vw PG h1 h2
theorem msI {M:List (Int×Int)} {k v:Int} {K:List (AV×AV)→Prop} (h:K (Fz (PE M k v))):YP .int (.int .i64 k) (.int .i64 v) (Fz M) K:=Vx PG h
end AI
end Go.Proofs.YthjeehjphekjmaaGreatDoor
