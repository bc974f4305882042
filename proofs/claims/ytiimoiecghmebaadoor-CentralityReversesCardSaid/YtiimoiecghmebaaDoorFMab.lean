/- Lists of things of any type, each read as a value. Steps of the symbolic walk whose side conditions are tried by themselves. -/
import Derived.Test.YtiimoiecghmebaaDoorFVa
set_option linter.unusedVariables false
namespace Go.Proofs.YtiimoiecghmebaaDoor
namespace AI
section
variable {α:Type} {f:α→AV}
def vs (f:α→AV) (l:List α):List AV:=l.map f
@[simp] theorem lV (l:List α):(vs f l).length=l.length:=by simp[vs]
theorem nV {l:List α} {i:Nat} (h:i<l.length):nth (vs f l) i=some (f l[i]):=by simp[vs,Aj,h]
theorem nVN {l:List α} {i:Nat} (h:i<l.length):nth (vs f l) (Int.toNat (Nat.cast i))=some (f l[i]):=nV h
theorem nVz {l:List α} {z:Int} (i:Nat) (hz:z=i) (h:i<l.length):nth (vs f l) (Int.toNat z)=some (f l[i]):=by subst hz;exact nV h
theorem uV {l:List α}:sub (vs f l) 0 l.length=vs f l:=by unfold sub;exact List.take_of_length_le (by simp)
theorem uVS {l:List α} {x:α}:sub (vs f (l++[x])) 0 (l.length+1)=vs f (l++[x]):=by unfold sub;exact List.take_of_length_le (by simp)
theorem Zn {l:List α} {x:α}:(vs f l).take l.length++[f x]=vs f (l++[x]):=by simp[vs,List.take_of_length_le]
theorem nY0 {l:List UInt8} (h:0<l.length):nth l (Int.toNat 0)=some l[0]:=nY h
theorem Us {n:Nat} {K:AV→Prop} (h:n<2^63) (hk:K (.int .i64 ((n / 50:Nat):Int))):IU .i64 ((n:Int).tdiv 50) K:=by
 have e:(n:Int).tdiv 50=((n / 50:Nat):Int):=by
  rw[Int.tdiv_eq_ediv_of_nonneg (by omega)];rfl
 rw[e]
 exact CP (wrap_i64 (by omega) (by omega)) hk
theorem nR {l:List AV} {i:Nat} (h:i<l.length):nth l i=some l[i]:=by simp[Aj,h]
theorem nms {α:Type} {l:List α} {x:α} {i:Nat} (h:i<l.length) (hx:x∉l.take i) (hc:¬l[i]=x):x∉l.take (i+1):=by
 rw[List.take_succ_eq_append_getElem h,List.mem_append,List.mem_singleton]
 rintro(h1|h1)
 ·exact hx h1
 ·exact hc h1.symm
theorem Aw.det {AP:Nat→Option Hf} {f:Nat} {args:List AV} {R:AV→Prop} (h:Aw AP f args R):∃v,R v∧Aw AP f args (· =v):=by
 obtain⟨v,h1,h2⟩:=h
 exact⟨v,h2,v,h1,rfl⟩
theorem AhW {z:Int} {K:AV→Prop} (n:Nat) (hz:z=n) (h:n<2^63) (hk:K (.int .u64 n)):IU .u64 z K:=by
 subst hz
 refine CP ?_ hk
 simp[IntKind.wrap,IntKind.bits,IntKind.signed]
 omega
theorem Aj8 (n:Nat):((n:Int)).fdiv (2 ^ (min (Int.toNat 1) IntKind.u64.bits))=((n / 2:Nat):Int):=by
 rw[show (2:Int) ^ (min (Int.toNat 1) IntKind.u64.bits)=2 by rfl,Int.fdiv_eq_ediv_of_nonneg _ (by omega)]
 rfl
end
structure Sn (p:Prop):Prop where
 h:p
structure Sw (p:Prop):Prop where
 h:p
structure Sx (p:Prop):Prop where
 h:p
structure Sg (p:Prop):Prop where
 h:p
structure Sq (p:Prop):Prop where
 h:p
theorem kN {p t:Prop} (h:Sn p) (k:t):need p t:=⟨h.1,k⟩
theorem kW {z:Int} {K:AV→Prop} (h:Sw (-2^63≤z∧z<2^63)) (k:K (.int .i64 z)):IU .i64 z K:=CP (wrap_i64 h.1.1 h.1.2) k
theorem kX {α:Type} {xs:List α} {i:Nat} {x:α} {K:α→Prop} (h:Sx (nth xs i=some x)) (k:K x):Qx xs i K:=⟨x,h.1,k⟩
theorem kG {α:Type} {o:Option α} {K:α→Prop} {x:α} (h:Sg (o=some x)) (k:K x):KA o K:=⟨x,h.1,k⟩
theorem kQ {α:Type} {a b:α} {K:α→Prop} (h:Sq (a=b)) (k:K b):eqK a K:=⟨b,h.1,k⟩
theorem sd {P:Prop} (h:P:=by first|((with_reducible apply Sn.mk);first|with_reducible rfl|omega|rfl|decide|trivial|exact⟨rfl,rfl,by omega,by omega⟩|exact⟨by omega,by omega,Kz (by omega)⟩|(refine ⟨rfl,rfl,?_⟩;first|((first|rw[lI]|rw[lS]|rw[lB]|rw[lV]);omega)|(simp;done)|(simp;omega))|(refine ⟨rfl,?_⟩;first|((first|rw[lI]|rw[lS]|rw[lB]|rw[lV]);omega)|(simp;done)|(simp;omega))|exact⟨by (try rw[lV]);omega,by(try rw[lV]);omega⟩)|((with_reducible apply Sw.mk);exact⟨by omega,by omega⟩)|((with_reducible apply Sx.mk);first|((with_reducible first|refine nIN ?_|refine nI ?_|refine nSN ?_|refine nS ?_|refine nBN ?_|refine nB ?_|refine nYN ?_|refine nY ?_|refine nY0 ?_|refine nVN ?_|refine nV ?_);first|omega|(simp;omega))|rfl)|((with_reducible apply Sg.mk);rfl)|((with_reducible apply Sq.mk);first|(with_reducible first|exact lI _|exact lS _|exact lB _|exact uI|exact uS|exact uIS|exact uSS|exact rIN _ _|exact rI _ _|exact tIN|exact tI|exact tBN|exact tB|exact uB|exact rBN _ _|exact lV _|exact uV|exact uVS)|rfl)):P:=h
inductive Kl (p:Prop):Prop→Prop
 |no (h:p→False):Kl p False
 |yes:Kl p p
structure Br (p q A B:Prop):Prop where
 mk::(l:p→A) (r:q→B)
inductive Stp:Prop→Prop→Prop
 |n {p t:Prop} (h:Sn p):Stp (need p t) t
 |w {z:Int} {K:AV→Prop} (h:Sw (-2^63≤z∧z<2^63)):Stp (IU .i64 z K) (K (.int .i64 z))
 |x {α:Type} {xs:List α} {i:Nat} {x:α} {K:α→Prop} (h:Sx (nth xs i=some x)):Stp (Qx xs i K) (K x)
 |g {α:Type} {o:Option α} {x:α} {K:α→Prop} (h:Sg (o=some x)):Stp (KA o K) (K x)
 |q {α:Type} {a b:α} {K:α→Prop} (h:Sq (a=b)):Stp (eqK a K) (K b)
 |p {p p' q' A B:Prop} (h:Kl p p') (k:Kl (¬p) q'):Stp (NS p A B) (Br p' q' A B)
theorem Kl.to {p q:Prop} (h:Kl p q):p→q:=fun hp=>by
 cases h with
 |no h=>exact h hp
 |yes=>exact hp
theorem Stp.go {G H:Prop} (h:Stp G H) (k:H):G:=by
 cases h with
 |n h=>exact kN h k
 |w h=>exact kW h k
 |x h=>exact kX h k
 |g h=>exact kG h k
 |q h=>exact kQ h k
 |p h h2=>exact⟨fun hp=>k.l (h.to hp),fun hp=>k.r (h2.to hp)⟩
theorem kl {p q:Prop} (h:Kl p q:=by first|exact Kl.no (by intro hc;(try rw[List.length_nil]at hc);first|omega|exact absurd rfl hc)|exact Kl.yes):Kl p q:=h
theorem kA {G H:Prop} (k:H) (h:Stp G H:=by first|((with_reducible first|apply Stp.n|apply Stp.w|apply Stp.x|apply Stp.g|apply Stp.q);exact sd)|((with_reducible apply Stp.p)<;>exact kl)):G:=h.go k
theorem kB {b:Bool} {A B:Prop} (k:Br (b=true) (b=false) A B):Kq b A B:=WO k.l k.r
end AI
end Go.Proofs.YtiimoiecghmebaaDoor
