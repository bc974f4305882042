/- Lists of things of any type, each read as a value. Steps of the symbolic walk whose side conditions are tried by themselves. More on lists of things: appending, parts. Lists in the order of a key: looking a place up, putting in, taking out. No program in sight. -/
import Derived.Test.YtceiccjppfapjaaGreatDoorBVa
set_option linter.unusedVariables false
set_option maxRecDepth 4000
namespace Go.Proofs.YtceiccjppfapjaaGreatDoor
namespace AI
section
variable {α:Type} {f:α→AV}
def vs (f:α→AV) (l:List α):List AV:=l.map f
@[simp] theorem lV (l:List α):(vs f l).length=l.length:=by simp[vs]
theorem nV {l:List α} {i:Nat} (h:i<l.length):nth (vs f l) i=some (f l[i]):=by simp[vs,Bd,h]
theorem nVN {l:List α} {i:Nat} (h:i<l.length):nth (vs f l) (Int.toNat (Nat.cast i))=some (f l[i]):=nV h
theorem nVz {l:List α} {z:Int} (i:Nat) (hz:z=i) (h:i<l.length):nth (vs f l) (Int.toNat z)=some (f l[i]):=by subst hz;exact nV h
theorem uV {l:List α}:sub (vs f l) 0 l.length=vs f l:=by unfold sub;exact List.take_of_length_le (by simp)
theorem uVS {l:List α} {x:α}:sub (vs f (l++[x])) 0 (l.length+1)=vs f (l++[x]):=by unfold sub;exact List.take_of_length_le (by simp)
theorem Adx {l:List α} {x:α}:(vs f l).take l.length++[f x]=vs f (l++[x]):=by simp[vs,List.take_of_length_le]
theorem nY0 {l:List UInt8} (h:0<l.length):nth l (Int.toNat 0)=some l[0]:=nY h
theorem V4 {n:Nat} {K:AV→Prop} (h:n<2^63) (hk:K (.int .i64 ((n / 50:Nat):Int))):JQ .i64 ((n:Int).tdiv 50) K:=by
 have e:(n:Int).tdiv 50=((n / 50:Nat):Int):=by
  rw[Int.tdiv_eq_ediv_of_nonneg (by omega)];rfl
 rw[e]
 exact BQ (wrap_i64 (by omega) (by omega)) hk
theorem nR {l:List AV} {i:Nat} (h:i<l.length):nth l i=some l[i]:=by simp[Bd,h]
theorem nRN {l:List AV} {i:Nat} (h:i<l.length):nth l (Int.toNat (Nat.cast i))=some l[i]:=nR h
theorem nms {α:Type} {l:List α} {x:α} {i:Nat} (h:i<l.length) (hx:x∉l.take i) (hc:¬l[i]=x):x∉l.take (i+1):=by
 rw[List.take_succ_eq_append_getElem h,List.mem_append,List.mem_singleton]
 rintro(h1|h1)
 ·exact hx h1
 ·exact hc h1.symm
theorem Af.J4 {AP:Nat→Option Jh} {f:Nat} {args:List AV} {R:AV→Prop} (h:Af AP f args R):∃v,R v∧Af AP f args (· =v):=by
 obtain⟨v,h1,h2⟩:=h
 exact⟨v,h2,v,h1,rfl⟩
theorem VT {AP:Nat→Option Jh} {f:Nat} {args:List AV} {s:Ap} {K:AV→Ap→Prop} (hcl:Ec args=true) (h:Au AP f args ⟨[],0⟩ fun out _=>out=.ok (.sl false []))
 (hk:K (.own s.σ.length s.ctr 0 0) (push s (.arr s.ctr 1 false true []))):∃N r s',Bv (run AP N) .own f args s=some (.ok r,s')∧K r s':=by
 obtain⟨N,out,s1,h1,rfl⟩:=h
 exact⟨N,_,_,by simp only[Bv,if_pos hcl,h1],hk⟩
theorem Amv {AP:Nat→Option Jh} {f es:Nat} {args elems:List AV} {s:Ap} {K:AV→Ap→Prop} (hcl:Ec args=true) (h:Au AP f args ⟨[],0⟩ fun out s'=>∃o g,out=.ok (.own o g 0 elems.length)∧nth s'.σ o=some (.arr g es true true elems))
 (hk:K (.own s.σ.length s.ctr 0 elems.length) (push s (.arr s.ctr es true true elems))):∃N r s',Bv (run AP N) .own f args s=some (.ok r,s')∧K r s':=by
 obtain⟨N,out,s1,h1,o,g,rfl,h2⟩:=h
 exact⟨N,_,_,by simp[Bv,hcl,h1,h2],hk⟩
theorem Zx {z:Int} {K:AV→Prop} (n:Nat) (hz:z=n) (h:n<2^63) (hk:K (.int .u64 n)):JQ .u64 z K:=by
 subst hz
 refine BQ ?_ hk
 simp[IntKind.wrap,IntKind.bits,IntKind.signed]
 omega
theorem Afu (n:Nat):((n:Int)).fdiv (2 ^ (min (Int.toNat 1) IntKind.u64.bits))=((n / 2:Nat):Int):=by
 rw[show (2:Int) ^ (min (Int.toNat 1) IntKind.u64.bits)=2 by rfl,Int.fdiv_eq_ediv_of_nonneg _ (by omega)]
 rfl
end
structure Sn (p:Prop):Prop where
 h:p
structure Sw (p:Prop):Prop where
 h:p
structure Sx (p:Prop):Prop where
 h:p
structure Sg (p:Prop):Prop where
 h:p
structure Sq (p:Prop):Prop where
 h:p
theorem kN {p t:Prop} (h:Sn p) (k:t):need p t:=⟨h.1,k⟩
theorem kW {z:Int} {K:AV→Prop} (h:Sw (-2^63≤z∧z<2^63)) (k:K (.int .i64 z)):JQ .i64 z K:=BQ (wrap_i64 h.1.1 h.1.2) k
theorem kX {α:Type} {xs:List α} {i:Nat} {x:α} {K:α→Prop} (h:Sx (nth xs i=some x)) (k:K x):Bq xs i K:=⟨x,h.1,k⟩
theorem kG {α:Type} {o:Option α} {K:α→Prop} {x:α} (h:Sg (o=some x)) (k:K x):NH o K:=⟨x,h.1,k⟩
theorem kQ {α:Type} {a b:α} {K:α→Prop} (h:Sq (a=b)) (k:K b):eqK a K:=⟨b,h.1,k⟩
theorem sd {P:Prop} (h:P:=by first|((with_reducible apply Sn.mk);first|with_reducible rfl|omega|rfl|decide|trivial|exact⟨rfl,rfl,by omega,by omega⟩|exact⟨by omega,by omega,Oe (by omega)⟩|(refine ⟨rfl,rfl,?_⟩;first|((first|rw[lI]|rw[lS]|rw[lB]|rw[lV]);omega)|(simp;done)|(simp;omega))|(refine ⟨rfl,?_⟩;first|((first|rw[lI]|rw[lS]|rw[lB]|rw[lV]);omega)|(simp;done)|(simp;omega))|exact⟨by (try rw[lV]);omega,by(try rw[lV]);omega⟩)|((with_reducible apply Sw.mk);exact⟨by omega,by omega⟩)|((with_reducible apply Sx.mk);first|((with_reducible first|refine nIN ?_|refine nI ?_|refine nSN ?_|refine nS ?_|refine nBN ?_|refine nB ?_|refine nYN ?_|refine nY ?_|refine nY0 ?_|refine nVN ?_|refine nV ?_);first|omega|(simp;omega))|rfl)|((with_reducible apply Sg.mk);rfl)|((with_reducible apply Sq.mk);first|(with_reducible first|exact lI _|exact lS _|exact lB _|exact uI|exact uS|exact uIS|exact uSS|exact rIN _ _|exact rI _ _|exact tIN|exact tI|exact tBN|exact tB|exact uB|exact rBN _ _|exact lV _|exact uV|exact uVS)|rfl)):P:=h
inductive Kl (p:Prop):Prop→Prop
 |no (h:p→False):Kl p False
 |yes:Kl p p
structure Br (p q A B:Prop):Prop where
 mk::(l:p→A) (r:q→B)
inductive Stp:Prop→Prop→Prop
 |n {p t:Prop} (h:Sn p):Stp (need p t) t
 |w {z:Int} {K:AV→Prop} (h:Sw (-2^63≤z∧z<2^63)):Stp (JQ .i64 z K) (K (.int .i64 z))
 |x {α:Type} {xs:List α} {i:Nat} {x:α} {K:α→Prop} (h:Sx (nth xs i=some x)):Stp (Bq xs i K) (K x)
 |g {α:Type} {o:Option α} {x:α} {K:α→Prop} (h:Sg (o=some x)):Stp (NH o K) (K x)
 |q {α:Type} {a b:α} {K:α→Prop} (h:Sq (a=b)):Stp (eqK a K) (K b)
 |p {p p' q' A B:Prop} (h:Kl p p') (k:Kl (¬p) q'):Stp (Pm p A B) (Br p' q' A B)
theorem Kl.to {p q:Prop} (h:Kl p q):p→q:=fun hp=>by
 cases h with
 |no h=>exact h hp
 |yes=>exact hp
theorem Stp.go {G H:Prop} (h:Stp G H) (k:H):G:=by
 cases h with
 |n h=>exact kN h k
 |w h=>exact kW h k
 |x h=>exact kX h k
 |g h=>exact kG h k
 |q h=>exact kQ h k
 |p h h2=>exact⟨fun hp=>k.l (h.to hp),fun hp=>k.r (h2.to hp)⟩
theorem kl {p q:Prop} (h:Kl p q:=by first|exact Kl.no (by intro hc;(try rw[List.length_nil]at hc);first|omega|exact absurd rfl hc)|exact Kl.yes):Kl p q:=h
theorem kA {G H:Prop} (k:H) (h:Stp G H:=by first|((with_reducible first|apply Stp.n|apply Stp.w|apply Stp.x|apply Stp.g|apply Stp.q);exact sd)|((with_reducible apply Stp.p)<;>exact kl)):G:=h.go k
theorem kB {b:Bool} {A B:Prop} (k:Br (b=true) (b=false) A B):NC b A B:=TL k.l k.r
section
variable {α:Type} {f:α→AV}
theorem Dh {es:Nat} (hf:∀x,(f x).cells.length=es) (l:List α):BI es (vs f l):=by
 intro y hy
 simp only[vs,List.mem_map]at hy
 obtain⟨z,_,rfl⟩:=hy
 exact hf z
theorem Ji (l:List α) (a n:Nat):sub (vs f l) a n=vs f ((l.drop a).take n):=by simp[sub,vs,List.map_drop,List.map_take]
theorem Dc {es g len:Nat} {nn cl:Bool} {l:List α} {x:α} {bytes:Nat} {K:Nat→Bool→Bool→List AV→Prop} (hf:∀x,(f x).cells.length=es) (hl:len=l.length) (hr:(l.length+1)*bytes≤2 ^ 46) (h:K (l.length+1) true cl (vs f (l++[x]))):
 KD g g es es len nn cl true (vs f l) [f x] bytes K:=by
 subst hl
 refine⟨⟨rfl,rfl,by simp,by intro y hy;simp at hy;subst hy;exact hf x,Oe hr⟩,?_⟩
 have e1:(nn||!([f x]:List AV).isEmpty)=true:=by simp
 have e2:(cl&&true)=cl:=by simp
 rw[e1,e2,Adx]
 exact h
theorem Ae2 {es g len:Nat} {nn cl:Bool} {l l':List α} {ys:List AV} {bytes:Nat} {K:Nat→Bool→Bool→List AV→Prop} (he:ys=vs f l') (hf:∀x,(f x).cells.length=es) (hl:len=l.length) (hr:(l.length+l'.length)*bytes≤2 ^ 46) (h:∀b,K (l.length+l'.length) b cl (vs f (l++l'))):
 KD g g es es len nn cl true (vs f l) ys bytes K:=by
 subst hl he
 refine⟨⟨rfl,rfl,by simp,Dh hf l',by rw[lV];exact Oe hr⟩,?_⟩
 rw[lV,Bool.and_true,List.take_of_length_le (by simp)]
 have:=h (nn||!(vs f l').isEmpty)
 simpa[vs]using this
theorem AsQ {es g len:Nat} {cl:Bool} {l l':List α} {ys:List AV} {bytes:Nat} {K:Nat→Bool→Bool→List AV→Prop} (he:ys=vs f l') (hf:∀x,(f x).cells.length=es) (hl:len=l.length) (hr:(l.length+l'.length)*bytes≤2 ^ 46) (h:K (l.length+l'.length) true cl (vs f (l++l'))):
 KD g g es es len true cl true (vs f l) ys bytes K:=by
 subst hl he
 refine⟨⟨rfl,rfl,by simp,Dh hf l',by rw[lV];exact Oe hr⟩,?_⟩
 rw[lV,Bool.and_true,List.take_of_length_le (by simp),Bool.true_or]
 simpa[vs]using h
theorem tV {es:Nat} (hf:∀x,(f x).cells.length=es) {l:List α} {z:Int} {x y:α} {K:List AV→Prop} (i:Nat) (k:K (vs f (l.set i x))) (hz:z=i:=by omega):eqK ((vs f l).set (Int.toNat z) (BN (f y) 0 (f x))) K:=by
 subst hz
 refine BG ?_ k
 have e:BN (f y) 0 (f x)=f x:=by unfold BN;rw[if_pos ⟨rfl,by rw[hf,hf]⟩]
 rw[e]
 show(vs f l).set i (f x)=_
 simp[vs,List.map_set]
end
structure NT {κ:Type} (lt:κ→κ→Bool):Prop where
 NG:∀x,lt x x=false
 tr:∀x y z,lt x y=true→lt y z=true→lt x z=true
 tot:∀x y,lt x y=false→lt y x=false→x=y
def BP (a b:Int):Bool:=decide (a<b)
theorem Ak:NT BP where
 NG:=fun x=>by simp[BP]
 tr:=fun x y z h1 h2=>by simp[BP]at *;omega
 tot:=fun x y h1 h2=>by simp[BP]at *;omega
section
variable {α κ:Type} {lt:κ→κ→Bool} {key:α→κ}
def Inc (lt:κ→κ→Bool) (key:α→κ) (l:List α):Prop:=l.Pairwise fun a b=>lt (key a) (key b)=true
def below (lt:κ→κ→Bool) (key:α→κ) (k:κ) (l:List α):List α:=l.filter fun a=>lt (key a) k
def above (lt:κ→κ→Bool) (key:α→κ) (k:κ) (l:List α):List α:=l.filter fun a=>lt k (key a)
def AL (lt:κ→κ→Bool) (key:α→κ) (x:α) (l:List α):List α:=below lt key (key x) l++[x]++above lt key (key x) l
def BR (lt:κ→κ→Bool) (key:α→κ) (k:κ) (l:List α):List α:=below lt key k l++above lt key k l
structure AtK (lt:κ→κ→Bool) (key:α→κ) (k:κ) (l:List α) (i:Nat):Prop where
 le:i≤l.length
 lo:∀j (h:j<l.length),j<i→lt (key l[j]) k=true
 hi:∀j (h:j<l.length),i≤j→lt (key l[j]) k=false
theorem filter_all {p:α→Bool}:∀{l:List α},(∀ x∈l,p x=true)→l.filter p=l
 |[],_=>rfl
 |x::l,h=>by rw[List.filter_cons_of_pos (h x (by simp)),filter_all fun y hy=>h y (by simp[hy])]
theorem filter_none {p:α→Bool}:∀{l:List α},(∀ x∈l,p x=false)→l.filter p=[]
 |[],_=>rfl
 |x::l,h=>by rw[List.filter_cons_of_neg (by rw[h x (by simp)];simp),filter_none fun y hy=>h y (by simp[hy])]
theorem AtK.take {k:κ} {l:List α} {i:Nat} (h:AtK lt key k l i):l.take i=below lt key k l:=by
 unfold below
 conv=>rhs;rw[← List.take_append_drop i l]
 rw[List.filter_append,filter_all,filter_none,List.append_nil]
 ·intro x hx
  obtain⟨j,hj⟩:=List.mem_iff_getElem?.1 hx
  rw[List.getElem?_drop]at hj
  obtain⟨hlt,rfl⟩:=List.getElem?_eq_some_iff.1 hj
  exact h.hi _ hlt (by omega)
 ·intro x hx
  obtain⟨j,hj⟩:=List.mem_iff_getElem?.1 hx
  have hji:j<i:=by
   have:=(List.getElem?_eq_some_iff.1 hj).1
   rw[List.length_take]at this;omega
  rw[List.getElem?_take_of_lt hji]at hj
  obtain⟨hlt,rfl⟩:=List.getElem?_eq_some_iff.1 hj
  exact h.lo _ hlt hji
theorem AtK.XH (hs:NT lt) {k:κ} {l:List α} {i:Nat} (h:AtK lt key k l i) (hn:∀x∈l,key x≠k):l.drop i=above lt key k l:=by
 unfold above
 conv=>rhs;rw[← List.take_append_drop i l]
 rw[List.filter_append,filter_none,filter_all,List.nil_append]
 ·intro x hx
  have hm:=List.mem_of_mem_drop hx
  obtain⟨j,hj⟩:=List.mem_iff_getElem?.1 hx
  rw[List.getElem?_drop]at hj
  obtain⟨hlt,rfl⟩:=List.getElem?_eq_some_iff.1 hj
  have h1:=h.hi _ hlt (by omega)
  cases h2:lt k (key l[i+j])
  ·exact absurd (hs.tot _ _ h1 h2) (hn _ hm)
  ·rfl
 ·intro x hx
  obtain⟨j,hj⟩:=List.mem_iff_getElem?.1 hx
  have hji:j<i:=by
   have:=(List.getElem?_eq_some_iff.1 hj).1
   rw[List.length_take]at this;omega
  rw[List.getElem?_take_of_lt hji]at hj
  obtain⟨hlt,rfl⟩:=List.getElem?_eq_some_iff.1 hj
  have h1:=h.lo _ hlt hji
  cases h2:lt k (key l[j])
  ·rfl
  ·have:=hs.tr _ _ _ h1 h2
   rw[hs.NG]at this
   cases this
theorem Inc.get {l:List α} (h:Inc lt key l) {i j:Nat} (hij:i<j) (hj:j<l.length):lt (key l[i]) (key l[j])=true:=List.pairwise_iff_getElem.1 h i j (by omega) hj hij
theorem AtK.found (hs:NT lt) {k:κ} {l:List α} {i:Nat} (hl:Inc lt key l) (h:AtK lt key k l i) (hf:∃x∈l,key x=k):∃hi:i<l.length,key l[i]=k∧l.drop (i+1)=above lt key k l:=by
 obtain⟨x,hx,hk⟩:=hf
 obtain⟨j,hj,rfl⟩:=List.getElem_of_mem hx
 have hij:i≤j:=by
  rcases Nat.lt_or_ge j i with h1|h1
  ·have:=h.lo j hj h1
   rw[hk,hs.NG]at this
   cases this
  ·exact h1
 have hik:i<l.length:=by omega
 have hki:key l[i]=k:=by
  rcases Nat.lt_or_ge i j with h1|h1
  ·have h2:=hl.get h1 hj
   rw[hk,h.hi i hik (Nat.le_refl _)]at h2
   cases h2
  ·obtain rfl:i=j:=by omega
   exact hk
 refine⟨hik,hki,?_⟩
 unfold above
 conv=>rhs;rw[← List.take_append_drop (i+1) l]
 rw[List.filter_append,filter_none,filter_all,List.nil_append]
 ·intro x hx
  obtain⟨q,hq⟩:=List.mem_iff_getElem?.1 hx
  rw[List.getElem?_drop]at hq
  obtain⟨hlt,rfl⟩:=List.getElem?_eq_some_iff.1 hq
  rw[← hki]
  exact hl.get (by omega) hlt
 ·intro x hx
  obtain⟨q,hq⟩:=List.mem_iff_getElem?.1 hx
  have hqi:q<i+1:=by
   have:=(List.getElem?_eq_some_iff.1 hq).1
   rw[List.length_take]at this;omega
  rw[List.getElem?_take_of_lt hqi]at hq
  obtain⟨hlt,rfl⟩:=List.getElem?_eq_some_iff.1 hq
  rcases Nat.lt_or_ge q i with h1|h1
  ·have h2:=h.lo _ hlt h1
   cases h3:lt k (key l[q])
   ·rfl
   ·have:=hs.tr _ _ _ h2 h3
    rw[hs.NG]at this
    cases this
  ·obtain rfl:q=i:=by omega
   rw[hki,hs.NG]
theorem AtK.ins (hs:NT lt) {x:α} {l:List α} {i:Nat} (h:AtK lt key (key x) l i) (hn:∀y∈l,key y≠key x):l.take i++[x]++l.drop i=AL lt key x l:=by
 rw[h.take,h.XH hs hn];rfl
theorem AtK.set (hs:NT lt) {x:α} {l:List α} {i:Nat} (hl:Inc lt key l) (h:AtK lt key (key x) l i) (hf:∃y∈l,key y=key x):l.set i x=AL lt key x l:=by
 obtain⟨hi,_,hd⟩:=h.found hs hl hf
 rw[List.set_eq_take_append_cons_drop,if_pos hi,h.take,hd]
 simp[AL]
theorem AtK.del (hs:NT lt) {k:κ} {l:List α} {i:Nat} (hl:Inc lt key l) (h:AtK lt key k l i) (hf:∃y∈l,key y=k):l.take i++l.drop (i+1)=BR lt key k l:=by
 obtain⟨hi,_,hd⟩:=h.found hs hl hf
 rw[h.take,hd];rfl
theorem Bf (hs:NT lt) {x y:α} {l:List α}:y∈AL lt key x l→y=x∨y∈l:=by
 intro h
 simp only[AL,below,above,List.mem_append,List.mem_filter,List.mem_singleton]at h
 rcases h with(h|h)|h
 ·exact .inr h.1
 ·exact .inl h
 ·exact .inr h.1
theorem BX {k:κ} {y:α} {l:List α}:y∈BR lt key k l→y∈l:=by
 intro h
 simp only[BR,below,above,List.mem_append,List.mem_filter]at h
 rcases h with h|h<;>exact h.1
theorem Em (hs:NT lt) {x:α} {l:List α} (hl:Inc lt key l):Inc lt key (AL lt key x l):=by
 unfold AL Inc
 refine List.pairwise_append.2 ⟨List.pairwise_append.2 ⟨hl.filter _,List.pairwise_singleton _ _,?_⟩,hl.filter _,?_⟩
 ·intro a ha b hb
  simp only[below,List.mem_filter,List.mem_singleton]at ha hb
  subst hb
  exact ha.2
 ·intro a ha b hb
  simp only[above,List.mem_filter]at hb
  rcases List.mem_append.1 ha with ha|ha
  ·simp only[below,List.mem_filter]at ha
   exact hs.tr _ _ _ ha.2 hb.2
  ·simp only[List.mem_singleton]at ha
   subst ha
   exact hb.2
theorem Ei (hs:NT lt) {k:κ} {l:List α} (hl:Inc lt key l):Inc lt key (BR lt key k l):=by
 unfold BR Inc
 refine List.pairwise_append.2 ⟨hl.filter _,hl.filter _,?_⟩
 intro a ha b hb
 simp only[below,above,List.mem_filter]at ha hb
 exact hs.tr _ _ _ ha.2 hb.2
theorem NR (hs:NT lt) [DecidableEq κ] {k:κ} {l:List α} (hl:Inc lt key l):BR lt key k l=l.filter fun a=>decide (key a≠k):=by
 induction l with
 |nil=>rfl
 |cons a l ih=>
  have hl':=List.pairwise_cons.1 hl
  have ih:=ih hl'.2
  by_cases hk:key a=k
  ·subst hk
   have h1:below lt key (key a) (a::l)=[]:=filter_none fun x hx=>by
        rcases List.mem_cons.1 hx with rfl|hx
        ·exact hs.NG _
        ·cases h3:lt (key x) (key a)
         ·rfl
         ·have:=hs.tr _ _ _ (hl'.1 x hx) h3
          rw[hs.NG]at this;cases this
   have h2:above lt key (key a) (a::l)=l:=by
        unfold above
        rw[List.filter_cons_of_neg (by simp[hs.NG]),filter_all hl'.1]
   rw[BR,h1,h2,List.nil_append,List.filter_cons_of_neg (by simp),filter_all]
   intro x hx
   have:=hl'.1 x hx
   simp only[ne_eq,decide_not,Bool.not_eq_true',decide_eq_false_iff_not]
   rintro e
   rw[e,hs.NG]at this
   cases this
  ·rw[List.filter_cons_of_pos (by simpa using hk),←ih]
   cases h1:lt (key a) k
   ·have h2:lt k (key a)=true:=by
      cases h2:lt k (key a)
      ·exact absurd (hs.tot _ _ h1 h2) hk
      ·rfl
    have hb:below lt key k l=[]:=filter_none fun x hx=>by
      cases h3:lt (key x) k
      ·rfl
      ·have:=hs.tr _ _ _ (hs.tr _ _ _ h2 (hl'.1 x hx)) h3
       rw[hs.NG]at this;cases this
    unfold BR
    have hb':below lt key k (a::l)=[]:=by
      unfold below at hb ⊢
      rw[List.filter_cons_of_neg (by simp[h1]),hb]
    rw[hb,hb',List.nil_append,List.nil_append]
    simp only[above,List.filter_cons,h2,if_true]
   ·have h2:lt k (key a)=false:=by
      cases h2:lt k (key a)
      ·rfl
      ·have:=hs.tr _ _ _ h1 h2
       rw[hs.NG]at this;cases this
    simp[BR,below,above,h1,h2]
end
end AI
end Go.Proofs.YtceiccjppfapjaaGreatDoor
