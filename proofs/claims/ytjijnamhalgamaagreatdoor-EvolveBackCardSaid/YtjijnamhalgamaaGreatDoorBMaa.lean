/- Lists of things of any type, each read as a value. Steps of the symbolic walk whose side conditions are tried by themselves. More on lists of things: appending, parts. Lists in the order of a key: looking a place up, putting in, taking out. No program in sight. -/
import Derived.Test.YtjijnamhalgamaaGreatDoorBVa
set_option linter.unusedVariables false
set_option maxRecDepth 4000
namespace Go.Proofs.YtjijnamhalgamaaGreatDoor
namespace AI
section
variable {α:Type} {f:α→AV}
def vs (f:α→AV) (l:List α):List AV:=l.map f
@[simp] theorem lV (l:List α):(vs f l).length=l.length:=by simp[vs]
theorem nV {l:List α} {i:Nat} (h:i<l.length):nth (vs f l) i=some (f l[i]):=by simp[vs,AU,h]
theorem nVN {l:List α} {i:Nat} (h:i<l.length):nth (vs f l) (Int.toNat (Nat.cast i))=some (f l[i]):=nV h
theorem nVz {l:List α} {z:Int} (i:Nat) (hz:z=i) (h:i<l.length):nth (vs f l) (Int.toNat z)=some (f l[i]):=by subst hz;exact nV h
theorem uV {l:List α}:sub (vs f l) 0 l.length=vs f l:=by unfold sub;exact List.take_of_length_le (by simp)
theorem uVS {l:List α} {x:α}:sub (vs f (l++[x])) 0 (l.length+1)=vs f (l++[x]):=by unfold sub;exact List.take_of_length_le (by simp)
theorem AaC {l:List α} {x:α}:(vs f l).take l.length++[f x]=vs f (l++[x]):=by simp[vs,List.take_of_length_le]
theorem nY0 {l:List UInt8} (h:0<l.length):nth l (Int.toNat 0)=some l[0]:=nY h
theorem VD {n:Nat} {K:AV→Prop} (h:n<2^63) (hk:K (.int .i64 ((n / 50:Nat):Int))):Jk .i64 ((n:Int).tdiv 50) K:=by
 have e:(n:Int).tdiv 50=((n / 50:Nat):Int):=by
  rw[Int.tdiv_eq_ediv_of_nonneg (by omega)];rfl
 rw[e]
 exact BI (wrap_i64 (by omega) (by omega)) hk
theorem nR {l:List AV} {i:Nat} (h:i<l.length):nth l i=some l[i]:=by simp[AU,h]
theorem nRN {l:List AV} {i:Nat} (h:i<l.length):nth l (Int.toNat (Nat.cast i))=some l[i]:=nR h
theorem nms {α:Type} {l:List α} {x:α} {i:Nat} (h:i<l.length) (hx:x∉l.take i) (hc:¬l[i]=x):x∉l.take (i+1):=by
 rw[List.take_succ_eq_append_getElem h,List.mem_append,List.mem_singleton]
 rintro(h1|h1)
 ·exact hx h1
 ·exact hc h1.symm
theorem Ae.KI {AP:Nat→Option Ir} {f:Nat} {args:List AV} {R:AV→Prop} (h:Ae AP f args R):∃v,R v∧Ae AP f args (· =v):=by
 obtain⟨v,h1,h2⟩:=h
 exact⟨v,h2,v,h1,rfl⟩
theorem FW {AP:Nat→Option Ir} {f:Nat} {args:List AV} {s:Am} {K:AV→Am→Prop} (hcl:DK args=true) (h:Ar AP f args ⟨[],0⟩ fun out _=>out=.ok (.sl false []))
 (hk:K (.own s.σ.length s.ctr 0 0) (push s (.arr s.ctr 1 false true []))):∃N r s',Ba (run AP N) .own f args s=some (.ok r,s')∧K r s':=by
 obtain⟨N,out,s1,h1,rfl⟩:=h
 exact⟨N,_,_,by simp only[Ba,if_pos hcl,h1],hk⟩
theorem RY {AP:Nat→Option Ir} {f es:Nat} {args elems:List AV} {s:Am} {K:AV→Am→Prop} (hcl:DK args=true) (h:Ar AP f args ⟨[],0⟩ fun out s'=>∃o g,out=.ok (.own o g 0 elems.length)∧nth s'.σ o=some (.arr g es true true elems))
 (hk:K (.own s.σ.length s.ctr 0 elems.length) (push s (.arr s.ctr es true true elems))):∃N r s',Ba (run AP N) .own f args s=some (.ok r,s')∧K r s':=by
 obtain⟨N,out,s1,h1,o,g,rfl,h2⟩:=h
 exact⟨N,_,_,by simp[Ba,hcl,h1,h2],hk⟩
theorem UQ {z:Int} {K:AV→Prop} (n:Nat) (hz:z=n) (h:n<2^63) (hk:K (.int .u64 n)):Jk .u64 z K:=by
 subst hz
 refine BI ?_ hk
 simp[IntKind.wrap,IntKind.bits,IntKind.signed]
 omega
theorem Abr (n:Nat):((n:Int)).fdiv (2 ^ (min (Int.toNat 1) IntKind.u64.bits))=((n / 2:Nat):Int):=by
 rw[show (2:Int) ^ (min (Int.toNat 1) IntKind.u64.bits)=2 by rfl,Int.fdiv_eq_ediv_of_nonneg _ (by omega)]
 rfl
theorem kE {AP:Nat→Option Ir} {f:Nat} {args:List AV} {v:AV} {K:AV→Prop} (h:Ae AP f args (· =v)) (k:K v):Xy AP f args K:=Aa h fun _ e=>e▸k
end
structure Sn (p:Prop):Prop where
 h:p
structure Sw (p:Prop):Prop where
 h:p
structure Sx (p:Prop):Prop where
 h:p
structure Sg (p:Prop):Prop where
 h:p
structure Sq (p:Prop):Prop where
 h:p
theorem kN {p t:Prop} (h:Sn p) (k:t):need p t:=⟨h.1,k⟩
theorem kW {z:Int} {K:AV→Prop} (h:Sw (-2^63≤z∧z<2^63)) (k:K (.int .i64 z)):Jk .i64 z K:=BI (wrap_i64 h.1.1 h.1.2) k
theorem kX {α:Type} {xs:List α} {i:Nat} {x:α} {K:α→Prop} (h:Sx (nth xs i=some x)) (k:K x):Ci xs i K:=⟨x,h.1,k⟩
theorem kG {α:Type} {o:Option α} {K:α→Prop} {x:α} (h:Sg (o=some x)) (k:K x):LK o K:=⟨x,h.1,k⟩
theorem kQ {α:Type} {a b:α} {K:α→Prop} (h:Sq (a=b)) (k:K b):eqK a K:=⟨b,h.1,k⟩
theorem sd {P:Prop} (h:P:=by first|((with_reducible apply Sn.mk);first|with_reducible rfl|omega|rfl|decide|trivial|exact⟨rfl,rfl,by omega,by omega⟩|exact⟨by omega,by omega,Jq (by omega)⟩|(refine ⟨rfl,rfl,?_⟩;first|((first|rw[lI]|rw[lS]|rw[lB]|rw[lV]);omega)|(simp;done)|(simp;omega))|(refine ⟨rfl,?_⟩;first|((first|rw[lI]|rw[lS]|rw[lB]|rw[lV]);omega)|(simp;done)|(simp;omega))|exact⟨by (try rw[lV]);omega,by(try rw[lV]);omega⟩)|((with_reducible apply Sw.mk);exact⟨by omega,by omega⟩)|((with_reducible apply Sx.mk);first|((with_reducible first|refine nIN ?_|refine nI ?_|refine nSN ?_|refine nS ?_|refine nBN ?_|refine nB ?_|refine nYN ?_|refine nY ?_|refine nY0 ?_|refine nVN ?_|refine nV ?_);first|omega|(simp;omega))|rfl)|((with_reducible apply Sg.mk);rfl)|((with_reducible apply Sq.mk);first|(with_reducible first|exact lI _|exact lS _|exact lB _|exact uI|exact uS|exact uIS|exact uSS|exact rIN _ _|exact rI _ _|exact tIN|exact tI|exact tBN|exact tB|exact uB|exact rBN _ _|exact lV _|exact uV|exact uVS)|rfl)):P:=h
inductive Kl (p:Prop):Prop→Prop
 |no (h:p→False):Kl p False
 |yes:Kl p p
structure Br (p q A B:Prop):Prop where
 mk::(l:p→A) (r:q→B)
inductive Stp:Prop→Prop→Prop
 |n {p t:Prop} (h:Sn p):Stp (need p t) t
 |w {z:Int} {K:AV→Prop} (h:Sw (-2^63≤z∧z<2^63)):Stp (Jk .i64 z K) (K (.int .i64 z))
 |x {α:Type} {xs:List α} {i:Nat} {x:α} {K:α→Prop} (h:Sx (nth xs i=some x)):Stp (Ci xs i K) (K x)
 |g {α:Type} {o:Option α} {x:α} {K:α→Prop} (h:Sg (o=some x)):Stp (LK o K) (K x)
 |q {α:Type} {a b:α} {K:α→Prop} (h:Sq (a=b)):Stp (eqK a K) (K b)
 |p {p p' q' A B:Prop} (h:Kl p p') (k:Kl (¬p) q'):Stp (NV p A B) (Br p' q' A B)
theorem Kl.to {p q:Prop} (h:Kl p q):p→q:=fun hp=>by
 cases h with
 |no h=>exact h hp
 |yes=>exact hp
theorem Stp.go {G H:Prop} (h:Stp G H) (k:H):G:=by
 cases h with
 |n h=>exact kN h k
 |w h=>exact kW h k
 |x h=>exact kX h k
 |g h=>exact kG h k
 |q h=>exact kQ h k
 |p h h2=>exact⟨fun hp=>k.l (h.to hp),fun hp=>k.r (h2.to hp)⟩
theorem kl {p q:Prop} (h:Kl p q:=by first|exact Kl.no (by intro hc;(try rw[List.length_nil]at hc);first|omega|exact absurd rfl hc)|exact Kl.yes):Kl p q:=h
theorem kA {G H:Prop} (k:H) (h:Stp G H:=by first|((with_reducible first|apply Stp.n|apply Stp.w|apply Stp.x|apply Stp.g|apply Stp.q);exact sd)|((with_reducible apply Stp.p)<;>exact kl)):G:=h.go k
theorem kB {b:Bool} {A B:Prop} (k:Br (b=true) (b=false) A B):Jz b A B:=JA k.l k.r
section
variable {α:Type} {f:α→AV}
theorem Cj {es:Nat} (hf:∀x,(f x).cells.length=es) (l:List α):Bc es (vs f l):=by
 intro y hy
 simp only[vs,List.mem_map]at hy
 obtain⟨z,_,rfl⟩:=hy
 exact hf z
theorem JU (l:List α) (a n:Nat):sub (vs f l) a n=vs f ((l.drop a).take n):=by simp[sub,vs,List.map_drop,List.map_take]
theorem AdD {es g len:Nat} {nn cl:Bool} {l:List α} {x:α} {bytes:Nat} {K:Nat→Bool→Bool→List AV→Prop} (hf:∀x,(f x).cells.length=es) (hl:len=l.length) (hr:(l.length+1)*bytes≤2 ^ 46) (h:K (l.length+1) true cl (vs f (l++[x]))):
 IW g g es es len nn cl true (vs f l) [f x] bytes K:=by
 subst hl
 refine⟨⟨rfl,rfl,by simp,by intro y hy;simp at hy;subst hy;exact hf x,Jq hr⟩,?_⟩
 have e1:(nn||!([f x]:List AV).isEmpty)=true:=by simp
 have e2:(cl&&true)=cl:=by simp
 rw[e1,e2,AaC]
 exact h
theorem AjK {es g len:Nat} {nn cl:Bool} {l l':List α} {ys:List AV} {bytes:Nat} {K:Nat→Bool→Bool→List AV→Prop} (he:ys=vs f l') (hf:∀x,(f x).cells.length=es) (hl:len=l.length) (hr:(l.length+l'.length)*bytes≤2 ^ 46) (h:∀b,K (l.length+l'.length) b cl (vs f (l++l'))):
 IW g g es es len nn cl true (vs f l) ys bytes K:=by
 subst hl he
 refine⟨⟨rfl,rfl,by simp,Cj hf l',by rw[lV];exact Jq hr⟩,?_⟩
 rw[lV,Bool.and_true,List.take_of_length_le (by simp)]
 have:=h (nn||!(vs f l').isEmpty)
 simpa[vs]using this
end
structure Tq {κ:Type} (lt:κ→κ→Bool):Prop where
 irr:∀x,lt x x=false
 tr:∀x y z,lt x y=true→lt y z=true→lt x z=true
 tot:∀x y,lt x y=false→lt y x=false→x=y
def DY (a b:Int):Bool:=decide (a<b)
theorem Aw:Tq DY where
 irr:=fun x=>by simp[DY]
 tr:=fun x y z h1 h2=>by simp[DY]at *;omega
 tot:=fun x y h1 h2=>by simp[DY]at *;omega
section
variable {α κ:Type} {lt:κ→κ→Bool} {key:α→κ}
def Inc (lt:κ→κ→Bool) (key:α→κ) (l:List α):Prop:=l.Pairwise fun a b=>lt (key a) (key b)=true
def below (lt:κ→κ→Bool) (key:α→κ) (k:κ) (l:List α):List α:=l.filter fun a=>lt (key a) k
def above (lt:κ→κ→Bool) (key:α→κ) (k:κ) (l:List α):List α:=l.filter fun a=>lt k (key a)
def BZ (lt:κ→κ→Bool) (key:α→κ) (x:α) (l:List α):List α:=below lt key (key x) l++[x]++above lt key (key x) l
def Gg (lt:κ→κ→Bool) (key:α→κ) (k:κ) (l:List α):List α:=below lt key k l++above lt key k l
structure AtK (lt:κ→κ→Bool) (key:α→κ) (k:κ) (l:List α) (i:Nat):Prop where
 le:i≤l.length
 lo:∀j (h:j<l.length),j<i→lt (key l[j]) k=true
 hi:∀j (h:j<l.length),i≤j→lt (key l[j]) k=false
theorem filter_all {p:α→Bool}:∀{l:List α},(∀ x∈l,p x=true)→l.filter p=l
 |[],_=>rfl
 |x::l,h=>by rw[List.filter_cons_of_pos (h x (by simp)),filter_all fun y hy=>h y (by simp[hy])]
theorem filter_none {p:α→Bool}:∀{l:List α},(∀ x∈l,p x=false)→l.filter p=[]
 |[],_=>rfl
 |x::l,h=>by rw[List.filter_cons_of_neg (by rw[h x (by simp)];simp),filter_none fun y hy=>h y (by simp[hy])]
theorem AtK.take {k:κ} {l:List α} {i:Nat} (h:AtK lt key k l i):l.take i=below lt key k l:=by
 unfold below
 conv=>rhs;rw[← List.take_append_drop i l]
 rw[List.filter_append,filter_all,filter_none,List.append_nil]
 ·intro x hx
  obtain⟨j,hj⟩:=List.mem_iff_getElem?.1 hx
  rw[List.getElem?_drop]at hj
  obtain⟨hlt,rfl⟩:=List.getElem?_eq_some_iff.1 hj
  exact h.hi _ hlt (by omega)
 ·intro x hx
  obtain⟨j,hj⟩:=List.mem_iff_getElem?.1 hx
  have hji:j<i:=by
   have:=(List.getElem?_eq_some_iff.1 hj).1
   rw[List.length_take]at this;omega
  rw[List.getElem?_take_of_lt hji]at hj
  obtain⟨hlt,rfl⟩:=List.getElem?_eq_some_iff.1 hj
  exact h.lo _ hlt hji
theorem AtK.VA (hs:Tq lt) {k:κ} {l:List α} {i:Nat} (h:AtK lt key k l i) (hn:∀x∈l,key x≠k):l.drop i=above lt key k l:=by
 unfold above
 conv=>rhs;rw[← List.take_append_drop i l]
 rw[List.filter_append,filter_none,filter_all,List.nil_append]
 ·intro x hx
  have hm:=List.mem_of_mem_drop hx
  obtain⟨j,hj⟩:=List.mem_iff_getElem?.1 hx
  rw[List.getElem?_drop]at hj
  obtain⟨hlt,rfl⟩:=List.getElem?_eq_some_iff.1 hj
  have h1:=h.hi _ hlt (by omega)
  cases h2:lt k (key l[i+j])
  ·exact absurd (hs.tot _ _ h1 h2) (hn _ hm)
  ·rfl
 ·intro x hx
  obtain⟨j,hj⟩:=List.mem_iff_getElem?.1 hx
  have hji:j<i:=by
   have:=(List.getElem?_eq_some_iff.1 hj).1
   rw[List.length_take]at this;omega
  rw[List.getElem?_take_of_lt hji]at hj
  obtain⟨hlt,rfl⟩:=List.getElem?_eq_some_iff.1 hj
  have h1:=h.lo _ hlt hji
  cases h2:lt k (key l[j])
  ·rfl
  ·have:=hs.tr _ _ _ h1 h2
   rw[hs.irr]at this
   cases this
theorem Inc.get {l:List α} (h:Inc lt key l) {i j:Nat} (hij:i<j) (hj:j<l.length):lt (key l[i]) (key l[j])=true:=List.pairwise_iff_getElem.1 h i j (by omega) hj hij
theorem AtK.found (hs:Tq lt) {k:κ} {l:List α} {i:Nat} (hl:Inc lt key l) (h:AtK lt key k l i) (hf:∃x∈l,key x=k):∃hi:i<l.length,key l[i]=k∧l.drop (i+1)=above lt key k l:=by
 obtain⟨x,hx,hk⟩:=hf
 obtain⟨j,hj,rfl⟩:=List.getElem_of_mem hx
 have hij:i≤j:=by
  rcases Nat.lt_or_ge j i with h1|h1
  ·have:=h.lo j hj h1
   rw[hk,hs.irr]at this
   cases this
  ·exact h1
 have hik:i<l.length:=by omega
 have hki:key l[i]=k:=by
  rcases Nat.lt_or_ge i j with h1|h1
  ·have h2:=hl.get h1 hj
   rw[hk,h.hi i hik (Nat.le_refl _)]at h2
   cases h2
  ·obtain rfl:i=j:=by omega
   exact hk
 refine⟨hik,hki,?_⟩
 unfold above
 conv=>rhs;rw[← List.take_append_drop (i+1) l]
 rw[List.filter_append,filter_none,filter_all,List.nil_append]
 ·intro x hx
  obtain⟨q,hq⟩:=List.mem_iff_getElem?.1 hx
  rw[List.getElem?_drop]at hq
  obtain⟨hlt,rfl⟩:=List.getElem?_eq_some_iff.1 hq
  rw[← hki]
  exact hl.get (by omega) hlt
 ·intro x hx
  obtain⟨q,hq⟩:=List.mem_iff_getElem?.1 hx
  have hqi:q<i+1:=by
   have:=(List.getElem?_eq_some_iff.1 hq).1
   rw[List.length_take]at this;omega
  rw[List.getElem?_take_of_lt hqi]at hq
  obtain⟨hlt,rfl⟩:=List.getElem?_eq_some_iff.1 hq
  rcases Nat.lt_or_ge q i with h1|h1
  ·have h2:=h.lo _ hlt h1
   cases h3:lt k (key l[q])
   ·rfl
   ·have:=hs.tr _ _ _ h2 h3
    rw[hs.irr]at this
    cases this
  ·obtain rfl:q=i:=by omega
   rw[hki,hs.irr]
theorem AtK.ins (hs:Tq lt) {x:α} {l:List α} {i:Nat} (h:AtK lt key (key x) l i) (hn:∀y∈l,key y≠key x):l.take i++[x]++l.drop i=BZ lt key x l:=by
 rw[h.take,h.VA hs hn];rfl
theorem AtK.set (hs:Tq lt) {x:α} {l:List α} {i:Nat} (hl:Inc lt key l) (h:AtK lt key (key x) l i) (hf:∃y∈l,key y=key x):l.set i x=BZ lt key x l:=by
 obtain⟨hi,_,hd⟩:=h.found hs hl hf
 rw[List.set_eq_take_append_cons_drop,if_pos hi,h.take,hd]
 simp[BZ]
theorem AtK.del (hs:Tq lt) {k:κ} {l:List α} {i:Nat} (hl:Inc lt key l) (h:AtK lt key k l i) (hf:∃y∈l,key y=k):l.take i++l.drop (i+1)=Gg lt key k l:=by
 obtain⟨hi,_,hd⟩:=h.found hs hl hf
 rw[h.take,hd];rfl
theorem BL (hs:Tq lt) {x y:α} {l:List α}:y∈BZ lt key x l→y=x∨y∈l:=by
 intro h
 simp only[BZ,below,above,List.mem_append,List.mem_filter,List.mem_singleton]at h
 rcases h with(h|h)|h
 ·exact .inr h.1
 ·exact .inl h
 ·exact .inr h.1
theorem CZ {k:κ} {y:α} {l:List α}:y∈Gg lt key k l→y∈l:=by
 intro h
 simp only[Gg,below,above,List.mem_append,List.mem_filter]at h
 rcases h with h|h<;>exact h.1
theorem Fe (hs:Tq lt) {x:α} {l:List α} (hl:Inc lt key l):Inc lt key (BZ lt key x l):=by
 unfold BZ Inc
 refine List.pairwise_append.2 ⟨List.pairwise_append.2 ⟨hl.filter _,List.pairwise_singleton _ _,?_⟩,hl.filter _,?_⟩
 ·intro a ha b hb
  simp only[below,List.mem_filter,List.mem_singleton]at ha hb
  subst hb
  exact ha.2
 ·intro a ha b hb
  simp only[above,List.mem_filter]at hb
  rcases List.mem_append.1 ha with ha|ha
  ·simp only[below,List.mem_filter]at ha
   exact hs.tr _ _ _ ha.2 hb.2
  ·simp only[List.mem_singleton]at ha
   subst ha
   exact hb.2
theorem FZ (hs:Tq lt) {k:κ} {l:List α} (hl:Inc lt key l):Inc lt key (Gg lt key k l):=by
 unfold Gg Inc
 refine List.pairwise_append.2 ⟨hl.filter _,hl.filter _,?_⟩
 intro a ha b hb
 simp only[below,above,List.mem_filter]at ha hb
 exact hs.tr _ _ _ ha.2 hb.2
end
end AI
end Go.Proofs.YtjijnamhalgamaaGreatDoor
