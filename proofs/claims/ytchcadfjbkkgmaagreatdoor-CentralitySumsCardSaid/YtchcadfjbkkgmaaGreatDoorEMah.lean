/- Tarjan's algorithm: what holds of its state, and its steps: plain. Tarjan's algorithm: a component leaves the stack: plain. component.Strong: the state in the store. A sorted list without its repeated elements. Leaving out what repeats (slices.Compact[[]int,int]), at any place of a store. The forest of component.Weak: add, find, union. Slices within reach; clones of values, properties, strings; looking up a node of any graph. component.edges: the edges of some types. Join, both; Same. component.Weak. -/
import Derived.Test.YtchcadfjbkkgmaaGreatDoorECore
import Derived.Test.YtchcadfjbkkgmaaGreatDoorEMaa
import Derived.Test.YtchcadfjbkkgmaaGreatDoorESe
import Derived.Test.YtchcadfjbkkgmaaGreatDoorEMag
import Derived.Test.YtchcadfjbkkgmaaGreatDoorEMaf
import Derived.Test.YtchcadfjbkkgmaaGreatDoorEMae
set_option linter.unusedVariables false
set_option maxRecDepth 4000
namespace Go.Proofs.YtchcadfjbkkgmaaGreatDoor
namespace AI
section
inductive Yz (nx:Int→List Int) (a:Int):Int→Prop
 |refl:Yz nx a a
 |step {b c:Int}:Yz nx a b→c∈nx b→Yz nx a c
theorem Yz.trans {nx:Int→List Int} {a b c:Int} (h:Yz nx a b) (k:Yz nx b c):Yz nx a c:=by
 induction k with
 |refl=>exact h
 |step _ hc ih=>exact .step ih hc
theorem Yz.one {nx:Int→List Int} {a b:Int} (h:b∈nx a):Yz nx a b:=.step .refl h
def Least (nx:Int→List Int) (v x:Int):Prop:=Yz nx v x∧Yz nx x v∧∀u,Yz nx v u→Yz nx u v→x≤u
def upd {α:Type} (f:Int→α) (a:Int) (b:α):Int→α:=fun x=>if x=a then b else f x
theorem IV {α:Type} {f:Int→α} {a:Int} {b:α}:upd f a b a=b:=if_pos rfl
theorem upd_ne {α:Type} {f:Int→α} {a x:Int} {b:α} (h:x≠a):upd f a b x=f x:=if_neg h
structure TJ where
 n:Nat
 vis:Int→Prop
 ix:Int→Nat
 low:Int→Nat
 S:List Int
 T:List (Int×Nat)
 sm:Int→Int
def Ut (T:List (Int×Nat)) (v:Int):Prop:=∀p∈T,p.1≠v
structure KJ (nx:Int→List Int) (s:TJ):Prop where
 vlt:∀v,s.vis v→s.ix v<s.n
 inj:∀v w,s.vis v→s.vis w→s.ix v=s.ix w→v=w
 sV:∀v∈s.S,s.vis v
 sI:s.S.Pairwise (fun a b=>s.ix a<s.ix b)
 tS:∀p∈s.T,p.1∈s.S
 tI:s.T.Pairwise (fun a b=>s.ix b.1<s.ix a.1)
 tR:∀p∈s.T,∀v∈s.S,s.ix p.1≤s.ix v→Yz nx p.1 v
 tA:∀p∈s.T,p.2≤(nx p.1).length∧∀j w,j<p.2→(nx p.1)[j]?=some w→s.vis w
 lf:∀v,s.vis v→Ut s.T v→∀w∈nx v,s.vis w
 pp:∀v,s.vis v→v∉s.S→∀w∈nx v,s.vis w∧w∉s.S
 lo:∀v∈s.S,s.low v≤s.ix v∧∃w∈s.S,s.ix w=s.low v∧Yz nx v w
 le:∀v∈s.S,∀w∈s.S,w∈nx v→(∀ p∈s.T,p.1=v→∃j,j<p.2∧(nx v)[j]?=some w)→s.low v≤s.ix w
 lc:∀v∈s.S,Ut s.T v→∀p∈s.T,s.ix p.1<s.ix v→(∀ q∈s.T,s.ix q.1<s.ix v→s.ix q.1≤s.ix p.1)→s.low p.1≤s.low v
 ll:∀v∈s.S,Ut s.T v→s.low v<s.ix v
 rt:∀v∈s.S,∃p∈s.T,s.ix p.1≤s.ix v
 ok:∀v,s.vis v→v∉s.S→Least nx v (s.sm v)
variable {nx:Int→List Int} {s:TJ}
theorem KJ.none {ix low:Int→Nat} {sm:Int→Int}:KJ nx ⟨0,fun _=>False,ix,low,[],[],sm⟩ where
 vlt:=fun _ h=>h.elim
 inj:=fun _ _ h=>h.elim
 sV:=fun _ h=>by cases h
 sI:=List.Pairwise.nil
 tS:=fun _ h=>by cases h
 tI:=List.Pairwise.nil
 tR:=fun _ h=>by cases h
 tA:=fun _ h=>by cases h
 lf:=fun _ h=>h.elim
 pp:=fun _ h=>h.elim
 lo:=fun _ h=>by cases h
 le:=fun _ h=>by cases h
 lc:=fun _ h=>by cases h
 ll:=fun _ h=>by cases h
 rt:=fun _ h=>by cases h
 ok:=fun _ h=>h.elim
abbrev AhO (s:TJ) (m:Int) (T1:List (Int×Nat)):TJ:=⟨s.n+1,fun v=>s.vis v∨v=m,upd s.ix m s.n,upd s.low m s.n,s.S++[m],(m,0)::T1,s.sm⟩
structure Goes (nx:Int→List Int) (s:TJ) (m:Int) (T1:List (Int×Nat)):Prop where
 nm:T1.map Prod.fst=s.T.map Prod.fst
 old:∀p∈T1,p∈s.T∨(∃ q,s.T.head?=some q∧q.1=p.1∧p.2=q.2+1∧(nx p.1)[q.2]?=some m)
 top:∀p,s.T.head?=some p→m∈nx p.1
theorem OV {T1 T:List (Int×Nat)} (h:T1.map Prod.fst=T.map Prod.fst) {v:Int}:(∃ p∈T1,p.1=v)↔∃p∈T,p.1=v:=by
 have e:∀{L:List (Int×Nat)},(∃ p∈L,p.1=v)↔v∈L.map Prod.fst:=fun{L}=>by rw[List.mem_map]
 rw[e,e,h]
theorem Zr {T1 T:List (Int×Nat)} (h:T1.map Prod.fst=T.map Prod.fst) {p:Int×Nat} (hp:p∈T1):∃q∈T,q.1=p.1:=(OV h).1 ⟨p,hp,rfl⟩
theorem Afz {T1 T:List (Int×Nat)} (h:T1.map Prod.fst=T.map Prod.fst) {v:Int}:Ut T1 v↔Ut T v:=by
 have:=OV h (v:=v)
 unfold Ut
 constructor
 ·intro k p hp e;obtain⟨q,hq,eq⟩:=this.2 ⟨p,hp,e⟩;exact k q hq eq
 ·intro k p hp e;obtain⟨q,hq,eq⟩:=this.1 ⟨p,hp,e⟩;exact k q hq eq
theorem AhP {R:Int→Int→Prop} {T1 T:List (Int×Nat)} (h:T1.map Prod.fst=T.map Prod.fst) (k:T.Pairwise fun a b=>R a.1 b.1):T1.Pairwise fun a b=>R a.1 b.1:=by
 have e:∀{L:List (Int×Nat)},(L.map Prod.fst).Pairwise R↔L.Pairwise fun a b=>R a.1 b.1:=fun{L}=>List.pairwise_map
 rw[← e]at k ⊢
 rw[h];exact k
theorem KJ.enter (h:KJ nx s) {m:Int} {T1:List (Int×Nat)} (hm:¬s.vis m) (g:Goes nx s m T1):KJ nx (AhO s m T1):=by
 have AfA:upd s.ix m s.n m=s.n:=IV
 have hix:∀v,s.vis v→upd s.ix m s.n v=s.ix v:=fun v hv=>upd_ne fun e=>hm (e▸hv)
 have hlow:∀v,s.vis v→upd s.low m s.n v=s.low v:=fun v hv=>upd_ne fun e=>hm (e▸hv)
 have hS:∀v∈s.S++[m],v∈s.S∨v=m:=fun v hv=>by simpa using hv
 have hTS:∀p∈T1,p.1∈s.S:=fun p hp=>by obtain⟨q,hq,e⟩:=Zr g.nm hp;rw[← e];exact h.tS q hq
 have hTv:∀p∈T1,s.vis p.1:=fun p hp=>h.sV _ (hTS p hp)
 have hmS:m∉s.S:=fun hx=>hm (h.sV _ hx)
 have hoff:∀v,Ut ((m,0)::T1) v→v≠m∧Ut s.T v:=fun v hv=>⟨fun e=>hv (m,0) (by simp) e.symm,(Afz g.nm).1 fun p hp=>hv p (by simp[hp])⟩
 have htop:∀v∈s.S,∃p,s.T.head?=some p∧True:=fun v hv=>by
  obtain⟨p,hp,_⟩:=h.rt v hv
  cases hT:s.T with
  |nil=>rw[hT]at hp;cases hp
  |cons a r=>exact⟨a,rfl,trivial⟩
 have hhead:∀p,s.T.head?=some p→∀q∈s.T,s.ix q.1≤s.ix p.1:=fun p hp q hq=>by
  have hI:=h.tI
  cases hT:s.T with
  |nil=>rw[hT]at hq;cases hq
  |cons a r=>
   rw[hT]at hp hq hI
   simp only[List.head?_cons,Option.some.injEq]at hp
   subst hp
   rcases List.mem_cons.1 hq with rfl|hq
   ·exact Nat.le_refl _
   ·exact Nat.le_of_lt ((List.pairwise_cons.1 hI).1 q hq)
 refine⟨?_,?_,?_,?_,?_,?_,?_,?_,?_,?_,?_,?_,?_,?_,?_,?_⟩
 ·rintro v (hv|rfl)
  ·show upd s.ix m s.n v<s.n+1
   rw[hix v hv];have:=h.vlt v hv;omega
  ·show upd s.ix v s.n v<s.n+1
   rw[IV];omega
 ·rintro v w (hv|rfl) (hw|rfl) e
  ·replace e:upd s.ix m s.n v=upd s.ix m s.n w:=e
   rw[hix v hv,hix w hw]at e;exact h.inj v w hv hw e
  ·replace e:upd s.ix w s.n v=upd s.ix w s.n w:=e
   rw[hix v hv,IV]at e;have:=h.vlt v hv;omega
  ·replace e:upd s.ix v s.n v=upd s.ix v s.n w:=e
   rw[hix w hw,IV]at e;have:=h.vlt w hw;omega
  ·rfl
 ·intro v hv
  rcases hS v hv with hv|rfl
  ·exact .inl (h.sV v hv)
  ·exact .inr rfl
 ·show(s.S++[m]).Pairwise fun a b=>upd s.ix m s.n a<upd s.ix m s.n b
  rw[List.pairwise_append]
  refine⟨h.sI.imp_of_mem fun ha hb hab=>by rw[hix _ (h.sV _ ha),hix _ (h.sV _ hb)];exact hab,List.pairwise_singleton _ _,fun a ha b hb=>?_⟩
  rw[List.mem_singleton]at hb
  subst hb
  rw[hix a (h.sV a ha),AfA];exact h.vlt a (h.sV a ha)
 ·intro p hp
  show p.1∈s.S++[m]
  rcases List.mem_cons.1 hp with rfl|hp
  ·simp
  ·simp[hTS p hp]
 ·show((m,0)::T1).Pairwise fun a b=>upd s.ix m s.n b.1<upd s.ix m s.n a.1
  refine List.pairwise_cons.2 ⟨fun p hp=>?_,?_⟩
  ·rw[hix _ (hTv p hp),AfA];exact h.vlt _ (hTv p hp)
  ·have hp:=AhP (R:=fun a b=>s.ix b<s.ix a) g.nm h.tI
   exact hp.imp_of_mem fun ha hb hab=>by rw[hix _ (hTv _ ha),hix _ (hTv _ hb)];exact hab
 ·intro p hp v hv hle
  replace hle:upd s.ix m s.n p.1≤upd s.ix m s.n v:=hle
  rcases List.mem_cons.1 hp with rfl|hp
  ·rcases hS v hv with hv|rfl
   ·rw[hix v (h.sV v hv)]at hle
    replace hle:upd s.ix m s.n m≤s.ix v:=hle
    rw[AfA]at hle;have:=h.vlt v (h.sV v hv);omega
   ·exact .refl
  ·obtain⟨q,hq,e⟩:=Zr g.nm hp
   have hpS:=hTS p hp
   rcases hS v hv with hv|rfl
   ·rw[hix _ (hTv p hp),hix v (h.sV v hv)]at hle
    rw[← e]at hle ⊢;exact h.tR q hq v hv hle
   ·obtain⟨r,hr,_⟩:=htop p.1 hpS
    have h1:=hhead r hr q hq
    have hrm:r∈s.T:=List.mem_of_head? hr
    rw[← e]
    exact .step (h.tR q hq r.1 (h.tS r hrm) h1) (g.top r hr)
 ·intro p hp
  rcases List.mem_cons.1 hp with rfl|hp
  ·exact⟨Nat.zero_le _,fun j w hj=>absurd hj (Nat.not_lt_zero _)⟩
  ·rcases g.old p hp with hq|⟨q,hq,e1,e2,e3⟩
   ·exact⟨(h.tA p hq).1,fun j w hj hw=>.inl ((h.tA p hq).2 j w hj hw)⟩
   ·have hqm:q∈s.T:=List.mem_of_head? hq
    have hk:=h.tA q hqm
    rw[e1]at hk
    have hlt:q.2<(nx p.1).length:=(List.getElem?_eq_some_iff.1 e3).1
    refine⟨by omega,fun j w hj hw=>?_⟩
    by_cases hjq:j<q.2
    ·exact .inl (hk.2 j w hjq hw)
    ·obtain rfl:j=q.2:=by omega
     rw[e3]at hw
     exact .inr (Option.some.inj hw).symm
 ·rintro v hv ho w hw
  obtain⟨o1,o2⟩:=hoff v ho
  rcases hv with hv|hv
  ·exact .inl (h.lf v hv o2 w hw)
  ·exact absurd hv o1
 ·rintro v hv hns w hw
  have AdI:v∉s.S∧v≠m:=⟨fun h=>hns (by show v∈s.S++[m];simp[h]),fun h=>hns (by show v∈s.S++[m];simp[h])⟩
  rcases hv with hv|hv
  ·obtain⟨a,b⟩:=h.pp v hv AdI.1 w hw
   refine⟨.inl a,fun hx=>?_⟩
   rcases hS w hx with hx|rfl
   ·exact b hx
   ·exact hm a
  ·exact absurd hv AdI.2
 ·intro v hv
  show upd s.low m s.n v≤upd s.ix m s.n v∧∃w∈s.S++[m],upd s.ix m s.n w=upd s.low m s.n v∧Yz nx v w
  rcases hS v hv with hv|rfl
  ·rw[hlow v (h.sV v hv),hix v (h.sV v hv)]
   obtain⟨a,w,b,c,d⟩:=h.lo v hv
   exact⟨a,w,by simp[b],by rw[hix w (h.sV w b)];exact c,d⟩
  ·rw[IV,IV]
   exact⟨Nat.le_refl _,v,by simp,IV,.refl⟩
 ·intro v hv w hw he hd
  show upd s.low m s.n v≤upd s.ix m s.n w
  rcases hS v hv with hv|rfl
  ·rw[hlow v (h.sV v hv)]
   have hvS:v∈s.S:=hv
   rcases hS w hw with hw|rfl
   ·rw[hix w (h.sV w hw)]
    refine h.le v hv w hw he fun p hp e=>?_
    obtain⟨q,hq,eq⟩:=(OV g.nm).2 ⟨p,hp,e⟩
    obtain⟨j,hj,hjw⟩:=hd q (by show q∈(m,0)::T1;simp[hq]) eq
    rcases g.old q hq with ho|⟨r,hr,a1,a2,a3⟩
    ·have:q=p:=by
       have hI:=h.tI
       refine Classical.byContradiction fun hne=>?_
       have hlt:s.ix q.1≠s.ix p.1:=by
        obtain⟨i1,hi1,rfl⟩:=List.getElem_of_mem ho
        obtain⟨i2,hi2,rfl⟩:=List.getElem_of_mem hp
        rcases Nat.lt_trichotomy i1 i2 with hh|hh|hh
        ·have:=List.pairwise_iff_getElem.1 hI i1 i2 hi1 hi2 hh;omega
        ·subst hh;exact absurd rfl hne
        ·have:=List.pairwise_iff_getElem.1 hI i2 i1 hi2 hi1 hh;omega
       exact hlt (by rw[eq,e])
     subst this
     exact⟨j,hj,hjw⟩
    ·have hrp:r=p:=by
       have hI:=h.tI
       have hrm:r∈s.T:=List.mem_of_head? hr
       refine Classical.byContradiction fun hne=>?_
       have hlt:s.ix r.1≠s.ix p.1:=by
        obtain⟨i1,hi1,rfl⟩:=List.getElem_of_mem hrm
        obtain⟨i2,hi2,rfl⟩:=List.getElem_of_mem hp
        rcases Nat.lt_trichotomy i1 i2 with hh|hh|hh
        ·have:=List.pairwise_iff_getElem.1 hI i1 i2 hi1 hi2 hh;omega
        ·subst hh;exact absurd rfl hne
        ·have:=List.pairwise_iff_getElem.1 hI i2 i1 hi2 hi1 hh;omega
       exact hlt (by rw[a1,eq,e])
     subst hrp
     by_cases hjr:j<r.2
     ·exact⟨j,hjr,hjw⟩
     ·exfalso
      have:j=r.2:=by omega
      subst this
      rw[← eq,a3]at hjw
      have:=Option.some.inj hjw
      subst this
      exact hmS hw
   ·rw[IV]
    have:=(h.lo v hvS).1
    have:=h.vlt v (h.sV v hvS)
    omega
  ·obtain⟨j,hj,_⟩:=hd (v,0) (by show(v,0)∈(v,0)::T1;simp) rfl
   exact absurd hj (Nat.not_lt_zero _)
 ·intro v hv ho p hp hlt hmax
  obtain⟨o1,o2⟩:=hoff v ho
  have hv':v∈s.S:=(hS v hv).resolve_right o1
  replace hlt:upd s.ix m s.n p.1<upd s.ix m s.n v:=hlt
  show upd s.low m s.n p.1≤upd s.low m s.n v
  rw[hix v (h.sV v hv')]at hlt
  rcases List.mem_cons.1 hp with rfl|hp
  ·replace hlt:upd s.ix m s.n m<s.ix v:=hlt
   rw[AfA]at hlt;have:=h.vlt v (h.sV v hv');omega
  ·rw[hix _ (hTv p hp)]at hlt
   rw[hlow _ (hTv p hp),hlow v (h.sV v hv')]
   obtain⟨q,hq,e⟩:=Zr g.nm hp
   rw[← e]at hlt ⊢
   refine h.lc v hv' o2 q hq hlt fun r hr hrl=>?_
   obtain⟨r',hr',e'⟩:=(OV g.nm).2 ⟨r,hr,rfl⟩
   have:=hmax r' (by show r'∈(m,0)::T1;simp[hr']) (by show upd s.ix m s.n r'.1<upd s.ix m s.n v;rw[hix _ (hTv r' hr'),hix v (h.sV v hv'),e'];exact hrl)
   replace this:upd s.ix m s.n r'.1≤upd s.ix m s.n p.1:=this
   rw[hix _ (hTv r' hr'),hix _ (hTv p hp),e',←e]at this
   exact this
 ·intro v hv ho
  obtain⟨o1,o2⟩:=hoff v ho
  have hv':v∈s.S:=(hS v hv).resolve_right o1
  show upd s.low m s.n v<upd s.ix m s.n v
  rw[hlow v (h.sV v hv'),hix v (h.sV v hv')]
  exact h.ll v hv' o2
 ·intro v hv
  rcases hS v hv with hv|rfl
  ·obtain⟨p,hp,hle⟩:=h.rt v hv
   obtain⟨q,hq,e⟩:=(OV g.nm).2 ⟨p,hp,rfl⟩
   refine⟨q,by show q∈(m,0)::T1;simp[hq],?_⟩
   show upd s.ix m s.n q.1≤upd s.ix m s.n v
   rw[hix _ (hTv q hq),hix v (h.sV v hv),e];exact hle
  ·exact⟨(v,0),by show(v,0)∈(v,0)::T1;simp,Nat.le_refl _⟩
 ·rintro v hv hns
  have AdI:v∉s.S∧v≠m:=⟨fun h=>hns (by show v∈s.S++[m];simp[h]),fun h=>hns (by show v∈s.S++[m];simp[h])⟩
  rcases hv with hv|hv
  ·exact h.ok v hv AdI.1
  ·exact absurd hv AdI.2
theorem KJ.uniq (h:KJ nx s) {p q:Int×Nat} (hp:p∈s.T) (hq:q∈s.T) (e:p.1=q.1):p=q:=by
 have hI:=h.tI
 refine Classical.byContradiction fun hne=>?_
 have hlt:s.ix p.1≠s.ix q.1:=by
  obtain⟨i1,hi1,rfl⟩:=List.getElem_of_mem hp
  obtain⟨i2,hi2,rfl⟩:=List.getElem_of_mem hq
  rcases Nat.lt_trichotomy i1 i2 with hh|hh|hh
  ·have:=List.pairwise_iff_getElem.1 hI i1 i2 hi1 hi2 hh;omega
  ·subst hh;exact absurd rfl hne
  ·have:=List.pairwise_iff_getElem.1 hI i2 i1 hi2 hi1 hh;omega
 exact hlt (by rw[e])
theorem KJ.below (h:KJ nx s) {t:Int} {k:Nat} {T0:List (Int×Nat)} (hT:s.T=(t,k)::T0) {p:Int×Nat} (hp:p∈T0):s.ix p.1<s.ix t:=by
 have hI:=h.tI
 rw[hT]at hI
 exact(List.pairwise_cons.1 hI).1 p hp
abbrev AfB (s:TJ) (t:Int) (k:Nat) (T0:List (Int×Nat)) (m:Int):TJ:=⟨s.n,s.vis,s.ix,if m∈s.S then upd s.low t (min (s.low t) (s.ix m))else s.low,s.S,(t,k+1)::T0,s.sm⟩
theorem KJ.see (h:KJ nx s) {t m:Int} {k:Nat} {T0:List (Int×Nat)} (hT:s.T=(t,k)::T0) (hk:(nx t)[k]?=some m) (hm:s.vis m):KJ nx (AfB s t k T0 m):=by
 have hmem:∀p,p∈(t,k+1)::T0→p=(t,k+1)∨p∈T0:=fun p hp=>List.mem_cons.1 hp
 have h0:(t,k)∈s.T:=by rw[hT];simp
 have hin:∀p∈T0,p∈s.T:=fun p hp=>by rw[hT];simp[hp]
 have htS:=h.tS _ h0
 have hmk:m∈nx t:=List.mem_of_getElem? hk
 have hoff:∀v,Ut ((t,k+1)::T0) v→Ut s.T v∧v≠t:=fun v hv=>⟨fun p hp e=>by
  rw[hT]at hp
  rcases List.mem_cons.1 hp with rfl|hp
  ·exact hv (t,k+1) (by simp) e
  ·exact hv p (by simp[hp]) e,fun e=>hv (t,k+1) (by simp) e.symm⟩
 have hlow:(AfB s t k T0 m).low=if m∈s.S then upd s.low t (min (s.low t) (s.ix m))else s.low:=rfl
 have hle:∀v,(AfB s t k T0 m).low v≤s.low v:=fun v=>by
  classical
  rw[hlow]
  split
  ·by_cases e:v=t
   ·rw[e,IV];omega
   ·rw[upd_ne e];exact Nat.le_refl _
  ·exact Nat.le_refl _
 have hne:∀v,v≠t→(AfB s t k T0 m).low v=s.low v:=fun v e=>by
  classical
  rw[hlow]
  split
  ·rw[upd_ne e]
  ·rfl
 have hbk:∀p∈(t,k+1)::T0,∃q∈s.T,q.1=p.1:=fun p hp=>by
  rcases hmem p hp with rfl|hp
  ·exact⟨_,h0,rfl⟩
  ·exact⟨p,hin p hp,rfl⟩
 have hfw:∀q∈s.T,∃p∈(t,k+1)::T0,p.1=q.1:=fun q hq=>by
  rw[hT]at hq
  rcases List.mem_cons.1 hq with rfl|hq
  ·exact⟨(t,k+1),by simp,rfl⟩
  ·exact⟨q,by simp[hq],rfl⟩
 refine⟨h.vlt,h.inj,h.sV,h.sI,?_,?_,?_,?_,?_,h.pp,?_,?_,?_,?_,?_,h.ok⟩
 ·intro p hp
  obtain⟨q,hq,e⟩:=hbk p hp
  rw[← e];exact h.tS q hq
 ·have hI:=h.tI
  rw[hT]at hI
  exact List.pairwise_cons.2 ⟨(List.pairwise_cons.1 hI).1,(List.pairwise_cons.1 hI).2⟩
 ·intro p hp v hv hlt
  obtain⟨q,hq,e⟩:=hbk p hp
  replace hlt:s.ix p.1≤s.ix v:=hlt
  rw[← e]at hlt ⊢;exact h.tR q hq v hv hlt
 ·intro p hp
  rcases hmem p hp with rfl|hp
  ·have hA:=h.tA _ h0
   have hl:k<(nx t).length:=(List.getElem?_eq_some_iff.1 hk).1
   refine⟨hl,fun j w hj hw=>?_⟩
   by_cases hjk:j<k
   ·exact hA.2 j w hjk hw
   ·replace hj:j<k+1:=hj
    obtain rfl:j=k:=by omega
    replace hw:(nx t)[j]?=some w:=hw
    rw[hk]at hw;cases hw;exact hm
  ·exact h.tA p (hin p hp)
 ·intro v hv ho
  exact h.lf v hv (hoff v ho).1
 ·intro v hv
  obtain⟨a,w,b,c,d⟩:=h.lo v hv
  refine⟨Nat.le_trans (hle v) a,?_⟩
  by_cases e:v=t
  ·subst e
   classical
   rw[hlow]
   split
   ·rename_i hmS
    rw[IV]
    by_cases hc:s.low v≤s.ix m
    ·exact⟨w,b,by show s.ix w=_;rw[c];omega,d⟩
    ·exact⟨m,hmS,by show s.ix m=_;omega,.one hmk⟩
   ·exact⟨w,b,c,d⟩
  ·exact⟨w,b,by show s.ix w=_;rw[hne v e];exact c,d⟩
 ·intro v hv w hw he hd
  by_cases e:v=t
  ·subst e
   obtain⟨j,hj,hjw⟩:=hd (v,k+1) (by show(v,k+1)∈(v,k+1)::T0;simp) rfl
   by_cases hjk:j<k
   ·refine Nat.le_trans (hle v) (h.le v hv w hw he fun p hp e=>?_)
    obtain rfl:=h.uniq hp h0 e
    exact⟨j,hjk,hjw⟩
   ·replace hj:j<k+1:=hj
    obtain rfl:j=k:=by omega
    rw[hk]at hjw
    cases hjw
    classical
    rw[hlow,if_pos hw,IV]
    exact Nat.min_le_right _ _
  ·rw[hne v e]
   refine h.le v hv w hw he fun p hp ep=>?_
   rw[hT]at hp
   rcases List.mem_cons.1 hp with rfl|hp
   ·exact absurd ep.symm e
   ·exact hd p (by show p∈(t,k+1)::T0;simp[hp]) ep
 ·intro v hv ho p hp hlt hmax
  obtain⟨o1,o2⟩:=hoff v ho
  rw[hne v o2]
  obtain⟨q,hq,e⟩:=hbk p hp
  refine Nat.le_trans (hle p.1) ?_
  rw[← e]at hlt ⊢
  refine h.lc v hv o1 q hq hlt fun r hr hrl=>?_
  obtain⟨r',hr',e'⟩:=hfw r hr
  have:=hmax r' hr' (by rw[e'];exact hrl)
  rw[e',←e]at this
  exact this
 ·intro v hv ho
  obtain⟨o1,o2⟩:=hoff v ho
  rw[hne v o2]
  exact h.ll v hv o1
 ·intro v hv
  obtain⟨p,hp,hl⟩:=h.rt v hv
  obtain⟨q,hq,e⟩:=hfw p hp
  exact⟨q,hq,by show s.ix q.1≤_;rw[e];exact hl⟩
end
section
variable {nx:Int→List Int} {s:TJ}
end
theorem RH {α:Type} {l r:List α} {i:Nat} (h:i<l.length):nth (l++r) i=nth l i:=by
 rw[Ar,Ar,List.getElem?_append_left h]
theorem UC {α:Type} {l:List α} {x:α}:nth (l++[x]) l.length=some x:=by
 rw[Ar,List.getElem?_append_right (Nat.le_refl _)];simp
theorem Nb {α:Type} {l:List α} {i:Nat} {x y:α} (h:nth l i=some y):nth (l.set i x) i=some x:=by
 rw[Ar,List.getElem?_set_self (BR h)]
theorem Qk {α:Type} {l:List α} {i j:Nat} {x:α} (h:i≠j):nth (l.set i x) j=nth l j:=by
 rw[Ar,Ar,List.getElem?_set_ne h]
structure Gm (σ σ':List Obj) (F:List Nat):Prop where
 len:σ.length≤σ'.length
 eq:∀o,o<σ.length→o∉F→nth σ' o=nth σ o
theorem Gm.refl {σ:List Obj} {F:List Nat}:Gm σ σ F:=⟨Nat.le_refl _,fun _ _ _=>rfl⟩
theorem Gm.trans {σ σ1 σ2:List Obj} {F F':List Nat} (h:Gm σ σ1 F) (k:Gm σ1 σ2 F'):Gm σ σ2 (F++F'):=
 ⟨Nat.le_trans h.len k.len,fun o ho hf=>by
  rw[List.mem_append]at hf
  exact(k.eq o (Nat.lt_of_lt_of_le ho h.len) fun e=>hf (.inr e)).trans (h.eq o ho fun e=>hf (.inl e))⟩
theorem Gm.mono {σ σ':List Obj} {F F':List Nat} (h:Gm σ σ' F) (hf:∀o∈F,o∈F'∨σ.length≤o):Gm σ σ' F':=
 ⟨h.len,fun o ho hn=>h.eq o ho fun hm=>(hf o hm).elim hn fun h=>by omega⟩
theorem Gm.get {σ σ':List Obj} {F:List Nat} {o:Nat} {x:Obj} (h:Gm σ σ' F) (hx:nth σ o=some x) (hf:o∉F):nth σ' o=some x:=(h.eq o (BR hx) hf).trans hx
theorem MX {σ:List Obj} {y:Obj} {K:List Obj→Prop} (h:∀σ',Gm σ σ' []→nth σ' σ.length=some y→σ'.length=σ.length+1→K σ'):AaN σ y K:=
 (Qc _ _ _).2 (h _ ⟨by simp,fun o ho _=>RH ho⟩ UC (by simp))
theorem Iz {σ:List Obj} {o:Nat} {x y:Obj} {K:List Obj→Prop} (hx:nth σ o=some x) (h:∀σ',Gm σ σ' [o]→nth σ' o=some y→σ'.length=σ.length→K σ'):Qb σ o y K:=
 (Di _ _ _ _).2 (h _ ⟨by simp,fun p hp hn=>Qk (by simpa using fun e=>hn (by simp[e]))⟩ (Nb hx) (by simp))
theorem VI {t o g es c':Nat} {sz:Option Nat} {σ:List Obj} {x:AV} {nn cl:Bool} (h:nth σ o=some (.arr g es nn cl [x])):Fb [(t,.ref o g 0 0)] ⟨σ,c'⟩ [.cell t sz]=(loadCells x.cells sz).map fun v=>[v]:=by
 have e:Env.get [(t,AV.ref o g 0 0)] t=.ref o g 0 0:=by simp[Env.get]
 have e2:P9 [(t,.ref o g 0 0)] ⟨σ,c'⟩ (.cell t sz)=loadCells x.cells sz:=by
  show(match Env.get [(t,AV.ref o g 0 0)] t with
   | .ref o g i off=>match nth σ o with
     |some (.arr g' _ _ _ elems)=>if g=g' then match nth elems i with
         |some x=>loadCells (x.cells.drop off) sz
         |none=>none
      else none
     |_=>none
   |_=>none)=_
  rw[e]
  simp only[h,if_true]
  rfl
 show(match P9 [(t,.ref o g 0 0)] ⟨σ,c'⟩ (.cell t sz),some []with
  |some v,some vs=>some (v::vs)
  |_,_=>none)=_
 rw[e2]
 cases loadCells x.cells sz<;>rfl
structure GS where
 a:Nat
 b:Nat
 c:Nat
 d:Nat
 e:Nat
 f:Nat
structure HS (G:GS) (nxM:List (AV×AV)) (cn:Bool) (σ:List Obj) (ixM Af0:List (Int×Int)) (stk:AV) (onM:List (Int×Bool)) (smM:List (Int×Int)):Prop where
 h1:nth σ 1=some (.mp G.a cn nxM)
 h2:nth σ 2=some (.mp G.b true (Og ixM))
 h3:nth σ 3=some (.mp G.c true (Og Af0))
 h4:nth σ 4=some (.mp G.d true (BU onM))
 h5:nth σ 5=some (.mp G.e true (Og smM))
 h6:nth σ 6=some (.arr G.f 6 true false [.agg [.map 1 G.a,.map 2 G.b,.map 3 G.c,stk,.map 4 G.d,.map 5 G.e]])
section
variable {G:GS} {nxM:List (AV×AV)} {cn:Bool} {σ:List Obj} {ixM Af0 smM:List (Int×Int)} {onM:List (Int×Bool)} {stk:AV}
theorem HS.keep {σ':List Obj} {F:List Nat} (h:HS G nxM cn σ ixM Af0 stk onM smM) (f:Gm σ σ' F) (hF:∀o∈F,6<o):HS G nxM cn σ' ixM Af0 stk onM smM:=by
 have hn:∀o,o≤6→o∉F:=fun o ho hm=>by have:=hF o hm;omega
 exact⟨f.get h.h1 (hn _ (by omega)),f.get h.h2 (hn _ (by omega)),f.get h.h3 (hn _ (by omega)),f.get h.h4 (hn _ (by omega)),f.get h.h5 (hn _ (by omega)),f.get h.h6 (hn _ (by omega))⟩
end
section
open Go.Sort
theorem clr {C:Az} {es o g off n:Nat} {nn cl:Bool} {x:AO} {env:Env} {σ:List Obj} {c:Nat} {elems:List AV} (hx:x.val env=.own o g off n) (ho:nth σ o=some (.arr g es nn cl elems)) (h:off+n≤elems.length) (hn:n≠0):
 Ag C (.clear es x) env ⟨σ,c⟩=some (.ok .undef,⟨σ.set o (.arr g es nn cl (elems.take off)),c⟩):=by
 simp[Ag,hx,ho,h,hn]
section
variable {α:Type} [Inhabited α]
theorem nPn {f:α→AV} {d:Array α} {m:Nat} (i:Nat) (hm:m=i) (h:i<d.size):nth (vs f d.toList) m=some (f d[i]!):=by
 subst hm
 have:=nP (f:=f) (d:=d) (z:=(m:Int)) m rfl h
 exact this
open Classical in
noncomputable def PK (d:Array α):Nat→List α
 |0=>[]
 |n+1=>if 0<n∧d[n]! =d[n-1]! then PK d n else PK d n++[d[n]!]
theorem Ld {d:Array α} {n:Nat} (h0:0<n) (h:d[n]! =d[n-1]!):PK d (n+1)=PK d n:=if_pos ⟨h0,h⟩
theorem Oy {d:Array α} {n:Nat} (h:0<n→¬d[n]! =d[n-1]!):PK d (n+1)=PK d n++[d[n]!]:=if_neg fun h1=>h h1.1 h1.2
theorem VR {d:Array α}:∀n,n≤d.size→(∀ j,0<j→j<n→¬d[j]! =d[j-1]!)→PK d n=d.toList.take n
 |0,_,_=>by simp[PK]
 |n+1,hn,h=>by
  rw[Oy (fun h0=>h n h0 (by omega)),VR n (by omega) fun j h0 hj=>h j h0 (by omega),List.take_succ_eq_append_getElem (by simp;omega)]
  congr 2
  rw[getElem!_pos d n (by omega)]
  simp
theorem Rf {d:Array α} {x:α}:∀n,n≤d.size→(x∈PK d n↔x∈d.toList.take n)
 |0,_=>by simp[PK]
 |n+1,hn=>by
  have e:d[n]! =d.toList[n]'(by simp;omega):=by rw[getElem!_pos d n (by omega)];simp
  rw[List.take_succ_eq_append_getElem (by simp;omega),List.mem_append,List.mem_singleton,←e]
  by_cases h:0<n∧d[n]! =d[n-1]!
  ·rw[Ld h.1 h.2,Rf n (by omega)]
   refine⟨Or.inl,fun h1=>h1.elim id ?_⟩
   rintro rfl
   rw[h.2,getElem!_pos d (n-1) (by omega)]
   rw[List.mem_take_iff_getElem]
   exact⟨n-1,by simp;omega,by simp⟩
  ·rw[Oy (fun h0 h1=>h ⟨h0,h1⟩),List.mem_append,List.mem_singleton,Rf n (by omega)]
theorem Ac6 {lt:α→α→Bool} (hS:SWO lt) (htot:∀x y,lt x y=false→lt y x=false→x=y) {d:Array α} (hs:SortedIn lt 0 d.size d):∀n,n≤d.size→(PK d n).Pairwise (fun x y=>lt x y=true)
 |0,_=>by simp[PK]
 |n+1,hn=>by
  have ih:=Ac6 hS htot hs n (by omega)
  by_cases h:0<n∧d[n]! =d[n-1]!
  ·rw[Ld h.1 h.2];exact ih
  ·rw[Oy (fun h0 h1=>h ⟨h0,h1⟩)]
   refine List.pairwise_append.2 ⟨ih,List.pairwise_singleton ..,fun x hx y hy=>?_⟩
   obtain rfl:=List.mem_singleton.1 hy
   rw[Rf n (by omega),List.mem_take_iff_getElem]at hx
   obtain⟨j,hj,rfl⟩:=hx
   simp only[Array.length_toList]at hj
   have ej:d.toList[j]'(by simp;omega)=d[j]!:=by rw[getElem!_pos d j (by omega)];simp
   rw[ej]
   cases hc:lt d[j]! d[n]! with
   |true=>rfl
   |false=>
    exfalso
    have h1:=hs j n (by omega) (by omega) (by omega)
    have e1:=htot _ _ hc h1
    refine h ⟨by omega,?_⟩
    rcases Nat.lt_or_ge j (n-1)with h2|h2
    ·have h3:=hs j (n-1) (by omega) h2 (by omega)
     have h4:=hs (n-1) n (by omega) (by omega) (by omega)
     rw[e1]at h3
     exact htot _ _ h4 h3
    ·obtain rfl:j=n-1:=by omega
     exact e1.symm
omit [Inhabited α]in
theorem Nc {lt:α→α→Bool} (hS:SWO lt):∀{a b:List α},a.Pairwise (fun x y=>lt x y=true)→b.Pairwise (fun x y=>lt x y=true)→(∀ x,x∈a↔x∈b)→a=b
 |[],[],_,_,_=>rfl
 |[],y::b,_,_,h=>absurd ((h y).2 (List.mem_cons_self ..)) (by simp)
 |x::a,[],_,_,h=>absurd ((h x).1 (List.mem_cons_self ..)) (by simp)
 |x::a,y::b,ha,hb,h=>by
  have ha':=List.pairwise_cons.1 ha
  have hb':=List.pairwise_cons.1 hb
  have hxy:x=y:=by
   rcases List.mem_cons.1 ((h x).1 (List.mem_cons_self ..))with e|hx
   ·exact e
   rcases List.mem_cons.1 ((h y).2 (List.mem_cons_self ..))with e|hy
   ·exact e.symm
   have:=hS.trans _ _ _ (ha'.1 y hy) (hb'.1 x hx)
   rw[hS.irrefl]at this;cases this
  subst hxy
  rw[Nc hS ha'.2 hb'.2 fun z=>?_]
  have hn1:x∉a:=fun h1=>by have:=ha'.1 x h1;rw[hS.irrefl]at this;cases this
  have hn2:x∉b:=fun h1=>by have:=hb'.1 x h1;rw[hS.irrefl]at this;cases this
  have:=h z
  simp only[List.mem_cons]at this
  constructor
  ·intro hz
   rcases this.1 (Or.inr hz)with rfl|h2
   ·exact absurd hz hn1
   ·exact h2
  ·intro hz
   rcases this.2 (Or.inr hz)with rfl|h2
   ·exact absurd hz hn2
   ·exact h2
end
end
section
open Go.Sort
theorem MF {pre post:List Obj} {x:Obj}:nth (pre++x::post) pre.length=some x:=by rw[Ar];simp
theorem Lc {pre post:List Obj} {x y:Obj}:(pre++x::post).set pre.length y=pre++y::post:=by simp
theorem Ag7 {σ:List Obj} {o:Nat} {x:Obj} (h:nth σ o=some x):∃pre post,σ=pre++x::post∧pre.length=o:=by
 rw[Ar]at h
 obtain⟨hl,rfl⟩:=List.getElem?_eq_some_iff.1 h
 exact⟨σ.take o,σ.drop (o+1),by rw[← List.drop_eq_getElem_cons hl,List.take_append_drop],by rw[List.length_take];omega⟩
set_option maxHeartbeats 2000000 in
theorem Alk {pre post:List Obj} {g len c:Nat} {nn cl:Bool} {d:Array Int} (hl:d.size=len) (hs:len<2^61):
 D7 (Ac tab) 65 [.own pre.length g 0 len] ⟨(pre++.arr g 1 nn cl (vs (.int .i64) d.toList)::post),c⟩ fun out s'=>∃c' T,out=.ok (.own pre.length g 0 (PK d len).length)∧s'=⟨(pre++.arr g 1 nn cl (vs (.int .i64) (PK d len++T))::post),c'⟩:=by
 have hend:(∀ j,0<j→j<len→¬d[j]! =d[j-1]!)→PK d len=d.toList:=fun h=>by
  rw[VR len (by omega) h,List.take_of_length_le (by simp[hl])]
 refine PO rfl rfl ?_
 (conv=>whnf);repeat' (first|(rw [MF];conv=>whnf)|(rw [Di,Lc];conv=>whnf)|(refine kA ?_;conv=>whnf)|(refine Br.mk (fun hc=>?_) fun hc=>?_<;>first|exact hc.elim|conv=>whnf)|(refine kB ?_))
 ·have e:=hend (fun j h0 hj=>absurd h0 (by omega))
  rw[e,show d.toList.length=len by simpa using hl]
  exact⟨_,[],rfl,by rw[List.append_nil]⟩
 refine Aj (fun m env s=>∃(k c:Nat),m=len-k∧0<k∧(∀ j,0<j→j<k→¬d[j]! =d[j-1]!)∧env=[(0,.own pre.length g 0 len),(3,.int .i64 k)]∧s=⟨(pre++.arr g 1 nn cl (vs (.int .i64) d.toList)::post),c⟩) ?_ _ _ _ ⟨1,c,rfl,by omega,fun j h0 h1=>absurd h0 (by omega),rfl,rfl⟩
 rintro _ _ _ ⟨k,c,rfl,hk0,hk,rfl,rfl⟩
 refine⟨rfl,?_⟩
 (conv=>whnf);repeat' (first|(rw [MF];conv=>whnf)|(rw [Di,Lc];conv=>whnf)|((with_reducible show QJ _ _ _);refine nPK (k) ?_;conv=>whnf)|((with_reducible show QJ _ _ _);refine nPK (k-1) ?_;conv=>whnf)|(refine kA ?_;conv=>whnf)|(refine Br.mk (fun hc=>?_) fun hc=>?_<;>first|exact hc.elim|conv=>whnf)|(refine kB ?_))
 ·have h1:PK d (k+1)=PK d k:=Ld hk0 (by assumption)
  have h2:PK d k=d.toList.take k:=VR k (by omega) hk
  obtain⟨k,rfl⟩:∃k',k=k'+1:=⟨k-1,by omega⟩
  refine Aj (fun m env s=>∃(k2 c w:Nat) (E:Array Int),m=len-(k+1)-k2∧0<k2∧k+1+k2≤len∧E.size=len∧w=(PK d (k+1+k2)).length∧w<k+1+k2∧E.toList.take w=PK d (k+1+k2)∧(∀ j,k+1+k2≤j+1→j<len→E[j]! =d[j]!)∧env=[(0,.own pre.length g 0 len),(3,.int .i64 w),(4,.own pre.length g (k+1) (len-(k+1))),(5,.int .i64 k2)]∧s=⟨(pre++.arr g 1 nn cl (vs (.int .i64) E.toList)::post),c⟩) ?_ _ _ _ ⟨1,_,k+1,d,rfl,by omega,by omega,hl,by rw[h1,h2];simp;omega,by omega,by rw[h1,h2],fun j _ _=>rfl,rfl,rfl⟩
  rintro _ _ _ ⟨k2,c,w,E,rfl,hk2,hkl,hE,hw,hwk,hW,hej,rfl,rfl⟩
  refine⟨rfl,?_⟩
  (conv=>whnf);repeat' (first|(rw [MF];conv=>whnf)|(rw [Di,Lc];conv=>whnf)|(apply Au;(· exact nPn (k+1+k2) (by omega) (by first|omega|(simp;omega)));conv=>whnf)|(apply Au;(· exact nPn (k+1+k2-1) (by omega) (by first|omega|(simp;omega)));conv=>whnf)|((with_reducible show QJ _ _ _);refine nPK (w) ?_;conv=>whnf)|((with_reducible show eqK _ _);refine tPK Ag8 (w) ?_;conv=>whnf)|(refine kA ?_;conv=>whnf)|(refine Br.mk (fun hc=>?_) fun hc=>?_<;>first|exact hc.elim|conv=>whnf)|(refine kB ?_))
  ·have e1:=hej (k+1+k2) (by omega) (by omega)
   have e2:=hej (k+1+k2-1) (by omega) (by omega)
   rw[e1,e2]at hc
   exact again.mk ⟨_,by omega,k2+1,_,w,E,rfl,by omega,by omega,hE,by rw[hw,←Ld (d:=d) (n:=k+1+k2) (by omega) hc];rfl,by omega,by rw[hW,←Ld (d:=d) (n:=k+1+k2) (by omega) hc];rfl,fun j h1 h2=>hej j (by omega) h2,rfl,rfl⟩
  ·have e1:=hej (k+1+k2) (by omega) (by omega)
   have e2:=hej (k+1+k2-1) (by omega) (by omega)
   rw[e1,e2]at hc
   have e3:PK d (k+1+(k2+1))=PK d (k+1+k2)++[d[k+1+k2]!]:=Oy fun _=>hc
   refine again.mk ⟨_,by omega,k2+1,_,w+1,E.setIfInBounds w E[k+1+k2]!,rfl,by omega,by omega,by simpa using hE,by rw[e3,List.length_append,←hw];rfl,by omega,?_,fun j h1 h2=>?_,rfl,rfl⟩
   ·rw[Array.toList_setIfInBounds,List.take_succ_eq_append_getElem (by simp;omega),e3,←hW,e1]
    simp[List.take_set_of_le]
   ·rw[← hej j (by omega) h2,getElem!_pos _ j (by simp;omega),getElem!_pos E j (by omega),Array.getElem_setIfInBounds_ne (by omega) (by omega)]
  ·have Aln:k+1+k2=len:=by omega
   rw[Aln]at hW hw hwk
   refine Dl (clr (n:=len-w) rfl MF (by simp;omega) (by omega)) ?_
   rw[Lc]
   have e4:List.take (Int.toNat (w:Int)) (vs (.int .i64) E.toList)=vs (.int .i64) (PK d len++[]):=by
        rw[List.append_nil,←hW];simp[vs,List.map_take]
   (conv=>whnf);repeat' (first|(rw [MF];conv=>whnf)|(rw [Di,Lc];conv=>whnf)|(refine kA ?_;conv=>whnf)|(refine Br.mk (fun hc=>?_) fun hc=>?_<;>first|exact hc.elim|conv=>whnf)|(refine kB ?_))
   refine⟨c,[],by rw[← hw];rfl,?_⟩
   rw[← e4]
 ·exact again.mk ⟨_,by omega,k+1,_,rfl,by omega,fun j h0 hj=>by
   rcases Nat.lt_or_ge j k with h|h
   ·exact hk j h0 h
   ·obtain rfl:j=k:=by omega
    first|exact hc|assumption,rfl,rfl⟩
 ·have e:=hend (fun j h0 hj=>hk j h0 (by omega))
  rw[e,show d.toList.length=len by simpa using hl]
  exact⟨_,[],rfl,by rw[List.append_nil]⟩
theorem AkW {σ:List Obj} {o g len c:Nat} {nn cl:Bool} {L:List Int} (h:nth σ o=some (.arr g 1 nn cl (vs (.int .i64) L))) (hl:L.length=len) (hs:len≤1099511627776):
 D7 (Ac tab) 64 [.own o g 0 len] ⟨σ,c⟩ fun out s'=>∃σ',out=.ok (.CP [])∧s'=⟨σ',c⟩∧Gm σ σ' [o]∧nth σ' o=some (.arr g 1 nn cl (vs (.int .i64) (F6 L)))∧σ'.length=σ.length:=by
 have hsp:Gw [.own o g 0 len] ⟨σ,c⟩=some (.ok (.CP []),⟨σ.set o (.arr g 1 nn cl (vs (.int .i64) (F6 L))),c⟩):=by
  show(match nth σ o with|some (.arr g' es nn cl xs)=>if g=g'∧es=1∧len=xs.length∧len≤1099511627776 then _ else none|_=>none)=_
  rw[h]
  show(if g=g∧1=1∧len=(vs (AV.int .i64) L).length∧len≤1099511627776 then _ else none)=_
  rw[if_pos ⟨rfl,rfl,by rw[lV,hl],hs⟩,Aaf]
  rfl
 exact PS rfl hsp ⟨_,rfl,rfl,⟨by simp,fun p hp hn=>Qk (by simpa using fun e=>hn (by simp[e]))⟩,Nb h,by simp⟩
theorem AkU {σ:List Obj} {c:Nat}:D7 (Ac tab) 64 [.sl false []] ⟨σ,c⟩ fun out s'=>out=.ok (.CP [])∧s'=⟨σ,c⟩:=by
 have hsp:Gw [.sl false []] ⟨σ,c⟩=some (.ok (.CP []),⟨σ,c⟩):=rfl
 exact PS rfl hsp ⟨rfl,rfl⟩
theorem AkX {σ:List Obj} {o g len c:Nat} {nn cl:Bool} {L:List Int} (h:nth σ o=some (.arr g 1 nn cl (vs (.int .i64) L))) (hl:L.length=len) (hs:len<2^61):
 D7 (Ac tab) 65 [.own o g 0 len] ⟨σ,c⟩ fun out s'=>∃σ' c' T,out=.ok (.own o g 0 (PK L.toArray len).length)∧s'=⟨σ',c'⟩∧Gm σ σ' [o]∧nth σ' o=some (.arr g 1 nn cl (vs (.int .i64) (PK L.toArray len++T)))∧σ'.length=σ.length:=by
 obtain⟨pre,post,rfl,rfl⟩:=Ag7 h
 refine(Alk (d:=L.toArray) (pre:=pre) (post:=post) (g:=g) (c:=c) (nn:=nn) (cl:=cl) (by simpa using hl) hs).mono ?_
 rintro _ _ ⟨c',T,rfl,rfl⟩
 refine⟨_,c',T,rfl,rfl,⟨by simp,fun p hp hn=>?_⟩,MF,by simp⟩
 have hne:p≠pre.length:=fun e=>hn (by simp[e])
 rw[Ar,Ar]
 by_cases hlt:p<pre.length
 ·rw[List.getElem?_append_left hlt,List.getElem?_append_left hlt]
 ·rw[List.getElem?_append_right (by omega),List.getElem?_append_right (by omega)]
  obtain⟨q,hq⟩:∃q,p-pre.length=q+1:=⟨p-pre.length-1,by omega⟩
  rw[hq];rfl
theorem AkV {σ:List Obj} {c:Nat}:D7 (Ac tab) 65 [.sl false []] ⟨σ,c⟩ fun out s'=>out=.ok (.sl false [])∧s'=⟨σ,c⟩:=by
 refine PO rfl rfl ?_
 (conv=>whnf);repeat' (first  |(refine kA ?_;conv=>whnf)|(refine Br.mk (fun hc=>?_) fun hc=>?_<;>first|exact hc.elim|conv=>whnf)|(refine kB ?_))
 all_goals first|exact⟨rfl,rfl⟩|(exfalso;omega)
end
theorem KX (p:Int→Int):∀{S:List Int} {x:Int},x∈S→Dx (Fp S p) x=some (p x)
 |[],x,h=>by cases h
 |i::S,x,h=>by
  show(if x=i then some (p i)else Dx (Fp S p) x)=_
  by_cases e:x=i
  ·subst e;rw[if_pos rfl]
  ·rw[if_neg e]
   rcases List.mem_cons.1 h with k|k
   ·exact absurd k e
   ·exact KX p k
structure Del (p:GE→Prop) [DecidablePred p] (L W:List GE) (i j:Nat):Prop where
 len:W.length=L.length
 le:i≤j
 new:W.take i=(L.take j).filter fun e=>decide (p e)
 old:∀k,j≤k→W[k]?=L[k]?
section
variable {p:GE→Prop} [DecidablePred p] {L W:List GE} {i j:Nat}
theorem Del.start {i:Nat} (h:i<L.length) (hf:¬p L[i]) (hb:∀e∈L.take i,p e):Del p L L i (i+1):=by
 refine⟨rfl,by omega,?_,fun _ _=>rfl⟩
 rw[List.take_succ_eq_append_getElem h,List.filter_append,List.filter_eq_self.2 fun e he=>decide_eq_true (hb e he)]
 simp[hf]
theorem Del.at (h:Del p L W i j) (hj:j<L.length):W[j]'(by rw[h.len];exact hj)=L[j]:=by
 have:=h.old j (Nat.le_refl _)
 rw[List.getElem?_eq_getElem hj,List.getElem?_eq_getElem (by rw[h.len];exact hj)]at this
 simpa using this
theorem Del.keep (h:Del p L W i j) (hj:j<L.length) (hp:p L[j]):Del p L (W.set i L[j]) (i+1) (j+1):=by
 have hi:i<W.length:=by rw[h.len];have:=h.le;omega
 refine⟨by simp[h.len],by have:=h.le;omega,?_,fun k hk=>?_⟩
 ·rw[List.take_succ_eq_append_getElem (by simpa using hi),List.getElem_set_self,List.take_set_of_le (Nat.le_refl _),h.new,List.take_succ_eq_append_getElem hj,List.filter_append]
  simp[hp]
 ·rw[List.getElem?_set_ne (by have:=h.le;omega)];exact h.old k (by omega)
theorem Del.drop (h:Del p L W i j) (hj:j<L.length) (hp:¬p L[j]):Del p L W i (j+1):=by
 refine⟨h.len,by have:=h.le;omega,?_,fun k hk=>h.old k (by omega)⟩
 rw[h.new,List.take_succ_eq_append_getElem hj,List.filter_append]
 simp[hp]
theorem Del.all (h:Del p L W i j) (hj:¬j<L.length):W.take i=L.filter fun e=>decide (p e):=by
 rw[h.new,List.take_of_length_le (by omega)]
end
def BK (g:GG):List Int:=g.nodes.map GN.id
theorem DF (g:GG):(BK g).length=g.nodes.length:=by simp[BK]
theorem JR {g:GG} {i:Nat} (h:i<g.nodes.length):(BK g)[i]'(by rw[DF];exact h)=(g.nodes[i]).id:=by simp[BK]
theorem Acd {l:List Int} (h:∀i (hi:i<l.length),0<i→l[i-1]<l[i]):l.Pairwise (· <·):=by
 rw[List.pairwise_iff_getElem]
 intro i j hi hj hij
 induction j with
 |zero=>omega
 |succ j ih=>
  have h1:=h (j+1) hj (by omega)
  simp only[Nat.add_sub_cancel]at h1
  by_cases e:i=j
  ·subst e;exact h1
  ·exact Int.lt_trans (ih (by omega) (by omega)) h1
theorem AeD {g:GG} (h:Bo g=0):(BK g).Pairwise (· <·):=Acd fun i hi h0=>by
 have hi':i<g.nodes.length:=by rw[← DF];exact hi
 rw[JR (by omega),JR hi']
 exact(ZR hi' ((WZ h).2.2.1 i hi')).1 h0
theorem Vx {g:GG} (h:Bo g=0):(BK g).Nodup:=(AeD h).imp fun h=>by omega
theorem Ju {g:GG} (h:Bo g=0):∀e∈g.edges,e.fr∈BK g∧e.to∈BK g:=fun e he=>by
 obtain⟨i,hi,rfl⟩:=List.getElem_of_mem he
 have:=AeE hi ((WZ h).2.2.2 i hi)
 exact⟨this.2.2.2.1,this.2.2.2.2.1⟩
end AI
end Go.Proofs.YtchcadfjbkkgmaaGreatDoor
