/- Tarjan's algorithm: what holds of its state, and its steps: plain. Tarjan's algorithm: a component leaves the stack: plain. component.Strong: the state in the store. The forest of component.Weak: add, find, union. Slices within reach; clones of values, properties, strings; looking up a node of any graph. component.edges: the edges of some types. Join, both; Same. component.Weak. neighbors: maps in a map. -/
import Derived.Test.YtchcadfjbkkgmaaGreatDoorCCore
import Derived.Test.YtchcadfjbkkgmaaGreatDoorCMaa
import Derived.Test.YtchcadfjbkkgmaaGreatDoorCSe
import Derived.Test.YtchcadfjbkkgmaaGreatDoorCMaf
import Derived.Test.YtchcadfjbkkgmaaGreatDoorCMae
set_option linter.unusedVariables false
set_option maxRecDepth 4000
namespace Go.Proofs.YtchcadfjbkkgmaaGreatDoor
namespace AI
section
inductive ZO (nx:Int→List Int) (a:Int):Int→Prop
 |refl:ZO nx a a
 |step {b c:Int}:ZO nx a b→c∈nx b→ZO nx a c
theorem ZO.trans {nx:Int→List Int} {a b c:Int} (h:ZO nx a b) (k:ZO nx b c):ZO nx a c:=by
 induction k with
 |refl=>exact h
 |step _ hc ih=>exact .step ih hc
theorem ZO.one {nx:Int→List Int} {a b:Int} (h:b∈nx a):ZO nx a b:=.step .refl h
def Least (nx:Int→List Int) (v x:Int):Prop:=ZO nx v x∧ZO nx x v∧∀u,ZO nx v u→ZO nx u v→x≤u
def upd {α:Type} (f:Int→α) (a:Int) (b:α):Int→α:=fun x=>if x=a then b else f x
theorem Jv {α:Type} {f:Int→α} {a:Int} {b:α}:upd f a b a=b:=if_pos rfl
theorem upd_ne {α:Type} {f:Int→α} {a x:Int} {b:α} (h:x≠a):upd f a b x=f x:=if_neg h
structure TJ where
 n:Nat
 vis:Int→Prop
 ix:Int→Nat
 low:Int→Nat
 S:List Int
 T:List (Int×Nat)
 sm:Int→Int
def Vq (T:List (Int×Nat)) (v:Int):Prop:=∀p∈T,p.1≠v
structure LQ (nx:Int→List Int) (s:TJ):Prop where
 vlt:∀v,s.vis v→s.ix v<s.n
 inj:∀v w,s.vis v→s.vis w→s.ix v=s.ix w→v=w
 sV:∀v∈s.S,s.vis v
 sI:s.S.Pairwise (fun a b=>s.ix a<s.ix b)
 tS:∀p∈s.T,p.1∈s.S
 tI:s.T.Pairwise (fun a b=>s.ix b.1<s.ix a.1)
 tR:∀p∈s.T,∀v∈s.S,s.ix p.1≤s.ix v→ZO nx p.1 v
 tA:∀p∈s.T,p.2≤(nx p.1).length∧∀j w,j<p.2→(nx p.1)[j]?=some w→s.vis w
 lf:∀v,s.vis v→Vq s.T v→∀w∈nx v,s.vis w
 pp:∀v,s.vis v→v∉s.S→∀w∈nx v,s.vis w∧w∉s.S
 lo:∀v∈s.S,s.low v≤s.ix v∧∃w∈s.S,s.ix w=s.low v∧ZO nx v w
 le:∀v∈s.S,∀w∈s.S,w∈nx v→(∀ p∈s.T,p.1=v→∃j,j<p.2∧(nx v)[j]?=some w)→s.low v≤s.ix w
 lc:∀v∈s.S,Vq s.T v→∀p∈s.T,s.ix p.1<s.ix v→(∀ q∈s.T,s.ix q.1<s.ix v→s.ix q.1≤s.ix p.1)→s.low p.1≤s.low v
 ll:∀v∈s.S,Vq s.T v→s.low v<s.ix v
 rt:∀v∈s.S,∃p∈s.T,s.ix p.1≤s.ix v
 ok:∀v,s.vis v→v∉s.S→Least nx v (s.sm v)
variable {nx:Int→List Int} {s:TJ}
theorem LQ.none {ix low:Int→Nat} {sm:Int→Int}:LQ nx ⟨0,fun _=>False,ix,low,[],[],sm⟩ where
 vlt:=fun _ h=>h.elim
 inj:=fun _ _ h=>h.elim
 sV:=fun _ h=>by cases h
 sI:=List.Pairwise.nil
 tS:=fun _ h=>by cases h
 tI:=List.Pairwise.nil
 tR:=fun _ h=>by cases h
 tA:=fun _ h=>by cases h
 lf:=fun _ h=>h.elim
 pp:=fun _ h=>h.elim
 lo:=fun _ h=>by cases h
 le:=fun _ h=>by cases h
 lc:=fun _ h=>by cases h
 ll:=fun _ h=>by cases h
 rt:=fun _ h=>by cases h
 ok:=fun _ h=>h.elim
abbrev Akx (s:TJ) (m:Int) (T1:List (Int×Nat)):TJ:=⟨s.n+1,fun v=>s.vis v∨v=m,upd s.ix m s.n,upd s.low m s.n,s.S++[m],(m,0)::T1,s.sm⟩
structure Goes (nx:Int→List Int) (s:TJ) (m:Int) (T1:List (Int×Nat)):Prop where
 nm:T1.map Prod.fst=s.T.map Prod.fst
 old:∀p∈T1,p∈s.T∨(∃ q,s.T.head?=some q∧q.1=p.1∧p.2=q.2+1∧(nx p.1)[q.2]?=some m)
 top:∀p,s.T.head?=some p→m∈nx p.1
theorem Qz {T1 T:List (Int×Nat)} (h:T1.map Prod.fst=T.map Prod.fst) {v:Int}:(∃ p∈T1,p.1=v)↔∃p∈T,p.1=v:=by
 have e:∀{L:List (Int×Nat)},(∃ p∈L,p.1=v)↔v∈L.map Prod.fst:=fun{L}=>by rw[List.mem_map]
 rw[e,e,h]
theorem Aa8 {T1 T:List (Int×Nat)} (h:T1.map Prod.fst=T.map Prod.fst) {p:Int×Nat} (hp:p∈T1):∃q∈T,q.1=p.1:=(Qz h).1 ⟨p,hp,rfl⟩
theorem Ah9 {T1 T:List (Int×Nat)} (h:T1.map Prod.fst=T.map Prod.fst) {v:Int}:Vq T1 v↔Vq T v:=by
 have:=Qz h (v:=v)
 unfold Vq
 constructor
 ·intro k p hp e;obtain⟨q,hq,eq⟩:=this.2 ⟨p,hp,e⟩;exact k q hq eq
 ·intro k p hp e;obtain⟨q,hq,eq⟩:=this.1 ⟨p,hp,e⟩;exact k q hq eq
theorem Aky {R:Int→Int→Prop} {T1 T:List (Int×Nat)} (h:T1.map Prod.fst=T.map Prod.fst) (k:T.Pairwise fun a b=>R a.1 b.1):T1.Pairwise fun a b=>R a.1 b.1:=by
 have e:∀{L:List (Int×Nat)},(L.map Prod.fst).Pairwise R↔L.Pairwise fun a b=>R a.1 b.1:=fun{L}=>List.pairwise_map
 rw[← e]at k ⊢
 rw[h];exact k
theorem LQ.enter (h:LQ nx s) {m:Int} {T1:List (Int×Nat)} (hm:¬s.vis m) (g:Goes nx s m T1):LQ nx (Akx s m T1):=by
 have Aia:upd s.ix m s.n m=s.n:=Jv
 have hix:∀v,s.vis v→upd s.ix m s.n v=s.ix v:=fun v hv=>upd_ne fun e=>hm (e▸hv)
 have hlow:∀v,s.vis v→upd s.low m s.n v=s.low v:=fun v hv=>upd_ne fun e=>hm (e▸hv)
 have hS:∀v∈s.S++[m],v∈s.S∨v=m:=fun v hv=>by simpa using hv
 have hTS:∀p∈T1,p.1∈s.S:=fun p hp=>by obtain⟨q,hq,e⟩:=Aa8 g.nm hp;rw[← e];exact h.tS q hq
 have hTv:∀p∈T1,s.vis p.1:=fun p hp=>h.sV _ (hTS p hp)
 have hmS:m∉s.S:=fun hx=>hm (h.sV _ hx)
 have hoff:∀v,Vq ((m,0)::T1) v→v≠m∧Vq s.T v:=fun v hv=>⟨fun e=>hv (m,0) (by simp) e.symm,(Ah9 g.nm).1 fun p hp=>hv p (by simp[hp])⟩
 have htop:∀v∈s.S,∃p,s.T.head?=some p∧True:=fun v hv=>by
  obtain⟨p,hp,_⟩:=h.rt v hv
  cases hT:s.T with
  |nil=>rw[hT]at hp;cases hp
  |cons a r=>exact⟨a,rfl,trivial⟩
 have hhead:∀p,s.T.head?=some p→∀q∈s.T,s.ix q.1≤s.ix p.1:=fun p hp q hq=>by
  have hI:=h.tI
  cases hT:s.T with
  |nil=>rw[hT]at hq;cases hq
  |cons a r=>
   rw[hT]at hp hq hI
   simp only[List.head?_cons,Option.some.injEq]at hp
   subst hp
   rcases List.mem_cons.1 hq with rfl|hq
   ·exact Nat.le_refl _
   ·exact Nat.le_of_lt ((List.pairwise_cons.1 hI).1 q hq)
 refine⟨?_,?_,?_,?_,?_,?_,?_,?_,?_,?_,?_,?_,?_,?_,?_,?_⟩
 ·rintro v (hv|rfl)
  ·show upd s.ix m s.n v<s.n+1
   rw[hix v hv];have:=h.vlt v hv;omega
  ·show upd s.ix v s.n v<s.n+1
   rw[Jv];omega
 ·rintro v w (hv|rfl) (hw|rfl) e
  ·replace e:upd s.ix m s.n v=upd s.ix m s.n w:=e
   rw[hix v hv,hix w hw]at e;exact h.inj v w hv hw e
  ·replace e:upd s.ix w s.n v=upd s.ix w s.n w:=e
   rw[hix v hv,Jv]at e;have:=h.vlt v hv;omega
  ·replace e:upd s.ix v s.n v=upd s.ix v s.n w:=e
   rw[hix w hw,Jv]at e;have:=h.vlt w hw;omega
  ·rfl
 ·intro v hv
  rcases hS v hv with hv|rfl
  ·exact .inl (h.sV v hv)
  ·exact .inr rfl
 ·show(s.S++[m]).Pairwise fun a b=>upd s.ix m s.n a<upd s.ix m s.n b
  rw[List.pairwise_append]
  refine⟨h.sI.imp_of_mem fun ha hb hab=>by rw[hix _ (h.sV _ ha),hix _ (h.sV _ hb)];exact hab,List.pairwise_singleton _ _,fun a ha b hb=>?_⟩
  rw[List.mem_singleton]at hb
  subst hb
  rw[hix a (h.sV a ha),Aia];exact h.vlt a (h.sV a ha)
 ·intro p hp
  show p.1∈s.S++[m]
  rcases List.mem_cons.1 hp with rfl|hp
  ·simp
  ·simp[hTS p hp]
 ·show((m,0)::T1).Pairwise fun a b=>upd s.ix m s.n b.1<upd s.ix m s.n a.1
  refine List.pairwise_cons.2 ⟨fun p hp=>?_,?_⟩
  ·rw[hix _ (hTv p hp),Aia];exact h.vlt _ (hTv p hp)
  ·have hp:=Aky (R:=fun a b=>s.ix b<s.ix a) g.nm h.tI
   exact hp.imp_of_mem fun ha hb hab=>by rw[hix _ (hTv _ ha),hix _ (hTv _ hb)];exact hab
 ·intro p hp v hv hle
  replace hle:upd s.ix m s.n p.1≤upd s.ix m s.n v:=hle
  rcases List.mem_cons.1 hp with rfl|hp
  ·rcases hS v hv with hv|rfl
   ·rw[hix v (h.sV v hv)]at hle
    replace hle:upd s.ix m s.n m≤s.ix v:=hle
    rw[Aia]at hle;have:=h.vlt v (h.sV v hv);omega
   ·exact .refl
  ·obtain⟨q,hq,e⟩:=Aa8 g.nm hp
   have hpS:=hTS p hp
   rcases hS v hv with hv|rfl
   ·rw[hix _ (hTv p hp),hix v (h.sV v hv)]at hle
    rw[← e]at hle ⊢;exact h.tR q hq v hv hle
   ·obtain⟨r,hr,_⟩:=htop p.1 hpS
    have h1:=hhead r hr q hq
    have hrm:r∈s.T:=List.mem_of_head? hr
    rw[← e]
    exact .step (h.tR q hq r.1 (h.tS r hrm) h1) (g.top r hr)
 ·intro p hp
  rcases List.mem_cons.1 hp with rfl|hp
  ·exact⟨Nat.zero_le _,fun j w hj=>absurd hj (Nat.not_lt_zero _)⟩
  ·rcases g.old p hp with hq|⟨q,hq,e1,e2,e3⟩
   ·exact⟨(h.tA p hq).1,fun j w hj hw=>.inl ((h.tA p hq).2 j w hj hw)⟩
   ·have hqm:q∈s.T:=List.mem_of_head? hq
    have hk:=h.tA q hqm
    rw[e1]at hk
    have hlt:q.2<(nx p.1).length:=(List.getElem?_eq_some_iff.1 e3).1
    refine⟨by omega,fun j w hj hw=>?_⟩
    by_cases hjq:j<q.2
    ·exact .inl (hk.2 j w hjq hw)
    ·obtain rfl:j=q.2:=by omega
     rw[e3]at hw
     exact .inr (Option.some.inj hw).symm
 ·rintro v hv ho w hw
  obtain⟨o1,o2⟩:=hoff v ho
  rcases hv with hv|hv
  ·exact .inl (h.lf v hv o2 w hw)
  ·exact absurd hv o1
 ·rintro v hv hns w hw
  have AfM:v∉s.S∧v≠m:=⟨fun h=>hns (by show v∈s.S++[m];simp[h]),fun h=>hns (by show v∈s.S++[m];simp[h])⟩
  rcases hv with hv|hv
  ·obtain⟨a,b⟩:=h.pp v hv AfM.1 w hw
   refine⟨.inl a,fun hx=>?_⟩
   rcases hS w hx with hx|rfl
   ·exact b hx
   ·exact hm a
  ·exact absurd hv AfM.2
 ·intro v hv
  show upd s.low m s.n v≤upd s.ix m s.n v∧∃w∈s.S++[m],upd s.ix m s.n w=upd s.low m s.n v∧ZO nx v w
  rcases hS v hv with hv|rfl
  ·rw[hlow v (h.sV v hv),hix v (h.sV v hv)]
   obtain⟨a,w,b,c,d⟩:=h.lo v hv
   exact⟨a,w,by simp[b],by rw[hix w (h.sV w b)];exact c,d⟩
  ·rw[Jv,Jv]
   exact⟨Nat.le_refl _,v,by simp,Jv,.refl⟩
 ·intro v hv w hw he hd
  show upd s.low m s.n v≤upd s.ix m s.n w
  rcases hS v hv with hv|rfl
  ·rw[hlow v (h.sV v hv)]
   have hvS:v∈s.S:=hv
   rcases hS w hw with hw|rfl
   ·rw[hix w (h.sV w hw)]
    refine h.le v hv w hw he fun p hp e=>?_
    obtain⟨q,hq,eq⟩:=(Qz g.nm).2 ⟨p,hp,e⟩
    obtain⟨j,hj,hjw⟩:=hd q (by show q∈(m,0)::T1;simp[hq]) eq
    rcases g.old q hq with ho|⟨r,hr,a1,a2,a3⟩
    ·have:q=p:=by
       have hI:=h.tI
       refine Classical.byContradiction fun hne=>?_
       have hlt:s.ix q.1≠s.ix p.1:=by
        obtain⟨i1,hi1,rfl⟩:=List.getElem_of_mem ho
        obtain⟨i2,hi2,rfl⟩:=List.getElem_of_mem hp
        rcases Nat.lt_trichotomy i1 i2 with hh|hh|hh
        ·have:=List.pairwise_iff_getElem.1 hI i1 i2 hi1 hi2 hh;omega
        ·subst hh;exact absurd rfl hne
        ·have:=List.pairwise_iff_getElem.1 hI i2 i1 hi2 hi1 hh;omega
       exact hlt (by rw[eq,e])
     subst this
     exact⟨j,hj,hjw⟩
    ·have hrp:r=p:=by
       have hI:=h.tI
       have hrm:r∈s.T:=List.mem_of_head? hr
       refine Classical.byContradiction fun hne=>?_
       have hlt:s.ix r.1≠s.ix p.1:=by
        obtain⟨i1,hi1,rfl⟩:=List.getElem_of_mem hrm
        obtain⟨i2,hi2,rfl⟩:=List.getElem_of_mem hp
        rcases Nat.lt_trichotomy i1 i2 with hh|hh|hh
        ·have:=List.pairwise_iff_getElem.1 hI i1 i2 hi1 hi2 hh;omega
        ·subst hh;exact absurd rfl hne
        ·have:=List.pairwise_iff_getElem.1 hI i2 i1 hi2 hi1 hh;omega
       exact hlt (by rw[a1,eq,e])
     subst hrp
     by_cases hjr:j<r.2
     ·exact⟨j,hjr,hjw⟩
     ·exfalso
      have:j=r.2:=by omega
      subst this
      rw[← eq,a3]at hjw
      have:=Option.some.inj hjw
      subst this
      exact hmS hw
   ·rw[Jv]
    have:=(h.lo v hvS).1
    have:=h.vlt v (h.sV v hvS)
    omega
  ·obtain⟨j,hj,_⟩:=hd (v,0) (by show(v,0)∈(v,0)::T1;simp) rfl
   exact absurd hj (Nat.not_lt_zero _)
 ·intro v hv ho p hp hlt hmax
  obtain⟨o1,o2⟩:=hoff v ho
  have hv':v∈s.S:=(hS v hv).resolve_right o1
  replace hlt:upd s.ix m s.n p.1<upd s.ix m s.n v:=hlt
  show upd s.low m s.n p.1≤upd s.low m s.n v
  rw[hix v (h.sV v hv')]at hlt
  rcases List.mem_cons.1 hp with rfl|hp
  ·replace hlt:upd s.ix m s.n m<s.ix v:=hlt
   rw[Aia]at hlt;have:=h.vlt v (h.sV v hv');omega
  ·rw[hix _ (hTv p hp)]at hlt
   rw[hlow _ (hTv p hp),hlow v (h.sV v hv')]
   obtain⟨q,hq,e⟩:=Aa8 g.nm hp
   rw[← e]at hlt ⊢
   refine h.lc v hv' o2 q hq hlt fun r hr hrl=>?_
   obtain⟨r',hr',e'⟩:=(Qz g.nm).2 ⟨r,hr,rfl⟩
   have:=hmax r' (by show r'∈(m,0)::T1;simp[hr']) (by show upd s.ix m s.n r'.1<upd s.ix m s.n v;rw[hix _ (hTv r' hr'),hix v (h.sV v hv'),e'];exact hrl)
   replace this:upd s.ix m s.n r'.1≤upd s.ix m s.n p.1:=this
   rw[hix _ (hTv r' hr'),hix _ (hTv p hp),e',←e]at this
   exact this
 ·intro v hv ho
  obtain⟨o1,o2⟩:=hoff v ho
  have hv':v∈s.S:=(hS v hv).resolve_right o1
  show upd s.low m s.n v<upd s.ix m s.n v
  rw[hlow v (h.sV v hv'),hix v (h.sV v hv')]
  exact h.ll v hv' o2
 ·intro v hv
  rcases hS v hv with hv|rfl
  ·obtain⟨p,hp,hle⟩:=h.rt v hv
   obtain⟨q,hq,e⟩:=(Qz g.nm).2 ⟨p,hp,rfl⟩
   refine⟨q,by show q∈(m,0)::T1;simp[hq],?_⟩
   show upd s.ix m s.n q.1≤upd s.ix m s.n v
   rw[hix _ (hTv q hq),hix v (h.sV v hv),e];exact hle
  ·exact⟨(v,0),by show(v,0)∈(v,0)::T1;simp,Nat.le_refl _⟩
 ·rintro v hv hns
  have AfM:v∉s.S∧v≠m:=⟨fun h=>hns (by show v∈s.S++[m];simp[h]),fun h=>hns (by show v∈s.S++[m];simp[h])⟩
  rcases hv with hv|hv
  ·exact h.ok v hv AfM.1
  ·exact absurd hv AfM.2
theorem LQ.uniq (h:LQ nx s) {p q:Int×Nat} (hp:p∈s.T) (hq:q∈s.T) (e:p.1=q.1):p=q:=by
 have hI:=h.tI
 refine Classical.byContradiction fun hne=>?_
 have hlt:s.ix p.1≠s.ix q.1:=by
  obtain⟨i1,hi1,rfl⟩:=List.getElem_of_mem hp
  obtain⟨i2,hi2,rfl⟩:=List.getElem_of_mem hq
  rcases Nat.lt_trichotomy i1 i2 with hh|hh|hh
  ·have:=List.pairwise_iff_getElem.1 hI i1 i2 hi1 hi2 hh;omega
  ·subst hh;exact absurd rfl hne
  ·have:=List.pairwise_iff_getElem.1 hI i2 i1 hi2 hi1 hh;omega
 exact hlt (by rw[e])
theorem LQ.below (h:LQ nx s) {t:Int} {k:Nat} {T0:List (Int×Nat)} (hT:s.T=(t,k)::T0) {p:Int×Nat} (hp:p∈T0):s.ix p.1<s.ix t:=by
 have hI:=h.tI
 rw[hT]at hI
 exact(List.pairwise_cons.1 hI).1 p hp
abbrev Aib (s:TJ) (t:Int) (k:Nat) (T0:List (Int×Nat)) (m:Int):TJ:=⟨s.n,s.vis,s.ix,if m∈s.S then upd s.low t (min (s.low t) (s.ix m))else s.low,s.S,(t,k+1)::T0,s.sm⟩
theorem LQ.see (h:LQ nx s) {t m:Int} {k:Nat} {T0:List (Int×Nat)} (hT:s.T=(t,k)::T0) (hk:(nx t)[k]?=some m) (hm:s.vis m):LQ nx (Aib s t k T0 m):=by
 have hmem:∀p,p∈(t,k+1)::T0→p=(t,k+1)∨p∈T0:=fun p hp=>List.mem_cons.1 hp
 have h0:(t,k)∈s.T:=by rw[hT];simp
 have hin:∀p∈T0,p∈s.T:=fun p hp=>by rw[hT];simp[hp]
 have VH:=h.tS _ h0
 have hmk:m∈nx t:=List.mem_of_getElem? hk
 have hoff:∀v,Vq ((t,k+1)::T0) v→Vq s.T v∧v≠t:=fun v hv=>⟨fun p hp e=>by
  rw[hT]at hp
  rcases List.mem_cons.1 hp with rfl|hp
  ·exact hv (t,k+1) (by simp) e
  ·exact hv p (by simp[hp]) e,fun e=>hv (t,k+1) (by simp) e.symm⟩
 have hlow:(Aib s t k T0 m).low=if m∈s.S then upd s.low t (min (s.low t) (s.ix m))else s.low:=rfl
 have hle:∀v,(Aib s t k T0 m).low v≤s.low v:=fun v=>by
  classical
  rw[hlow]
  split
  ·by_cases e:v=t
   ·rw[e,Jv];omega
   ·rw[upd_ne e];exact Nat.le_refl _
  ·exact Nat.le_refl _
 have hne:∀v,v≠t→(Aib s t k T0 m).low v=s.low v:=fun v e=>by
  classical
  rw[hlow]
  split
  ·rw[upd_ne e]
  ·rfl
 have hbk:∀p∈(t,k+1)::T0,∃q∈s.T,q.1=p.1:=fun p hp=>by
  rcases hmem p hp with rfl|hp
  ·exact⟨_,h0,rfl⟩
  ·exact⟨p,hin p hp,rfl⟩
 have hfw:∀q∈s.T,∃p∈(t,k+1)::T0,p.1=q.1:=fun q hq=>by
  rw[hT]at hq
  rcases List.mem_cons.1 hq with rfl|hq
  ·exact⟨(t,k+1),by simp,rfl⟩
  ·exact⟨q,by simp[hq],rfl⟩
 refine⟨h.vlt,h.inj,h.sV,h.sI,?_,?_,?_,?_,?_,h.pp,?_,?_,?_,?_,?_,h.ok⟩
 ·intro p hp
  obtain⟨q,hq,e⟩:=hbk p hp
  rw[← e];exact h.tS q hq
 ·have hI:=h.tI
  rw[hT]at hI
  exact List.pairwise_cons.2 ⟨(List.pairwise_cons.1 hI).1,(List.pairwise_cons.1 hI).2⟩
 ·intro p hp v hv hlt
  obtain⟨q,hq,e⟩:=hbk p hp
  replace hlt:s.ix p.1≤s.ix v:=hlt
  rw[← e]at hlt ⊢;exact h.tR q hq v hv hlt
 ·intro p hp
  rcases hmem p hp with rfl|hp
  ·have hA:=h.tA _ h0
   have hl:k<(nx t).length:=(List.getElem?_eq_some_iff.1 hk).1
   refine⟨hl,fun j w hj hw=>?_⟩
   by_cases hjk:j<k
   ·exact hA.2 j w hjk hw
   ·replace hj:j<k+1:=hj
    obtain rfl:j=k:=by omega
    replace hw:(nx t)[j]?=some w:=hw
    rw[hk]at hw;cases hw;exact hm
  ·exact h.tA p (hin p hp)
 ·intro v hv ho
  exact h.lf v hv (hoff v ho).1
 ·intro v hv
  obtain⟨a,w,b,c,d⟩:=h.lo v hv
  refine⟨Nat.le_trans (hle v) a,?_⟩
  by_cases e:v=t
  ·subst e
   classical
   rw[hlow]
   split
   ·rename_i hmS
    rw[Jv]
    by_cases hc:s.low v≤s.ix m
    ·exact⟨w,b,by show s.ix w=_;rw[c];omega,d⟩
    ·exact⟨m,hmS,by show s.ix m=_;omega,.one hmk⟩
   ·exact⟨w,b,c,d⟩
  ·exact⟨w,b,by show s.ix w=_;rw[hne v e];exact c,d⟩
 ·intro v hv w hw he hd
  by_cases e:v=t
  ·subst e
   obtain⟨j,hj,hjw⟩:=hd (v,k+1) (by show(v,k+1)∈(v,k+1)::T0;simp) rfl
   by_cases hjk:j<k
   ·refine Nat.le_trans (hle v) (h.le v hv w hw he fun p hp e=>?_)
    obtain rfl:=h.uniq hp h0 e
    exact⟨j,hjk,hjw⟩
   ·replace hj:j<k+1:=hj
    obtain rfl:j=k:=by omega
    rw[hk]at hjw
    cases hjw
    classical
    rw[hlow,if_pos hw,Jv]
    exact Nat.min_le_right _ _
  ·rw[hne v e]
   refine h.le v hv w hw he fun p hp ep=>?_
   rw[hT]at hp
   rcases List.mem_cons.1 hp with rfl|hp
   ·exact absurd ep.symm e
   ·exact hd p (by show p∈(t,k+1)::T0;simp[hp]) ep
 ·intro v hv ho p hp hlt hmax
  obtain⟨o1,o2⟩:=hoff v ho
  rw[hne v o2]
  obtain⟨q,hq,e⟩:=hbk p hp
  refine Nat.le_trans (hle p.1) ?_
  rw[← e]at hlt ⊢
  refine h.lc v hv o1 q hq hlt fun r hr hrl=>?_
  obtain⟨r',hr',e'⟩:=hfw r hr
  have:=hmax r' hr' (by rw[e'];exact hrl)
  rw[e',←e]at this
  exact this
 ·intro v hv ho
  obtain⟨o1,o2⟩:=hoff v ho
  rw[hne v o2]
  exact h.ll v hv o1
 ·intro v hv
  obtain⟨p,hp,hl⟩:=h.rt v hv
  obtain⟨q,hq,e⟩:=hfw p hp
  exact⟨q,hq,by show s.ix q.1≤_;rw[e];exact hl⟩
end
section
variable {nx:Int→List Int} {s:TJ}
end
theorem Agf {α:Type} {l r:List α} {i:Nat} (h:i<l.length):nth (l++r) i=nth l i:=by
 rw[AA,AA,List.getElem?_append_left h]
theorem AdB {α:Type} {l:List α} {x:α}:nth (l++[x]) l.length=some x:=by
 rw[AA,List.getElem?_append_right (Nat.le_refl _)];simp
theorem Vt {α:Type} {l:List α} {i:Nat} {x y:α} (h:nth l i=some y):nth (l.set i x) i=some x:=by
 rw[AA,List.getElem?_set_self (BH h)]
theorem ZB {α:Type} {l:List α} {i j:Nat} {x:α} (h:i≠j):nth (l.set i x) j=nth l j:=by
 rw[AA,AA,List.getElem?_set_ne h]
structure Om (σ σ':List Obj) (F:List Nat):Prop where
 len:σ.length≤σ'.length
 eq:∀o,o<σ.length→o∉F→nth σ' o=nth σ o
theorem Om.refl {σ:List Obj} {F:List Nat}:Om σ σ F:=⟨Nat.le_refl _,fun _ _ _=>rfl⟩
theorem Om.trans {σ σ1 σ2:List Obj} {F F':List Nat} (h:Om σ σ1 F) (k:Om σ1 σ2 F'):Om σ σ2 (F++F'):=
 ⟨Nat.le_trans h.len k.len,fun o ho hf=>by
  rw[List.mem_append]at hf
  exact(k.eq o (Nat.lt_of_lt_of_le ho h.len) fun e=>hf (.inr e)).trans (h.eq o ho fun e=>hf (.inl e))⟩
theorem Om.mono {σ σ':List Obj} {F F':List Nat} (h:Om σ σ' F) (hf:∀o∈F,o∈F'∨σ.length≤o):Om σ σ' F':=
 ⟨h.len,fun o ho hn=>h.eq o ho fun hm=>(hf o hm).elim hn fun h=>by omega⟩
theorem Om.get {σ σ':List Obj} {F:List Nat} {o:Nat} {x:Obj} (h:Om σ σ' F) (hx:nth σ o=some x) (hf:o∉F):nth σ' o=some x:=(h.eq o (BH hx) hf).trans hx
theorem Qw {σ:List Obj} {y:Obj} {K:List Obj→Prop} (h:∀σ',Om σ σ' []→nth σ' σ.length=some y→σ'.length=σ.length+1→K σ'):Zj σ y K:=
 (Ob _ _ _).2 (h _ ⟨by simp,fun o ho _=>Agf ho⟩ AdB (by simp))
theorem Sz {σ:List Obj} {o:Nat} {x y:Obj} {K:List Obj→Prop} (hx:nth σ o=some x) (h:∀σ',Om σ σ' [o]→nth σ' o=some y→σ'.length=σ.length→K σ'):QA σ o y K:=
 (Eu _ _ _ _).2 (h _ ⟨by simp,fun p hp hn=>ZB (by simpa using fun e=>hn (by simp[e]))⟩ (Vt hx) (by simp))
structure GS where
 a:Nat
 b:Nat
 c:Nat
 d:Nat
 e:Nat
 f:Nat
structure HS (G:GS) (nxM:List (AV×AV)) (cn:Bool) (σ:List Obj) (ixM Ail:List (Int×Int)) (stk:AV) (onM:List (Int×Bool)) (smM:List (Int×Int)):Prop where
 h1:nth σ 1=some (.mp G.a cn nxM)
 h2:nth σ 2=some (.mp G.b true (Af7 ixM))
 h3:nth σ 3=some (.mp G.c true (Af7 Ail))
 h4:nth σ 4=some (.mp G.d true (Dj onM))
 h5:nth σ 5=some (.mp G.e true (Af7 smM))
 h6:nth σ 6=some (.arr G.f 6 true false [.agg [.map 1 G.a,.map 2 G.b,.map 3 G.c,stk,.map 4 G.d,.map 5 G.e]])
section
variable {G:GS} {nxM:List (AV×AV)} {cn:Bool} {σ:List Obj} {ixM Ail smM:List (Int×Int)} {onM:List (Int×Bool)} {stk:AV}
theorem HS.keep {σ':List Obj} {F:List Nat} (h:HS G nxM cn σ ixM Ail stk onM smM) (f:Om σ σ' F) (hF:∀o∈F,6<o):HS G nxM cn σ' ixM Ail stk onM smM:=by
 have hn:∀o,o≤6→o∉F:=fun o ho hm=>by have:=hF o hm;omega
 exact⟨f.get h.h1 (hn _ (by omega)),f.get h.h2 (hn _ (by omega)),f.get h.h3 (hn _ (by omega)),f.get h.h4 (hn _ (by omega)),f.get h.h5 (hn _ (by omega)),f.get h.h6 (hn _ (by omega))⟩
end
structure Del (p:GE→Prop) [DecidablePred p] (L W:List GE) (i j:Nat):Prop where
 len:W.length=L.length
 le:i≤j
 new:W.take i=(L.take j).filter fun e=>decide (p e)
 old:∀k,j≤k→W[k]?=L[k]?
section
variable {p:GE→Prop} [DecidablePred p] {L W:List GE} {i j:Nat}
theorem Del.start {i:Nat} (h:i<L.length) (hf:¬p L[i]) (hb:∀e∈L.take i,p e):Del p L L i (i+1):=by
 refine⟨rfl,by omega,?_,fun _ _=>rfl⟩
 rw[List.take_succ_eq_append_getElem h,List.filter_append,List.filter_eq_self.2 fun e he=>decide_eq_true (hb e he)]
 simp[hf]
theorem Del.at (h:Del p L W i j) (hj:j<L.length):W[j]'(by rw[h.len];exact hj)=L[j]:=by
 have:=h.old j (Nat.le_refl _)
 rw[List.getElem?_eq_getElem hj,List.getElem?_eq_getElem (by rw[h.len];exact hj)]at this
 simpa using this
theorem Del.keep (h:Del p L W i j) (hj:j<L.length) (hp:p L[j]):Del p L (W.set i L[j]) (i+1) (j+1):=by
 have hi:i<W.length:=by rw[h.len];have:=h.le;omega
 refine⟨by simp[h.len],by have:=h.le;omega,?_,fun k hk=>?_⟩
 ·rw[List.take_succ_eq_append_getElem (by simpa using hi),List.getElem_set_self,List.take_set_of_le (Nat.le_refl _),h.new,List.take_succ_eq_append_getElem hj,List.filter_append]
  simp[hp]
 ·rw[List.getElem?_set_ne (by have:=h.le;omega)];exact h.old k (by omega)
theorem Del.drop (h:Del p L W i j) (hj:j<L.length) (hp:¬p L[j]):Del p L W i (j+1):=by
 refine⟨h.len,by have:=h.le;omega,?_,fun k hk=>h.old k (by omega)⟩
 rw[h.new,List.take_succ_eq_append_getElem hj,List.filter_append]
 simp[hp]
theorem Del.all (h:Del p L W i j) (hj:¬j<L.length):W.take i=L.filter fun e=>decide (p e):=by
 rw[h.new,List.take_of_length_le (by omega)]
end
theorem Yd {l:List (Int×Int)} (hl:l.length<2^40):A8 (Ad tab) 53 [.sl true (vs pv l)] ⟨[],0⟩ fun out s'=>∃o g,out=.ok (.own o g 0 (vs pv l).length)∧nth s'.σ o=some (.arr g 2 true true (vs pv l)):=by
 refine Ar rfl rfl ?_
 (conv=>whnf);repeat' (first|(refine AnI (f:=pv) (l:=[]) (l':=l) rfl WY rfl (by simp;omega) ?_;conv=>whnf)|(refine kA ?_;conv=>whnf)|(refine Br.mk (fun hc=>?_) fun hc=>?_<;>first|exact hc.elim|conv=>whnf)|(refine kB ?_))
 all_goals first|exact⟨0,_,congrArg (fun n=>AX.ok (.own 0 _ 0 n)) ((Nat.zero_add _).trans (lV l).symm),rfl⟩
theorem Aem:A8 (Ad tab) 53 [.sl false []] ⟨[],0⟩ fun out _=>out=.ok (.sl false []):=by
 refine Ar rfl rfl ?_
 (conv=>whnf);repeat' (first  |(refine kA ?_;conv=>whnf)|(refine Br.mk (fun hc=>?_) fun hc=>?_<;>first|exact hc.elim|conv=>whnf)|(refine kB ?_))
 all_goals first|rfl
def Dc (g:GG):List Int:=g.nodes.map GN.id
theorem MF (g:GG):(Dc g).length=g.nodes.length:=by simp[Dc]
theorem Px {g:GG} {i:Nat} (h:i<g.nodes.length):(Dc g)[i]'(by rw[MF];exact h)=(g.nodes[i]).id:=by simp[Dc]
theorem Zf {l:List Int} (h:∀i (hi:i<l.length),0<i→l[i-1]<l[i]):l.Pairwise (· <·):=by
 rw[List.pairwise_iff_getElem]
 intro i j hi hj hij
 induction j with
 |zero=>omega
 |succ j ih=>
  have h1:=h (j+1) hj (by omega)
  simp only[Nat.add_sub_cancel]at h1
  by_cases e:i=j
  ·subst e;exact h1
  ·exact Int.lt_trans (ih (by omega) (by omega)) h1
theorem WI {g:GG} (h:AB g=0):(Dc g).Pairwise (· <·):=Zf fun i hi h0=>by
 have hi':i<g.nodes.length:=by rw[← MF];exact hi
 rw[Px (by omega),Px hi']
 exact(KO hi' ((Jg h).2.2.1 i hi')).1 h0
theorem LZ {g:GG} (h:AB g=0):(Dc g).Nodup:=(WI h).imp fun h=>by omega
theorem L8 {g:GG} (h:AB g=0):∀e∈g.edges,e.fr∈Dc g∧e.to∈Dc g:=fun e he=>by
 obtain⟨i,hi,rfl⟩:=List.getElem_of_mem he
 have:=JG hi ((Jg h).2.2.2 i hi)
 exact⟨this.2.2.2.1,this.2.2.2.2.1⟩
abbrev ZF (M:List (Int×AV)):List (AV×AV):=IW (.int .i64) id M
theorem fkA {M:List (Int×AV)} {k:Int} {v:AV} {K:Option (Nat×AV)→Prop} (h:EH M k=some v) (hK:∀i,K (some (i,v))):RU .int (.int .i64 k) (ZF M) K:=
 LD (fv:=id) Ic (fun e=>by rw[h]at e;cases e) (fun i w e=>by rw[h]at e;cases e;exact hK i)
theorem Apu {M:List (Int×AV)} {k:Int} {v:AV} {K:List (AV×AV)→Prop} (h:K (ZF (Fz M k v))):Aci .int (.int .i64 k) v (ZF M) K:=U9 (fv:=id) Ic h
noncomputable def E5 (types:List (List UInt8)) (L:Int→List (Int×Bool)) (e:GE):Int→List (Int×Bool):=
 if e.fr≠e.to∧HT types e then fun v=>if v=e.to then Fz (L e.to) e.fr true else if v=e.fr then Fz (L e.fr) e.to true else L v else L
noncomputable def JD (types:List (List UInt8)) (es:List GE):Int→List (Int×Bool):=es.foldl (E5 types) fun _=>[]
structure NbS (σ:List Obj) (M:List (Int×AV)) (L:Int→List (Int×Bool)) (ids:List Int):Prop where
 keys:M.map Prod.fst=ids
 pt:∀v∈ids,∃o g c,EH M v=some (.map o g)∧nth σ o=some (.mp g c (Dj (L v)))∧1<o
 inj:∀v w o g h,EH M v=some (.map o g)→EH M w=some (.map o h)→v=w
theorem AdE {α:Type} {M:List (Int×α)} {v:Int} {x:α} (h:v∉M.map Prod.fst):Fz M v x=M++[(v,x)]:=by
 induction M with
 |nil=>rfl
 |cons p M ih=>
  simp only[List.map_cons,List.mem_cons,not_or]at h
  simp only[Fz]
  rw[if_neg (fun e=>h.1 e),ih h.2]
  rfl
section
variable {σ σ':List Obj} {M:List (Int×AV)} {L L':Int→List (Int×Bool)} {ids:List Int} {F:List Nat}
theorem NbS.keep (h:NbS σ M L ids) (f:Om σ σ' F) (hF:∀o∈F,o≤1∨σ.length≤o):NbS σ' M L ids:=
 ⟨h.keys,fun v hv=>by
  obtain⟨o,g,c,h1,h2,h3⟩:=h.pt v hv
  exact⟨o,g,c,h1,f.get h2 (fun hm=>by have:=hF o hm;have:=BH h2;omega),h3⟩,h.inj⟩
theorem NbS.new (h:NbS σ M L ids) (f:Om σ σ' F) (hF:∀o∈F,o≤1∨σ.length≤o) {v:Int} (hv:v∉ids) {o g:Nat} {c:Bool} (ho:σ.length≤o) (h1:1<o) (hq:nth σ' o=some (.mp g c (Dj []))) (hL:L v=[]):NbS σ' (Fz M v (.map o g)) L (ids++[v]):=by
 have hk:v∉M.map Prod.fst:=by rw[h.keys];exact hv
 have hold:∀w o' g',EH M w=some (.map o' g')→o'<σ.length:=fun w o' g' e=>by
  by_cases hw:w∈ids
  ·obtain⟨o2,g2,c2,e2,e3,_⟩:=h.pt w hw
   rw[e]at e2;cases e2;exact BH e3
  ·rw[Hu.2 (by show w∉M.map Prod.fst;rw[h.keys];exact hw)]at e;cases e
 refine⟨by rw[AdE hk,List.map_append,h.keys];rfl,fun w hw=>?_,fun w w' o' g' h' e e'=>?_⟩
 ·by_cases e:w=v
  ·subst e;exact⟨o,g,c,by rw[I5,if_pos rfl],by rw[hL];exact hq,h1⟩
  ·rcases List.mem_append.1 hw with hw|hw
   ·obtain⟨o2,g2,c2,e1,e2,e3⟩:=(h.keep f hF).pt w hw
    exact⟨o2,g2,c2,by rw[I5,if_neg e];exact e1,e2,e3⟩
   ·exact absurd (List.mem_singleton.1 hw) e
 ·rw[I5]at e e'
  by_cases hw:w=v
  ·by_cases hw':w'=v
   ·rw[hw,hw']
   ·rw[if_pos hw]at e;rw[if_neg hw']at e';have:=hold _ _ _ e';cases e;omega
  ·by_cases hw':w'=v
   ·rw[if_neg hw]at e;rw[if_pos hw']at e';have:=hold _ _ _ e;cases e';omega
   ·rw[if_neg hw]at e;rw[if_neg hw']at e';exact h.inj _ _ _ _ _ e e'
theorem NbS.put (h:NbS σ M L ids) {o g:Nat} {c:Bool} {v:Int} (hm:EH M v=some (.map o g)) (f:Om σ σ' [o]) {S:List (Int×Bool)} (hq:nth σ' o=some (.mp g c (Dj S))) (hL:∀w,L' w=if w=v then S else L w):NbS σ' M L' ids:=
 ⟨h.keys,fun w hw=>by
  obtain⟨o2,g2,c2,e1,e2,e3⟩:=h.pt w hw
  by_cases e:w=v
  ·subst e
   rw[hm]at e1;cases e1
   exact⟨_,_,c,hm,by rw[hL,if_pos rfl];exact hq,e3⟩
  ·exact⟨o2,g2,c2,e1,by rw[hL,if_neg e];exact f.get e2 (fun hx=>e (h.inj _ _ _ _ _ e1 (by rw[List.mem_singleton.1 hx];exact hm))),e3⟩,h.inj⟩
end
theorem Sl {σ:List Obj}:∀{L:List (Int×Bool)} {m:Nat},L.length+1≤m→Oy σ m (Dj L)=some (Dj L)
 |[],m,_=>by cases m<;>rfl
 |p::L,m,h=>by
  simp only[List.length_cons]at h
  obtain⟨k,rfl⟩:∃k,m=k+1+1:=⟨m-2,by omega⟩
  show(match snap σ (k+1) (AV.bool p.2),Oy σ (k+1) (Dj L)with|some a,some b=>if(AV.int .i64 p.1).closed then some ((AV.int .i64 p.1,a)::b)else none|_,_=>none)=_
  rw[Sl (L:=L) (m:=k+1) (by omega)]
  rfl
theorem Va {σ:List Obj} {D:Nat} {w:Int→AV}:∀{M:List (Int×AV)} {m:Nat},(∀ p∈M,∀k,D≤k→snap σ k p.2=some (w p.1))→D+M.length≤m→Oy σ m (ZF M)=some (M.map fun p=>(.int .i64 p.1,w p.1))
 |[],m,_,_=>by cases m<;>rfl
 |p::M,m,h,hm=>by
  simp only[List.length_cons]at hm
  obtain⟨k,rfl⟩:∃k,m=k+1:=⟨m-1,by omega⟩
  show(match snap σ k p.2,Oy σ k (ZF M)with|some a,some b=>if(AV.int .i64 p.1).closed then some ((AV.int .i64 p.1,a)::b)else none|_,_=>none)=_
  rw[Va (M:=M) (m:=k) (fun q hq=>h q (by simp[hq])) (by omega),h p (by simp) k (by omega)]
  rfl
theorem Acn {α:Type} {M:List (Int×α)} {k:Int} {v:α}:(Fz M k v).length≤M.length+1:=by
 induction M with
 |nil=>simp[Fz]
 |cons p M ih=>
  simp only[Fz]
  split
  ·simp
  ·simp only[List.length_cons];omega
theorem QN {types:List (List UInt8)} {v:Int}:∀{es:List GE} {L:Int→List (Int×Bool)} {n:Nat},(∀ v,(L v).length≤n)→((es.foldl (E5 types) L) v).length≤n+es.length
 |[],L,n,h=>h v
 |e::es,L,n,h=>by
  have:=QN (types:=types) (v:=v) (es:=es) (L:=E5 types L e) (n:=n+1) (fun u=>by
   unfold E5
   split
   ·dsimp only
    split
    ·exact Nat.le_trans Acn (by have:=h e.to;omega)
    ·split
     ·exact Nat.le_trans Acn (by have:=h e.fr;omega)
     ·have:=h u;omega
   ·have:=h u;omega)
  simp only[List.foldl_cons,List.length_cons]
  omega
theorem Me {α:Type} {M:List (Int×α)} {p:Int×α} (h:(M.map Prod.fst).Nodup) (hp:p∈M):EH M p.1=some p.2:=by
 induction M with
 |nil=>cases hp
 |cons q M ih=>
  rw[List.map_cons,List.nodup_cons]at h
  simp only[EH]
  rcases List.mem_cons.1 hp with rfl|hp
  ·rw[if_pos rfl]
  ·rw[if_neg (fun e=>h.1 (List.mem_map.2 ⟨p,hp,e⟩)),ih h.2 hp]
theorem NbS.snap {σ:List Obj} {M:List (Int×AV)} {L:Int→List (Int×Bool)} {ids:List Int} (h:NbS σ M L ids) (hnd:ids.Nodup) {n:Nat} (hn:∀v,(L v).length≤n) {cl:Bool} {o g:Nat} (h1:nth σ o=some (.mp g cl (ZF M))) {d:Nat} (hd:n+ids.length+10≤d):snap σ d (.map o g)=some (.fmap (ids.map fun v=>(.int .i64 v,.fmap (Dj (L v))))):=by
 obtain⟨k,rfl⟩:∃k,d=k+1:=⟨d-1,by omega⟩
 have hl:M.length=ids.length:=by rw[← h.keys,List.length_map]
 have hs:=Va (σ:=σ) (D:=n+5) (w:=fun v=>.fmap (Dj (L v))) (M:=M) (m:=k) (fun p hp j hj=>by
  have hk:p.1∈ids:=by rw[← h.keys];exact List.mem_map.2 ⟨p,hp,rfl⟩
  obtain⟨o2,g2,c2,e1,e2,_⟩:=h.pt _ hk
  rw[Me (by rw[h.keys];exact hnd) hp,Option.some.injEq]at e1
  obtain⟨i,rfl⟩:∃i,j=i+1:=⟨j-1,by omega⟩
  rw[e1]
  have:=Sl (σ:=σ) (L:=L p.1) (m:=i) (by have:=hn p.1;omega)
  simp only[AI.snap,e2,if_true,this,Option.map_some]) (by omega)
 simp only[AI.snap,h1,if_true,hs,Option.map_some]
 rw[← h.keys,List.map_map]
 rfl
set_option maxHeartbeats 4000000 in
theorem OH {g:GG} (hg:g.ok) (hN:g.nodes.length≤1000) (hE:g.edges.length≤1000) (hck:AB g=0) {types:List (List UInt8)} {tn:Bool} (ht:types.length<2^63):Af (Ad tab) 55 [g.av,.sl tn (vs .str types)] (· =.fmap (g.nodes.map fun n=>(.int .i64 n.id,.fmap (Dj (JD types g.edges n.id))))):=by
 have hln:=hg.1
 have hle:=hg.2.2.2.1
 unfold Ln at hln hle
 have hnd:=LZ hck
 have Abx:=L8 hck
 refine Ac rfl rfl ?_
 (conv=>whnf);repeat' (first  |(refine kA ?_;conv=>whnf)|(refine Br.mk (fun hc=>?_) fun hc=>?_<;>first|exact hc.elim|conv=>whnf)|(refine kB ?_))
 refine Ap (fun m env s=>∃(i c cn:Nat) (cl:Bool) (σ:List Obj) (M:List (Int×AV)),m=g.nodes.length-i∧i≤g.nodes.length∧nth σ 0=some (.arr 0 4 true true [g.av])∧nth σ 1=some (.mp 1 cl (ZF M))∧NbS σ M (fun _=>[]) ((g.nodes.take i).map GN.id)∧env=[(1,.sl tn (vs .str types)),(2,.ref 0 0 0 0),(5,.map 1 1),(12,.sl g.nn (vs GN.av g.nodes)),(13,.int .i64 g.nodes.length),(14,.int .i64 i)]∧s=⟨σ,c⟩) ?_ _ _ _ ⟨0,_,0,_,_,[],rfl,by omega,rfl,rfl,⟨rfl,by simp,fun v w o g h e=>by cases e⟩,rfl,rfl⟩
 rintro _ _ _ ⟨i,c,cn,cl,σ,M,rfl,hi,h0,h1,hS,rfl,rfl⟩
 refine⟨rfl,?_⟩
 by_cases hlt:i<g.nodes.length
 ·have Aea:(g.nodes.take (i+1)).map GN.id=(g.nodes.take i).map GN.id++[(g.nodes[i]).id]:=by rw[List.take_succ_eq_append_getElem hlt,List.map_append];rfl
  have hni:(g.nodes[i]).id∉(g.nodes.take i).map GN.id:=by
   have h:=hnd
   rw[show Dc g=(g.nodes.take (i+1)).map GN.id++(g.nodes.drop (i+1)).map GN.id by rw[← List.map_append,List.take_append_drop];rfl,Aea,List.append_assoc,List.nodup_append]at h
   exact fun hm=>h.2.2 _ hm _ (by simp) rfl
  have hl1:=BH h1
  (conv=>whnf);repeat' (first|(refine Qw fun σ3 f3 h3 l3=>?_;have h03:=f3.get h02 (by simp);have h13:=f3.get h12 (by simp);have h23:=f3.get h2 (by simp);conv=>whnf)|(refine Qw fun σ1 f1 h2 l1=>?_;have h01:=f1.get h0 (by simp);have h11:=f1.get h1 (by simp);conv=>whnf)|(refine Sz h13 fun σ4 f4 h4 l4=>?_;have h04:=f4.get h03 (by simp);conv=>whnf)|(refine Sz h2 fun σ2 f2 h2 l2=>?_;have h02:=f2.get h01 (by simp;omega);have h12:=f2.get h11 (by simp;omega);conv=>whnf)|(rw [h2];conv=>whnf)|(rw [h23];conv=>whnf)|(rw [h13];conv=>whnf)|(refine Apu ?_;conv=>whnf)|(refine kA ?_;conv=>whnf)|(refine Br.mk (fun hc=>?_) fun hc=>?_<;>first|exact hc.elim|conv=>whnf)|(refine kB ?_))
  all_goals (
   replace f1:Om σ σ1 []:=f1
   replace f2:Om σ1 σ2 [σ.length]:=f2
   replace f3:Om σ2 σ3 []:=f3
   replace f4:Om σ3 σ4 [1]:=f4
   replace l1:σ1.length=σ.length+1:=l1
   replace l2:σ2.length=σ1.length:=l2
   have hq:=f4.get h3 (by simp;omega)
   have FT:Om σ σ4 [1]:=(((f1.trans f2).trans f3).trans f4).mono (by
        intro o ho
        simp only[List.append_nil,List.nil_append,List.cons_append,List.mem_cons,List.mem_nil_iff,or_false]at ho ⊢
        omega)
   have hS4:=hS.new FT (by intro o ho;have:=List.mem_singleton.1 ho;exact .inl (by omega)) hni (o:=σ2.length) (by omega) (by omega) hq rfl
   rw[← Aea]at hS4
   first
   |(exfalso;omega)
   |exact again.mk ⟨_,by omega,i+1,_,0,_,σ4,_,rfl,by omega,h04,h4,hS4,rfl,rfl⟩)
 ·have hie:i=g.nodes.length:=by omega
  subst hie
  clear hlt hi cn
  rw[List.take_of_length_le (Nat.le_refl _)]at hS
  (conv=>whnf);repeat' (first|(rw [h0];conv=>whnf)|(rw [h1];conv=>whnf)|(refine kA ?_;conv=>whnf)|(refine Br.mk (fun hc=>?_) fun hc=>?_<;>first|exact hc.elim|conv=>whnf)|(refine kB ?_))
  refine Ap (fun m env s=>∃(i c:Nat) (cl:Bool) (σ:List Obj),m=g.edges.length-i∧i≤g.edges.length∧nth σ 0=some (.arr 0 4 true true [g.av])∧nth σ 1=some (.mp 1 cl (ZF M))∧NbS σ M (JD types (g.edges.take i)) (Dc g)∧env=[(1,.sl tn (vs .str types)),(5,.map 1 1),(24,.sl g.en (vs GE.av g.edges)),(25,.int .i64 g.edges.length),(26,.int .i64 i)]∧s=⟨σ,c⟩) ?_ _ _ _ ⟨0,_,_,_,rfl,by omega,h0,h1,hS,rfl,rfl⟩
  clear h0 h1 hS
  rintro _ _ _ ⟨i,c,cl,σ,rfl,hi,h0,h1,hS,rfl,rfl⟩
  refine⟨rfl,?_⟩
  by_cases hlt:i<g.edges.length
  ·have hL:JD types (g.edges.take (i+1))=E5 types (JD types (g.edges.take i)) g.edges[i]:=by
        unfold JD;rw[List.take_succ_eq_append_getElem hlt,List.foldl_append];rfl
   obtain⟨he1,he2⟩:=Abx _ (List.getElem_mem hlt)
   obtain⟨oa,ga,ca,a1,a2,a3⟩:=hS.pt _ he1
   obtain⟨ob,gb,cb,b1,b2,b3⟩:=hS.pt _ he2
   have hl1:=BH h1
   have hla:=BH a2
   have hlb:=BH b2
   by_cases e1:(g.edges[i]).fr=(g.edges[i]).to
   ·rw[← show JD types (g.edges.take (i+1))=JD types (g.edges.take i) from by rw[hL];unfold E5;rw[if_neg (fun h=>h.1 e1)]]at hS
    (conv=>whnf);repeat' (first|(refine Qw fun σ1 f1 h2 l1=>?_;have h01:=f1.get h0 (by simp);have h11:=f1.get h1 (by simp);conv=>whnf)|(refine Sz h2 fun σ2 f2 h2 l2=>?_;have h02:=f2.get h01 (by simp;omega);have h12:=f2.get h11 (by simp;omega);conv=>whnf)|(rw [h2];conv=>whnf)|(refine kA ?_;conv=>whnf)|(refine Br.mk (fun hc=>?_) fun hc=>?_<;>first|exact hc.elim|conv=>whnf)|(refine kB ?_))
    all_goals first
     |(exfalso;omega)
     |(exfalso;contradiction)
     |(replace f1:Om σ σ1 []:=f1
       replace f2:Om σ1 σ2 [σ.length]:=f2
       have FT:Om σ σ2 []:=(f1.trans f2).mono (by
           intro o ho
           simp only[List.nil_append,List.mem_cons,List.mem_nil_iff,or_false]at ho ⊢
           omega)
       exact again.mk ⟨_,by omega,i+1,_,_,σ2,rfl,by omega,h02,h12,hS.keep FT (by simp),rfl,rfl⟩)
   ·have hab:oa≠ob:=fun e=>e1 (hS.inj _ _ _ _ _ a1 (by rw[e];exact b1))
    by_cases e2:HT types g.edges[i]
    ·have hT:=PZ (nn:=tn) (e:=g.edges[i]) ht
     rw[decide_eq_true e2]at hT
     (conv=>whnf);repeat' (first|(refine Qw fun σ1 f1 h2 l1=>?_;have h01:=f1.get h0 (by simp);have h11:=f1.get h1 (by simp);have a21:=f1.get a2 (by simp);have b21:=f1.get b2 (by simp);conv=>whnf)|(refine Sz b23 fun σ4 f4 h4 l4=>?_;have h04:=f4.get h03 (by simp;omega);have h14:=f4.get h13 (by simp;omega);conv=>whnf)|(refine Sz a22 fun σ3 f3 h3 l3=>?_;have h03:=f3.get h02 (by simp;omega);have h13:=f3.get h12 (by simp;omega);have h23:=f3.get h2 (by simp;omega);have b23:=f3.get b22 (by simp;omega);conv=>whnf)|(refine Sz h2 fun σ2 f2 h2 l2=>?_;have h02:=f2.get h01 (by simp;omega);have h12:=f2.get h11 (by simp;omega);have a22:=f2.get a21 (by simp;omega);have b22:=f2.get b21 (by simp;omega);conv=>whnf)|(rw [h2];conv=>whnf)|(rw [h23];conv=>whnf)|(rw [h12];conv=>whnf)|(rw [h13];conv=>whnf)|(rw [a22];conv=>whnf)|(rw [b23];conv=>whnf)|(refine Aa hT ?_;rintro _ rfl;conv=>whnf)|(refine fkA a1 (fun _=>?_);conv=>whnf)|(refine fkA b1 (fun _=>?_);conv=>whnf)|(refine msT ?_;conv=>whnf)|(refine kA ?_;conv=>whnf)|(refine Br.mk (fun hc=>?_) fun hc=>?_<;>first|exact hc.elim|conv=>whnf)|(refine kB ?_))
     all_goals first
      |(exfalso;omega)
      |(exfalso;contradiction)
      |(replace f1:Om σ σ1 []:=f1
        replace f2:Om σ1 σ2 [σ.length]:=f2
        replace f3:Om σ2 σ3 [oa]:=f3
        replace f4:Om σ3 σ4 [ob]:=f4
        have F2:Om σ σ2 []:=(f1.trans f2).mono (by
            intro o ho
            simp only[List.nil_append,List.mem_cons,List.mem_nil_iff,or_false]at ho ⊢
            omega)
        have hS3:=(hS.keep F2 (by simp)).put (L':=fun w=>if w=(g.edges[i]).fr then Fz (JD types (g.edges.take i) (g.edges[i]).fr) (g.edges[i]).to true else JD types (g.edges.take i) w) a1 f3 h3 (fun w=>rfl)
        have hS4:=hS3.put (L':=JD types (g.edges.take (i+1))) b1 f4 h4 (fun w=>by
            rw[hL];unfold E5;rw[if_pos ⟨e1,e2⟩])
        exact again.mk ⟨_,by omega,i+1,_,_,σ4,rfl,by omega,h04,h14,hS4,rfl,rfl⟩)
    ·have hT:=PZ (nn:=tn) (e:=g.edges[i]) ht
     rw[decide_eq_false e2]at hT
     rw[← show JD types (g.edges.take (i+1))=JD types (g.edges.take i) from by rw[hL];unfold E5;rw[if_neg (fun h=>e2 h.2)]]at hS
     (conv=>whnf);repeat' (first|(refine Qw fun σ1 f1 h2 l1=>?_;have h01:=f1.get h0 (by simp);have h11:=f1.get h1 (by simp);conv=>whnf)|(refine Sz h2 fun σ2 f2 h2 l2=>?_;have h02:=f2.get h01 (by simp;omega);have h12:=f2.get h11 (by simp;omega);conv=>whnf)|(rw [h2];conv=>whnf)|(refine Aa hT ?_;rintro _ rfl;conv=>whnf)|(refine kA ?_;conv=>whnf)|(refine Br.mk (fun hc=>?_) fun hc=>?_<;>first|exact hc.elim|conv=>whnf)|(refine kB ?_))
     all_goals first
      |(exfalso;omega)
      |(exfalso;contradiction)
      |(replace f1:Om σ σ1 []:=f1
        replace f2:Om σ1 σ2 [σ.length]:=f2
        have FT:Om σ σ2 []:=(f1.trans f2).mono (by
            intro o ho
            simp only[List.nil_append,List.mem_cons,List.mem_nil_iff,or_false]at ho ⊢
            omega)
        exact again.mk ⟨_,by omega,i+1,_,_,σ2,rfl,by omega,h02,h12,hS.keep FT (by simp),rfl,rfl⟩)
  ·have hie:i=g.edges.length:=by omega
   subst hie
   rw[List.take_of_length_le (Nat.le_refl _)]at hS
   (conv=>whnf);repeat' (first  |(refine kA ?_;conv=>whnf)|(refine Br.mk (fun hc=>?_) fun hc=>?_<;>first|exact hc.elim|conv=>whnf)|(refine kB ?_))
   all_goals first
        |(exfalso;omega)
        |(refine AL (hS.snap hnd (n:=1000) (fun v=>Nat.le_trans (QN (n:=0) (fun _=>Nat.le_refl _)) (by omega)) h1 (by rw[MF];show _≤1000000;omega)) ?_
          unfold Dc
          rw[List.map_map]
          rfl)
end AI
end Go.Proofs.YtchcadfjbkkgmaaGreatDoor
