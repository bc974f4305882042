/- Tarjan's algorithm: what holds of its state, and its steps: plain. Tarjan's algorithm: a component leaves the stack: plain. component.Strong: the state in the store. component.Strong: the state in the store; a node is entered. The first place in a list; the least of a list. -/
import Derived.Test.YtjjhejbffgaabaaGreatDoorRCore
import Derived.Test.YtjjhejbffgaabaaGreatDoorRMaf
import Derived.Test.YtjjhejbffgaabaaGreatDoorRSe
import Derived.Test.YtjjhejbffgaabaaGreatDoorRMam
import Derived.Test.YtjjhejbffgaabaaGreatDoorRMal
set_option linter.unusedVariables false
set_option maxRecDepth 4000
namespace Go.Proofs.YtjjhejbffgaabaaGreatDoor
namespace AI
section
inductive Jm (nx:Int→List Int) (a:Int):Int→Prop
 |refl:Jm nx a a
 |step {b c:Int}:Jm nx a b→c∈nx b→Jm nx a c
theorem Jm.trans {nx:Int→List Int} {a b c:Int} (h:Jm nx a b) (k:Jm nx b c):Jm nx a c:=by
 induction k with
 |refl=>exact h
 |step _ hc ih=>exact .step ih hc
theorem Jm.one {nx:Int→List Int} {a b:Int} (h:b∈nx a):Jm nx a b:=.step .refl h
theorem Jm.stay {nx:Int→List Int} {C:Int→Prop} (hC:∀v,C v→∀w∈nx v,C w) {a b:Int} (h:Jm nx a b) (ha:C a):C b:=by
 induction h with
 |refl=>exact ha
 |step _ hc ih=>exact hC _ ih _ hc
def Least (nx:Int→List Int) (v x:Int):Prop:=Jm nx v x∧Jm nx x v∧∀u,Jm nx v u→Jm nx u v→x≤u
def upd {α:Type} (f:Int→α) (a:Int) (b:α):Int→α:=fun x=>if x=a then b else f x
theorem EK {α:Type} {f:Int→α} {a:Int} {b:α}:upd f a b a=b:=if_pos rfl
theorem upd_ne {α:Type} {f:Int→α} {a x:Int} {b:α} (h:x≠a):upd f a b x=f x:=if_neg h
structure TJ where
 n:Nat
 vis:Int→Prop
 ix:Int→Nat
 low:Int→Nat
 S:List Int
 T:List (Int×Nat)
 sm:Int→Int
def MF (T:List (Int×Nat)) (v:Int):Prop:=∀p∈T,p.1≠v
structure EY (nx:Int→List Int) (s:TJ):Prop where
 vlt:∀v,s.vis v→s.ix v<s.n
 inj:∀v w,s.vis v→s.vis w→s.ix v=s.ix w→v=w
 sV:∀v∈s.S,s.vis v
 sI:s.S.Pairwise (fun a b=>s.ix a<s.ix b)
 tS:∀p∈s.T,p.1∈s.S
 tI:s.T.Pairwise (fun a b=>s.ix b.1<s.ix a.1)
 tR:∀p∈s.T,∀v∈s.S,s.ix p.1≤s.ix v→Jm nx p.1 v
 tA:∀p∈s.T,p.2≤(nx p.1).length∧∀j w,j<p.2→(nx p.1)[j]?=some w→s.vis w
 lf:∀v,s.vis v→MF s.T v→∀w∈nx v,s.vis w
 pp:∀v,s.vis v→v∉s.S→∀w∈nx v,s.vis w∧w∉s.S
 lo:∀v∈s.S,s.low v≤s.ix v∧∃w∈s.S,s.ix w=s.low v∧Jm nx v w
 le:∀v∈s.S,∀w∈s.S,w∈nx v→(∀ p∈s.T,p.1=v→∃j,j<p.2∧(nx v)[j]?=some w)→s.low v≤s.ix w
 lc:∀v∈s.S,MF s.T v→∀p∈s.T,s.ix p.1<s.ix v→(∀ q∈s.T,s.ix q.1<s.ix v→s.ix q.1≤s.ix p.1)→s.low p.1≤s.low v
 ll:∀v∈s.S,MF s.T v→s.low v<s.ix v
 rt:∀v∈s.S,∃p∈s.T,s.ix p.1≤s.ix v
 ok:∀v,s.vis v→v∉s.S→Least nx v (s.sm v)
variable {nx:Int→List Int} {s:TJ}
theorem EY.none {ix low:Int→Nat} {sm:Int→Int}:EY nx ⟨0,fun _=>False,ix,low,[],[],sm⟩ where
 vlt:=fun _ h=>h.elim
 inj:=fun _ _ h=>h.elim
 sV:=fun _ h=>by cases h
 sI:=List.Pairwise.nil
 tS:=fun _ h=>by cases h
 tI:=List.Pairwise.nil
 tR:=fun _ h=>by cases h
 tA:=fun _ h=>by cases h
 lf:=fun _ h=>h.elim
 pp:=fun _ h=>h.elim
 lo:=fun _ h=>by cases h
 le:=fun _ h=>by cases h
 lc:=fun _ h=>by cases h
 ll:=fun _ h=>by cases h
 rt:=fun _ h=>by cases h
 ok:=fun _ h=>h.elim
abbrev MG (s:TJ) (m:Int) (T1:List (Int×Nat)):TJ:=⟨s.n+1,fun v=>s.vis v∨v=m,upd s.ix m s.n,upd s.low m s.n,s.S++[m],(m,0)::T1,s.sm⟩
structure Goes (nx:Int→List Int) (s:TJ) (m:Int) (T1:List (Int×Nat)):Prop where
 nm:T1.map Prod.fst=s.T.map Prod.fst
 old:∀p∈T1,p∈s.T∨(∃ q,s.T.head?=some q∧q.1=p.1∧p.2=q.2+1∧(nx p.1)[q.2]?=some m)
 top:∀p,s.T.head?=some p→m∈nx p.1
theorem NC {T1 T:List (Int×Nat)} (h:T1.map Prod.fst=T.map Prod.fst) {v:Int}:(∃ p∈T1,p.1=v)↔∃p∈T,p.1=v:=by
 have e:∀{L:List (Int×Nat)},(∃ p∈L,p.1=v)↔v∈L.map Prod.fst:=fun{L}=>by rw[List.mem_map]
 rw[e,e,h]
theorem Xw {T1 T:List (Int×Nat)} (h:T1.map Prod.fst=T.map Prod.fst) {p:Int×Nat} (hp:p∈T1):∃q∈T,q.1=p.1:=(NC h).1 ⟨p,hp,rfl⟩
theorem Adw {T1 T:List (Int×Nat)} (h:T1.map Prod.fst=T.map Prod.fst) {v:Int}:MF T1 v↔MF T v:=by
 have:=NC h (v:=v)
 unfold MF
 constructor
 ·intro k p hp e;obtain⟨q,hq,eq⟩:=this.2 ⟨p,hp,e⟩;exact k q hq eq
 ·intro k p hp e;obtain⟨q,hq,eq⟩:=this.1 ⟨p,hp,e⟩;exact k q hq eq
theorem AfH {R:Int→Int→Prop} {T1 T:List (Int×Nat)} (h:T1.map Prod.fst=T.map Prod.fst) (k:T.Pairwise fun a b=>R a.1 b.1):T1.Pairwise fun a b=>R a.1 b.1:=by
 have e:∀{L:List (Int×Nat)},(L.map Prod.fst).Pairwise R↔L.Pairwise fun a b=>R a.1 b.1:=fun{L}=>List.pairwise_map
 rw[← e]at k ⊢
 rw[h];exact k
theorem EY.enter (h:EY nx s) {m:Int} {T1:List (Int×Nat)} (hm:¬s.vis m) (g:Goes nx s m T1):EY nx (MG s m T1):=by
 have Adx:upd s.ix m s.n m=s.n:=EK
 have hix:∀v,s.vis v→upd s.ix m s.n v=s.ix v:=fun v hv=>upd_ne fun e=>hm (e▸hv)
 have hlow:∀v,s.vis v→upd s.low m s.n v=s.low v:=fun v hv=>upd_ne fun e=>hm (e▸hv)
 have hS:∀v∈s.S++[m],v∈s.S∨v=m:=fun v hv=>by simpa using hv
 have hTS:∀p∈T1,p.1∈s.S:=fun p hp=>by obtain⟨q,hq,e⟩:=Xw g.nm hp;rw[← e];exact h.tS q hq
 have hTv:∀p∈T1,s.vis p.1:=fun p hp=>h.sV _ (hTS p hp)
 have YD:m∉s.S:=fun hx=>hm (h.sV _ hx)
 have hoff:∀v,MF ((m,0)::T1) v→v≠m∧MF s.T v:=fun v hv=>⟨fun e=>hv (m,0) (by simp) e.symm,(Adw g.nm).1 fun p hp=>hv p (by simp[hp])⟩
 have htop:∀v∈s.S,∃p,s.T.head?=some p∧True:=fun v hv=>by
  obtain⟨p,hp,_⟩:=h.rt v hv
  cases hT:s.T with
  |nil=>rw[hT]at hp;cases hp
  |cons a r=>exact⟨a,rfl,trivial⟩
 have hhead:∀p,s.T.head?=some p→∀q∈s.T,s.ix q.1≤s.ix p.1:=fun p hp q hq=>by
  have hI:=h.tI
  cases hT:s.T with
  |nil=>rw[hT]at hq;cases hq
  |cons a r=>
   rw[hT]at hp hq hI
   simp only[List.head?_cons,Option.some.injEq]at hp
   subst hp
   rcases List.mem_cons.1 hq with rfl|hq
   ·exact Nat.le_refl _
   ·exact Nat.le_of_lt ((List.pairwise_cons.1 hI).1 q hq)
 refine⟨?_,?_,?_,?_,?_,?_,?_,?_,?_,?_,?_,?_,?_,?_,?_,?_⟩
 ·rintro v (hv|rfl)
  ·show upd s.ix m s.n v<s.n+1
   rw[hix v hv];have:=h.vlt v hv;omega
  ·show upd s.ix v s.n v<s.n+1
   rw[EK];omega
 ·rintro v w (hv|rfl) (hw|rfl) e
  ·replace e:upd s.ix m s.n v=upd s.ix m s.n w:=e
   rw[hix v hv,hix w hw]at e;exact h.inj v w hv hw e
  ·replace e:upd s.ix w s.n v=upd s.ix w s.n w:=e
   rw[hix v hv,EK]at e;have:=h.vlt v hv;omega
  ·replace e:upd s.ix v s.n v=upd s.ix v s.n w:=e
   rw[hix w hw,EK]at e;have:=h.vlt w hw;omega
  ·rfl
 ·intro v hv
  rcases hS v hv with hv|rfl
  ·exact .inl (h.sV v hv)
  ·exact .inr rfl
 ·show(s.S++[m]).Pairwise fun a b=>upd s.ix m s.n a<upd s.ix m s.n b
  rw[List.pairwise_append]
  refine⟨h.sI.imp_of_mem fun ha hb hab=>by rw[hix _ (h.sV _ ha),hix _ (h.sV _ hb)];exact hab,List.pairwise_singleton _ _,fun a ha b hb=>?_⟩
  rw[List.mem_singleton]at hb
  subst hb
  rw[hix a (h.sV a ha),Adx];exact h.vlt a (h.sV a ha)
 ·intro p hp
  show p.1∈s.S++[m]
  rcases List.mem_cons.1 hp with rfl|hp
  ·simp
  ·simp[hTS p hp]
 ·show((m,0)::T1).Pairwise fun a b=>upd s.ix m s.n b.1<upd s.ix m s.n a.1
  refine List.pairwise_cons.2 ⟨fun p hp=>?_,?_⟩
  ·rw[hix _ (hTv p hp),Adx];exact h.vlt _ (hTv p hp)
  ·have hp:=AfH (R:=fun a b=>s.ix b<s.ix a) g.nm h.tI
   exact hp.imp_of_mem fun ha hb hab=>by rw[hix _ (hTv _ ha),hix _ (hTv _ hb)];exact hab
 ·intro p hp v hv hle
  replace hle:upd s.ix m s.n p.1≤upd s.ix m s.n v:=hle
  rcases List.mem_cons.1 hp with rfl|hp
  ·rcases hS v hv with hv|rfl
   ·rw[hix v (h.sV v hv)]at hle
    replace hle:upd s.ix m s.n m≤s.ix v:=hle
    rw[Adx]at hle;have:=h.vlt v (h.sV v hv);omega
   ·exact .refl
  ·obtain⟨q,hq,e⟩:=Xw g.nm hp
   have hpS:=hTS p hp
   rcases hS v hv with hv|rfl
   ·rw[hix _ (hTv p hp),hix v (h.sV v hv)]at hle
    rw[← e]at hle ⊢;exact h.tR q hq v hv hle
   ·obtain⟨r,hr,_⟩:=htop p.1 hpS
    have h1:=hhead r hr q hq
    have hrm:r∈s.T:=List.mem_of_head? hr
    rw[← e]
    exact .step (h.tR q hq r.1 (h.tS r hrm) h1) (g.top r hr)
 ·intro p hp
  rcases List.mem_cons.1 hp with rfl|hp
  ·exact⟨Nat.zero_le _,fun j w hj=>absurd hj (Nat.not_lt_zero _)⟩
  ·rcases g.old p hp with hq|⟨q,hq,e1,e2,e3⟩
   ·exact⟨(h.tA p hq).1,fun j w hj hw=>.inl ((h.tA p hq).2 j w hj hw)⟩
   ·have hqm:q∈s.T:=List.mem_of_head? hq
    have hk:=h.tA q hqm
    rw[e1]at hk
    have hlt:q.2<(nx p.1).length:=(List.getElem?_eq_some_iff.1 e3).1
    refine⟨by omega,fun j w hj hw=>?_⟩
    by_cases hjq:j<q.2
    ·exact .inl (hk.2 j w hjq hw)
    ·obtain rfl:j=q.2:=by omega
     rw[e3]at hw
     exact .inr (Option.some.inj hw).symm
 ·rintro v hv ho w hw
  obtain⟨o1,o2⟩:=hoff v ho
  rcases hv with hv|hv
  ·exact .inl (h.lf v hv o2 w hw)
  ·exact absurd hv o1
 ·rintro v hv hns w hw
  have Aba:v∉s.S∧v≠m:=⟨fun h=>hns (by show v∈s.S++[m];simp[h]),fun h=>hns (by show v∈s.S++[m];simp[h])⟩
  rcases hv with hv|hv
  ·obtain⟨a,b⟩:=h.pp v hv Aba.1 w hw
   refine⟨.inl a,fun hx=>?_⟩
   rcases hS w hx with hx|rfl
   ·exact b hx
   ·exact hm a
  ·exact absurd hv Aba.2
 ·intro v hv
  show upd s.low m s.n v≤upd s.ix m s.n v∧∃w∈s.S++[m],upd s.ix m s.n w=upd s.low m s.n v∧Jm nx v w
  rcases hS v hv with hv|rfl
  ·rw[hlow v (h.sV v hv),hix v (h.sV v hv)]
   obtain⟨a,w,b,c,d⟩:=h.lo v hv
   exact⟨a,w,by simp[b],by rw[hix w (h.sV w b)];exact c,d⟩
  ·rw[EK,EK]
   exact⟨Nat.le_refl _,v,by simp,EK,.refl⟩
 ·intro v hv w hw he hd
  show upd s.low m s.n v≤upd s.ix m s.n w
  rcases hS v hv with hv|rfl
  ·rw[hlow v (h.sV v hv)]
   have hvS:v∈s.S:=hv
   rcases hS w hw with hw|rfl
   ·rw[hix w (h.sV w hw)]
    refine h.le v hv w hw he fun p hp e=>?_
    obtain⟨q,hq,eq⟩:=(NC g.nm).2 ⟨p,hp,e⟩
    obtain⟨j,hj,hjw⟩:=hd q (by show q∈(m,0)::T1;simp[hq]) eq
    rcases g.old q hq with ho|⟨r,hr,a1,a2,a3⟩
    ·have:q=p:=by
       have hI:=h.tI
       refine Classical.byContradiction fun hne=>?_
       have hlt:s.ix q.1≠s.ix p.1:=by
        obtain⟨i1,hi1,rfl⟩:=List.getElem_of_mem ho
        obtain⟨i2,hi2,rfl⟩:=List.getElem_of_mem hp
        rcases Nat.lt_trichotomy i1 i2 with hh|hh|hh
        ·have:=List.pairwise_iff_getElem.1 hI i1 i2 hi1 hi2 hh;omega
        ·subst hh;exact absurd rfl hne
        ·have:=List.pairwise_iff_getElem.1 hI i2 i1 hi2 hi1 hh;omega
       exact hlt (by rw[eq,e])
     subst this
     exact⟨j,hj,hjw⟩
    ·have hrp:r=p:=by
       have hI:=h.tI
       have hrm:r∈s.T:=List.mem_of_head? hr
       refine Classical.byContradiction fun hne=>?_
       have hlt:s.ix r.1≠s.ix p.1:=by
        obtain⟨i1,hi1,rfl⟩:=List.getElem_of_mem hrm
        obtain⟨i2,hi2,rfl⟩:=List.getElem_of_mem hp
        rcases Nat.lt_trichotomy i1 i2 with hh|hh|hh
        ·have:=List.pairwise_iff_getElem.1 hI i1 i2 hi1 hi2 hh;omega
        ·subst hh;exact absurd rfl hne
        ·have:=List.pairwise_iff_getElem.1 hI i2 i1 hi2 hi1 hh;omega
       exact hlt (by rw[a1,eq,e])
     subst hrp
     by_cases hjr:j<r.2
     ·exact⟨j,hjr,hjw⟩
     ·exfalso
      have:j=r.2:=by omega
      subst this
      rw[← eq,a3]at hjw
      have:=Option.some.inj hjw
      subst this
      exact YD hw
   ·rw[EK]
    have:=(h.lo v hvS).1
    have:=h.vlt v (h.sV v hvS)
    omega
  ·obtain⟨j,hj,_⟩:=hd (v,0) (by show(v,0)∈(v,0)::T1;simp) rfl
   exact absurd hj (Nat.not_lt_zero _)
 ·intro v hv ho p hp hlt hmax
  obtain⟨o1,o2⟩:=hoff v ho
  have hv':v∈s.S:=(hS v hv).resolve_right o1
  replace hlt:upd s.ix m s.n p.1<upd s.ix m s.n v:=hlt
  show upd s.low m s.n p.1≤upd s.low m s.n v
  rw[hix v (h.sV v hv')]at hlt
  rcases List.mem_cons.1 hp with rfl|hp
  ·replace hlt:upd s.ix m s.n m<s.ix v:=hlt
   rw[Adx]at hlt;have:=h.vlt v (h.sV v hv');omega
  ·rw[hix _ (hTv p hp)]at hlt
   rw[hlow _ (hTv p hp),hlow v (h.sV v hv')]
   obtain⟨q,hq,e⟩:=Xw g.nm hp
   rw[← e]at hlt ⊢
   refine h.lc v hv' o2 q hq hlt fun r hr hrl=>?_
   obtain⟨r',hr',e'⟩:=(NC g.nm).2 ⟨r,hr,rfl⟩
   have:=hmax r' (by show r'∈(m,0)::T1;simp[hr']) (by show upd s.ix m s.n r'.1<upd s.ix m s.n v;rw[hix _ (hTv r' hr'),hix v (h.sV v hv'),e'];exact hrl)
   replace this:upd s.ix m s.n r'.1≤upd s.ix m s.n p.1:=this
   rw[hix _ (hTv r' hr'),hix _ (hTv p hp),e',←e]at this
   exact this
 ·intro v hv ho
  obtain⟨o1,o2⟩:=hoff v ho
  have hv':v∈s.S:=(hS v hv).resolve_right o1
  show upd s.low m s.n v<upd s.ix m s.n v
  rw[hlow v (h.sV v hv'),hix v (h.sV v hv')]
  exact h.ll v hv' o2
 ·intro v hv
  rcases hS v hv with hv|rfl
  ·obtain⟨p,hp,hle⟩:=h.rt v hv
   obtain⟨q,hq,e⟩:=(NC g.nm).2 ⟨p,hp,rfl⟩
   refine⟨q,by show q∈(m,0)::T1;simp[hq],?_⟩
   show upd s.ix m s.n q.1≤upd s.ix m s.n v
   rw[hix _ (hTv q hq),hix v (h.sV v hv),e];exact hle
  ·exact⟨(v,0),by show(v,0)∈(v,0)::T1;simp,Nat.le_refl _⟩
 ·rintro v hv hns
  have Aba:v∉s.S∧v≠m:=⟨fun h=>hns (by show v∈s.S++[m];simp[h]),fun h=>hns (by show v∈s.S++[m];simp[h])⟩
  rcases hv with hv|hv
  ·exact h.ok v hv Aba.1
  ·exact absurd hv Aba.2
theorem EY.uniq (h:EY nx s) {p q:Int×Nat} (hp:p∈s.T) (hq:q∈s.T) (e:p.1=q.1):p=q:=by
 have hI:=h.tI
 refine Classical.byContradiction fun hne=>?_
 have hlt:s.ix p.1≠s.ix q.1:=by
  obtain⟨i1,hi1,rfl⟩:=List.getElem_of_mem hp
  obtain⟨i2,hi2,rfl⟩:=List.getElem_of_mem hq
  rcases Nat.lt_trichotomy i1 i2 with hh|hh|hh
  ·have:=List.pairwise_iff_getElem.1 hI i1 i2 hi1 hi2 hh;omega
  ·subst hh;exact absurd rfl hne
  ·have:=List.pairwise_iff_getElem.1 hI i2 i1 hi2 hi1 hh;omega
 exact hlt (by rw[e])
theorem EY.below (h:EY nx s) {t:Int} {k:Nat} {T0:List (Int×Nat)} (hT:s.T=(t,k)::T0) {p:Int×Nat} (hp:p∈T0):s.ix p.1<s.ix t:=by
 have hI:=h.tI
 rw[hT]at hI
 exact(List.pairwise_cons.1 hI).1 p hp
abbrev Si (s:TJ) (t:Int) (k:Nat) (T0:List (Int×Nat)) (m:Int):TJ:=⟨s.n,s.vis,s.ix,if m∈s.S then upd s.low t (min (s.low t) (s.ix m))else s.low,s.S,(t,k+1)::T0,s.sm⟩
theorem EY.see (h:EY nx s) {t m:Int} {k:Nat} {T0:List (Int×Nat)} (hT:s.T=(t,k)::T0) (hk:(nx t)[k]?=some m) (hm:s.vis m):EY nx (Si s t k T0 m):=by
 have hmem:∀p,p∈(t,k+1)::T0→p=(t,k+1)∨p∈T0:=fun p hp=>List.mem_cons.1 hp
 have h0:(t,k)∈s.T:=by rw[hT];simp
 have hin:∀p∈T0,p∈s.T:=fun p hp=>by rw[hT];simp[hp]
 have YF:=h.tS _ h0
 have hmk:m∈nx t:=List.mem_of_getElem? hk
 have hoff:∀v,MF ((t,k+1)::T0) v→MF s.T v∧v≠t:=fun v hv=>⟨fun p hp e=>by
  rw[hT]at hp
  rcases List.mem_cons.1 hp with rfl|hp
  ·exact hv (t,k+1) (by simp) e
  ·exact hv p (by simp[hp]) e,fun e=>hv (t,k+1) (by simp) e.symm⟩
 have hlow:(Si s t k T0 m).low=if m∈s.S then upd s.low t (min (s.low t) (s.ix m))else s.low:=rfl
 have hle:∀v,(Si s t k T0 m).low v≤s.low v:=fun v=>by
  classical
  rw[hlow]
  split
  ·by_cases e:v=t
   ·rw[e,EK];omega
   ·rw[upd_ne e];exact Nat.le_refl _
  ·exact Nat.le_refl _
 have hne:∀v,v≠t→(Si s t k T0 m).low v=s.low v:=fun v e=>by
  classical
  rw[hlow]
  split
  ·rw[upd_ne e]
  ·rfl
 have hbk:∀p∈(t,k+1)::T0,∃q∈s.T,q.1=p.1:=fun p hp=>by
  rcases hmem p hp with rfl|hp
  ·exact⟨_,h0,rfl⟩
  ·exact⟨p,hin p hp,rfl⟩
 have hfw:∀q∈s.T,∃p∈(t,k+1)::T0,p.1=q.1:=fun q hq=>by
  rw[hT]at hq
  rcases List.mem_cons.1 hq with rfl|hq
  ·exact⟨(t,k+1),by simp,rfl⟩
  ·exact⟨q,by simp[hq],rfl⟩
 refine⟨h.vlt,h.inj,h.sV,h.sI,?_,?_,?_,?_,?_,h.pp,?_,?_,?_,?_,?_,h.ok⟩
 ·intro p hp
  obtain⟨q,hq,e⟩:=hbk p hp
  rw[← e];exact h.tS q hq
 ·have hI:=h.tI
  rw[hT]at hI
  exact List.pairwise_cons.2 ⟨(List.pairwise_cons.1 hI).1,(List.pairwise_cons.1 hI).2⟩
 ·intro p hp v hv hlt
  obtain⟨q,hq,e⟩:=hbk p hp
  replace hlt:s.ix p.1≤s.ix v:=hlt
  rw[← e]at hlt ⊢;exact h.tR q hq v hv hlt
 ·intro p hp
  rcases hmem p hp with rfl|hp
  ·have hA:=h.tA _ h0
   have hl:k<(nx t).length:=(List.getElem?_eq_some_iff.1 hk).1
   refine⟨hl,fun j w hj hw=>?_⟩
   by_cases hjk:j<k
   ·exact hA.2 j w hjk hw
   ·replace hj:j<k+1:=hj
    obtain rfl:j=k:=by omega
    replace hw:(nx t)[j]?=some w:=hw
    rw[hk]at hw;cases hw;exact hm
  ·exact h.tA p (hin p hp)
 ·intro v hv ho
  exact h.lf v hv (hoff v ho).1
 ·intro v hv
  obtain⟨a,w,b,c,d⟩:=h.lo v hv
  refine⟨Nat.le_trans (hle v) a,?_⟩
  by_cases e:v=t
  ·subst e
   classical
   rw[hlow]
   split
   ·rename_i YD
    rw[EK]
    by_cases hc:s.low v≤s.ix m
    ·exact⟨w,b,by show s.ix w=_;rw[c];omega,d⟩
    ·exact⟨m,YD,by show s.ix m=_;omega,.one hmk⟩
   ·exact⟨w,b,c,d⟩
  ·exact⟨w,b,by show s.ix w=_;rw[hne v e];exact c,d⟩
 ·intro v hv w hw he hd
  by_cases e:v=t
  ·subst e
   obtain⟨j,hj,hjw⟩:=hd (v,k+1) (by show(v,k+1)∈(v,k+1)::T0;simp) rfl
   by_cases hjk:j<k
   ·refine Nat.le_trans (hle v) (h.le v hv w hw he fun p hp e=>?_)
    obtain rfl:=h.uniq hp h0 e
    exact⟨j,hjk,hjw⟩
   ·replace hj:j<k+1:=hj
    obtain rfl:j=k:=by omega
    rw[hk]at hjw
    cases hjw
    classical
    rw[hlow,if_pos hw,EK]
    exact Nat.min_le_right _ _
  ·rw[hne v e]
   refine h.le v hv w hw he fun p hp ep=>?_
   rw[hT]at hp
   rcases List.mem_cons.1 hp with rfl|hp
   ·exact absurd ep.symm e
   ·exact hd p (by show p∈(t,k+1)::T0;simp[hp]) ep
 ·intro v hv ho p hp hlt hmax
  obtain⟨o1,o2⟩:=hoff v ho
  rw[hne v o2]
  obtain⟨q,hq,e⟩:=hbk p hp
  refine Nat.le_trans (hle p.1) ?_
  rw[← e]at hlt ⊢
  refine h.lc v hv o1 q hq hlt fun r hr hrl=>?_
  obtain⟨r',hr',e'⟩:=hfw r hr
  have:=hmax r' hr' (by rw[e'];exact hrl)
  rw[e',←e]at this
  exact this
 ·intro v hv ho
  obtain⟨o1,o2⟩:=hoff v ho
  rw[hne v o2]
  exact h.ll v hv o1
 ·intro v hv
  obtain⟨p,hp,hl⟩:=h.rt v hv
  obtain⟨q,hq,e⟩:=hfw p hp
  exact⟨q,hq,by show s.ix q.1≤_;rw[e];exact hl⟩
def AfI (low:Int→Nat) (t:Int):List (Int×Nat)→Int→Nat
 |[]=>low
 |p::_=>upd low p.1 (min (low p.1) (low t))
abbrev S9 (s:TJ) (t:Int) (T0:List (Int×Nat)):TJ:=⟨s.n,s.vis,s.ix,AfI s.low t T0,s.S,T0,s.sm⟩
theorem EY.stay (h:EY nx s) {t:Int} {T0:List (Int×Nat)} (hT:s.T=(t,(nx t).length)::T0) (hl:s.low t<s.ix t):EY nx (S9 s t T0):=by
 have h0:(t,(nx t).length)∈s.T:=by rw[hT];simp
 have hin:∀p∈T0,p∈s.T:=fun p hp=>by rw[hT];simp[hp]
 have YF:=h.tS _ h0
 have hbl:=fun{p:Int×Nat} (hp:p∈T0)=>h.below hT hp
 obtain⟨_,w0,b0,c0,d0⟩:=h.lo t YF
 obtain⟨u,T1,hT0⟩:∃u T1,T0=u::T1:=by
  cases hT0:T0 with
  |nil=>
   obtain⟨p,hp,hle⟩:=h.rt w0 b0
   rw[hT,hT0]at hp
   simp only[List.mem_singleton]at hp
   subst hp
   replace hle:s.ix t≤s.ix w0:=hle
   omega
  |cons u T1=>exact⟨u,T1,rfl⟩
 have hu:u∈T0:=by rw[hT0];simp
 have hut:=hbl hu
 have hlow:(S9 s t T0).low=upd s.low u.1 (min (s.low u.1) (s.low t)):=by rw[hT0];rfl
 have hle:∀v,(S9 s t T0).low v≤s.low v:=fun v=>by
  rw[hlow]
  by_cases e:v=u.1
  ·rw[e,EK];omega
  ·rw[upd_ne e];exact Nat.le_refl _
 have hne:∀v,v≠u.1→(S9 s t T0).low v=s.low v:=fun v e=>by rw[hlow,upd_ne e]
 have hlu:(S9 s t T0).low u.1≤s.low t:=by rw[hlow,EK];exact Nat.min_le_right _ _
 have htu:t≠u.1:=fun e=>by rw[e]at hut;omega
 have htop:∀p∈T0,s.ix p.1≤s.ix u.1:=fun p hp=>by
  have hI:=h.tI
  rw[hT,hT0]at hI
  rw[hT0]at hp
  rcases List.mem_cons.1 hp with rfl|hp
  ·exact Nat.le_refl _
  ·exact Nat.le_of_lt ((List.pairwise_cons.1 (List.pairwise_cons.1 hI).2).1 p hp)
 have hpu:∀p∈T0,s.ix u.1≤s.ix p.1→p.1=u.1:=fun p hp hle=>h.inj _ _ (h.sV _ (h.tS p (hin p hp))) (h.sV _ (h.tS u (hin u hu))) (by have:=htop p hp;omega)
 have hoff:∀v,MF T0 v→v≠t→MF s.T v:=fun v hv e p hp ep=>by
  rw[hT]at hp
  rcases List.mem_cons.1 hp with rfl|hp
  ·exact e ep.symm
  ·exact hv p hp ep
 refine⟨h.vlt,h.inj,h.sV,h.sI,fun p hp=>h.tS p (hin p hp),?_,fun p hp=>h.tR p (hin p hp),fun p hp=>h.tA p (hin p hp),?_,h.pp,?_,?_,?_,?_,?_,h.ok⟩
 ·have hI:=h.tI
  rw[hT]at hI
  exact(List.pairwise_cons.1 hI).2
 ·intro v hv ho w hw
  by_cases e:v=t
  ·subst e
   obtain⟨j,hj,ej⟩:=List.getElem_of_mem hw
   exact(h.tA _ h0).2 j w hj (by rw[List.getElem?_eq_getElem hj,ej])
  ·exact h.lf v hv (hoff v ho e) w hw
 ·intro v hv
  obtain⟨a,w,b,c,d⟩:=h.lo v hv
  refine⟨Nat.le_trans (hle v) a,?_⟩
  by_cases e:v=u.1
  ·rw[hlow,e,EK]
   rw[e]at c d
   by_cases hc:s.low u.1≤s.low t
   ·exact⟨w,b,by show s.ix w=_;rw[c];omega,d⟩
   ·refine⟨w0,b0,by show s.ix w0=_;rw[c0];omega,(h.tR u (hin u hu) t YF (Nat.le_of_lt hut)).trans d0⟩
  ·exact⟨w,b,by show s.ix w=_;rw[hne v e];exact c,d⟩
 ·intro v hv w hw he hd
  refine Nat.le_trans (hle v) (h.le v hv w hw he fun p hp ep=>?_)
  rw[hT]at hp
  rcases List.mem_cons.1 hp with rfl|hp
  ·replace ep:t=v:=ep
   subst ep
   obtain⟨j,hj,ej⟩:=List.getElem_of_mem he
   exact⟨j,hj,by rw[List.getElem?_eq_getElem hj,ej]⟩
  ·exact hd p hp ep
 ·intro v hv ho p hp hlt hmax
  by_cases e:v=t
  ·subst e
   rw[hne v htu]
   have:=hmax u hu hut
   rw[hpu p hp this]
   exact hlu
  ·have o1:=hoff v ho e
   by_cases ev:v=u.1
   ·exact absurd ev.symm (ho u hu)
   rw[hne v ev]
   by_cases htv:s.ix t<s.ix v
   ·have h1:=hmax u hu (by show s.ix u.1<s.ix v;omega)
    rw[hpu p hp h1]
    refine Nat.le_trans hlu (h.lc v hv o1 _ h0 htv fun q hq _=>?_)
    rw[hT]at hq
    rcases List.mem_cons.1 hq with rfl|hq
    ·exact Nat.le_refl _
    ·exact Nat.le_of_lt (hbl hq)
   ·refine Nat.le_trans (hle p.1) (h.lc v hv o1 p (hin p hp) hlt fun q hq hqv=>?_)
    rw[hT]at hq
    rcases List.mem_cons.1 hq with rfl|hq
    ·exact absurd hqv htv
    ·exact hmax q hq hqv
 ·intro v hv ho
  by_cases e:v=t
  ·subst e;rw[hne v htu];exact hl
  ·by_cases ev:v=u.1
   ·exact absurd ev.symm (ho u hu)
   rw[hne v ev]
   exact h.ll v hv (hoff v ho e)
 ·intro v hv
  obtain⟨p,hp,hle⟩:=h.rt v hv
  rw[hT]at hp
  rcases List.mem_cons.1 hp with rfl|hp
  ·exact⟨u,hu,by show s.ix u.1≤s.ix v;replace hle:s.ix t≤s.ix v:=hle;omega⟩
  ·exact⟨p,hp,hle⟩
end
section
variable {nx:Int→List Int} {s:TJ}
noncomputable abbrev Agt (s:TJ) (t:Int) (C0 S0:List Int) (T0:List (Int×Nat)) (x:Int):TJ:=by
 classical exact{s with S:=S0,T:=T0,sm:=fun v=>if v∈t::C0 then x else s.sm v}
theorem EY.pop (h:EY nx s) {t x:Int} {T0:List (Int×Nat)} {S0 C0:List Int} (hT:s.T=(t,(nx t).length)::T0) (hl:s.low t=s.ix t) (hS:s.S=S0++t::C0) (hx:x∈t::C0) (hmin:∀u∈t::C0,x≤u):EY nx (Agt s t C0 S0 T0 x):=by
 have h0:(t,(nx t).length)∈s.T:=by rw[hT];simp
 have hin:∀p∈T0,p∈s.T:=fun p hp=>by rw[hT];simp[hp]
 have YF:=h.tS _ h0
 have hbl:=fun{p:Int×Nat} (hp:p∈T0)=>h.below hT hp
 have hsI:=h.sI
 rw[hS,List.pairwise_append]at hsI
 obtain⟨hI0,hI1,hI2⟩:=hsI
 have hI3:=List.pairwise_cons.1 hI1
 have hSm:∀v,v∈s.S↔v∈S0∨v∈t::C0:=fun v=>by rw[hS,List.mem_append]
 have lt0:∀v∈S0,s.ix v<s.ix t:=fun v hv=>hI2 v hv t (by simp)
 have geC:∀v∈t::C0,s.ix t≤s.ix v:=fun v hv=>by
  rcases List.mem_cons.1 hv with rfl|hv
  ·exact Nat.le_refl _
  ·exact Nat.le_of_lt (hI3.1 v hv)
 have inC:∀v∈s.S,s.ix t≤s.ix v→v∈t::C0:=fun v hv hle=>((hSm v).1 hv).resolve_left fun k=>by have:=lt0 v k;omega
 have in0:∀v∈s.S,s.ix v<s.ix t→v∈S0:=fun v hv hle=>((hSm v).1 hv).resolve_right fun k=>by have:=geC v k;omega
 have AkB:∀v∈t::C0,v∉S0:=fun v hv k=>by have:=lt0 v k;have:=geC v hv;omega
 have CS:∀v∈t::C0,v∈s.S:=fun v hv=>(hSm v).2 (.inr hv)
 have frT:∀p∈s.T,s.ix t≤s.ix p.1→p=(t,(nx t).length):=fun p hp hle=>by
  rw[hT]at hp
  rcases List.mem_cons.1 hp with e|hp
  ·exact e
  ·have:=hbl hp;omega
 have Agv:∀v∈C0,MF s.T v:=fun v hv p hp e=>by
  have h1:=hI3.1 v hv
  have:=frT p hp (by rw[e];omega)
  rw[this]at e
  replace e:t=v:=e
  rw[e]at h1;omega
 have Ait:∀v∈t::C0,s.ix t≤s.low v:=fun v hv=>by
  rcases List.mem_cons.1 hv with rfl|hv
  ·omega
  ·have:=h.lc v (CS v (by simp[hv])) (Agv v hv) _ h0 (hI3.1 v hv) fun q hq _=>by
        rw[hT]at hq
        rcases List.mem_cons.1 hq with rfl|hq
        ·exact Nat.le_refl _
        ·exact Nat.le_of_lt (hbl hq)
   replace this:s.low t≤s.low v:=this
   omega
 have Afd:∀v∈t::C0,Jm nx t v:=fun v hv=>h.tR _ h0 v (CS v hv) (geC v hv)
 have toT:∀(n:Nat) (v:Int),v∈t::C0→s.ix v≤n→Jm nx v t:=by
  intro n
  induction n with
  |zero=>
   intro v hv hn
   have:=geC v hv
   rw[h.inj v t (h.sV v (CS v hv)) (h.sV t YF) (by omega)]
   exact .refl
  |succ n ih=>
   intro v hv hn
   rcases List.mem_cons.1 hv with rfl|hvC
   ·exact .refl
   ·obtain⟨_,w,a,b,c⟩:=h.lo v (CS v hv)
    have h1:=h.ll v (CS v hv) (Agv v hvC)
    have h2:=Ait v hv
    exact c.trans (ih w (inC w a (by omega)) (by omega))
 have Agw:∀v∈t::C0,∀w∈nx v,s.vis w:=fun v hv w hw=>by
  rcases List.mem_cons.1 hv with rfl|hvC
  ·obtain⟨j,hj,ej⟩:=List.getElem_of_mem hw
   exact(h.tA _ h0).2 j w hj (by rw[List.getElem?_eq_getElem hj,ej])
  ·exact h.lf v (h.sV v (CS v hv)) (Agv v hvC) w hw
 have out:∀v∈t::C0,∀w∈nx v,w∈t::C0∨(s.vis w∧w∉s.S):=fun v hv w hw=>by
  by_cases hwS:w∈s.S
  ·refine .inl (inC w hwS ?_)
   have h1:=h.le v (CS v hv) w hwS hw fun p hp e=>by
        have:=frT p hp (by rw[e];exact geC v hv)
        subst this
        replace e:t=v:=e
        subst e
        obtain⟨j,hj,ej⟩:=List.getElem_of_mem hw
        exact⟨j,hj,by rw[List.getElem?_eq_getElem hj,ej]⟩
   have h2:=Ait v hv
   omega
  ·exact .inr ⟨Agw v hv w hw,hwS⟩
 have clo:∀{v u:Int},v∈t::C0→Jm nx v u→u∈t::C0∨(s.vis u∧u∉s.S):=fun{v u} hv hr=>by
  refine hr.stay (C:=fun u=>u∈t::C0∨(s.vis u∧u∉s.S)) (fun y hy w hw=>?_) (.inl hv)
  rcases hy with hy|⟨a,b⟩
  ·exact out y hy w hw
  ·exact .inr (h.pp y a b w hw)
 have AkC:∀{v u:Int},v∈t::C0→Jm nx v u→Jm nx u v→u∈t::C0:=fun{v u} hv h1 h2=>by
  rcases clo hv h1 with k|⟨a,b⟩
  ·exact k
  ·have:=h2.stay (C:=fun y=>s.vis y∧y∉s.S) (fun y hy w hw=>h.pp y hy.1 hy.2 w hw) ⟨a,b⟩
   exact absurd (CS v hv) this.2
 have hoff:∀v,MF T0 v→v≠t→MF s.T v:=fun v hv e p hp ep=>by
  rw[hT]at hp
  rcases List.mem_cons.1 hp with rfl|hp
  ·exact e ep.symm
  ·exact hv p hp ep
 have ne0:∀v∈S0,v≠t:=fun v hv e=>by have:=lt0 v hv;rw[e]at this;omega
 have S0S:∀v∈S0,v∈s.S:=fun v hv=>(hSm v).2 (.inl hv)
 refine⟨h.vlt,h.inj,fun v hv=>h.sV v (S0S v hv),hI0,fun p hp=>in0 _ (h.tS p (hin p hp)) (hbl hp),?_,fun p hp v hv=>h.tR p (hin p hp) v (S0S v hv),fun p hp=>h.tA p (hin p hp),?_,?_,?_,?_,?_,?_,?_,?_⟩
 ·have hI:=h.tI
  rw[hT]at hI
  exact(List.pairwise_cons.1 hI).2
 ·intro v hv ho w hw
  by_cases e:v=t
  ·subst e;exact Agw v (by simp) w hw
  ·exact h.lf v hv (hoff v ho e) w hw
 ·intro v hv hns w hw
  by_cases hvS:v∈s.S
  ·have hvC:=((hSm v).1 hvS).resolve_left hns
   refine⟨Agw v hvC w hw,fun k=>?_⟩
   rcases out v hvC w hw with a|⟨_,b⟩
   ·exact AkB w a k
   ·exact b (S0S w k)
  ·have:=h.pp v hv hvS w hw
   exact⟨this.1,fun k=>this.2 (S0S w k)⟩
 ·intro v hv
  obtain⟨a,w,b,c,d⟩:=h.lo v (S0S v hv)
  have:=lt0 v hv
  exact⟨a,w,in0 w b (by omega),c,d⟩
 ·intro v hv w hw he hd
  refine h.le v (S0S v hv) w (S0S w hw) he fun p hp ep=>?_
  rw[hT]at hp
  rcases List.mem_cons.1 hp with rfl|hp
  ·exact absurd ep.symm (ne0 v hv)
  ·exact hd p hp ep
 ·intro v hv ho p hp hlt hmax
  refine h.lc v (S0S v hv) (hoff v ho (ne0 v hv)) p (hin p hp) hlt fun q hq hqv=>?_
  rw[hT]at hq
  rcases List.mem_cons.1 hq with rfl|hq
  ·have:=lt0 v hv
   replace hqv:s.ix t<s.ix v:=hqv
   omega
  ·exact hmax q hq hqv
 ·intro v hv ho
  exact h.ll v (S0S v hv) (hoff v ho (ne0 v hv))
 ·intro v hv
  obtain⟨p,hp,hle⟩:=h.rt v (S0S v hv)
  rw[hT]at hp
  rcases List.mem_cons.1 hp with rfl|hp
  ·have:=lt0 v hv
   replace hle:s.ix t≤s.ix v:=hle
   omega
  ·exact⟨p,hp,hle⟩
 ·intro v hv hns
  classical
  show Least nx v (if v∈t::C0 then x else s.sm v)
  split
  ·rename_i hvC
   refine⟨(toT _ v hvC (Nat.le_refl _)).trans (Afd x hx),(toT _ x hx (Nat.le_refl _)).trans (Afd v hvC),fun u h1 h2=>hmin u (AkC hvC h1 h2)⟩
  ·rename_i hvC
   exact h.ok v hv fun k=>((hSm v).1 k).elim hns hvC
theorem EY.AdV (h:EY nx s) {t:Int} {u:Int×Nat} {k:Nat} {T1:List (Int×Nat)} (hT:s.T=(t,k)::u::T1) (hl:s.low t=s.ix t):min (s.low u.1) (s.low t)=s.low u.1:=by
 have hu:u∈s.T:=by rw[hT];simp
 have h1:=h.below hT (p:=u) (by simp)
 have h2:=(h.lo u.1 (h.tS u hu)).1
 omega
end
theorem QB {α:Type} {l r:List α} {i:Nat} (h:i<l.length):nth (l++r) i=nth l i:=by
 rw[Az,Az,List.getElem?_append_left h]
theorem OC {α:Type} {l:List α} {x:α}:nth (l++[x]) l.length=some x:=by
 rw[Az,List.getElem?_append_right (Nat.le_refl _)];simp
theorem SG {α:Type} {l:List α} {i:Nat} {x y:α} (h:nth l i=some y):nth (l.set i x) i=some x:=by
 rw[Az,List.getElem?_set_self (Dn h)]
theorem WG {α:Type} {l:List α} {i j:Nat} {x:α} (h:i≠j):nth (l.set i x) j=nth l j:=by
 rw[Az,Az,List.getElem?_set_ne h]
structure H9 (σ σ':List Obj) (F:List Nat):Prop where
 len:σ.length≤σ'.length
 eq:∀o,o<σ.length→o∉F→nth σ' o=nth σ o
theorem H9.refl {σ:List Obj} {F:List Nat}:H9 σ σ F:=⟨Nat.le_refl _,fun _ _ _=>rfl⟩
theorem H9.trans {σ σ1 σ2:List Obj} {F F':List Nat} (h:H9 σ σ1 F) (k:H9 σ1 σ2 F'):H9 σ σ2 (F++F'):=
 ⟨Nat.le_trans h.len k.len,fun o ho hf=>by
  rw[List.mem_append]at hf
  exact(k.eq o (Nat.lt_of_lt_of_le ho h.len) fun e=>hf (.inr e)).trans (h.eq o ho fun e=>hf (.inl e))⟩
theorem H9.mono {σ σ':List Obj} {F F':List Nat} (h:H9 σ σ' F) (hf:∀o∈F,o∈F'∨σ.length≤o):H9 σ σ' F':=
 ⟨h.len,fun o ho hn=>h.eq o ho fun hm=>(hf o hm).elim hn fun h=>by omega⟩
theorem H9.get {σ σ':List Obj} {F:List Nat} {o:Nat} {x:Obj} (h:H9 σ σ' F) (hx:nth σ o=some x) (hf:o∉F):nth σ' o=some x:=(h.eq o (Dn hx) hf).trans hx
theorem ND {σ:List Obj} {y:Obj} {K:List Obj→Prop} (h:∀σ',H9 σ σ' []→nth σ' σ.length=some y→σ'.length=σ.length+1→K σ'):Y6 σ y K:=
 (OV _ _ _).2 (h _ ⟨by simp,fun o ho _=>QB ho⟩ OC (by simp))
theorem Jp {σ:List Obj} {o:Nat} {x y:Obj} {K:List Obj→Prop} (hx:nth σ o=some x) (h:∀σ',H9 σ σ' [o]→nth σ' o=some y→σ'.length=σ.length→K σ'):JR σ o y K:=
 (En _ _ _ _).2 (h _ ⟨by simp,fun p hp hn=>WG (by simpa using fun e=>hn (by simp[e]))⟩ (SG hx) (by simp))
theorem Ob {t o g es c':Nat} {sz:Option Nat} {σ:List Obj} {x:AV} {nn cl:Bool} (h:nth σ o=some (.arr g es nn cl [x])):FH [(t,.ref o g 0 0)] ⟨σ,c'⟩ [.cell t sz]=(loadCells x.cells sz).map fun v=>[v]:=by
 have e:Env.get [(t,AV.ref o g 0 0)] t=.ref o g 0 0:=by simp[Env.get]
 have e2:OM [(t,.ref o g 0 0)] ⟨σ,c'⟩ (.cell t sz)=loadCells x.cells sz:=by
  show(match Env.get [(t,AV.ref o g 0 0)] t with
   | .ref o g i off=>match nth σ o with
     |some (.arr g' _ _ _ elems)=>if g=g' then match nth elems i with
         |some x=>loadCells (x.cells.drop off) sz
         |none=>none
      else none
     |_=>none
   |_=>none)=_
  rw[e]
  simp only[h,if_true]
  rfl
 show(match OM [(t,.ref o g 0 0)] ⟨σ,c'⟩ (.cell t sz),some []with
  |some v,some vs=>some (v::vs)
  |_,_=>none)=_
 rw[e2]
 cases loadCells x.cells sz<;>rfl
structure GS where
 a:Nat
 b:Nat
 c:Nat
 d:Nat
 e:Nat
 f:Nat
structure HS (G:GS) (Dl:List (AV×AV)) (cn:Bool) (σ:List Obj) (BR Bv:List (Int×Int)) (stk:AV) (DK:List (Int×Bool)) (DR:List (Int×Int)):Prop where
 h1:nth σ 1=some (.mp G.a cn Dl)
 h2:nth σ 2=some (.mp G.b true (DF BR))
 h3:nth σ 3=some (.mp G.c true (DF Bv))
 h4:nth σ 4=some (.mp G.d true (JE DK))
 h5:nth σ 5=some (.mp G.e true (DF DR))
 h6:nth σ 6=some (.arr G.f 6 true false [.agg [.map 1 G.a,.map 2 G.b,.map 3 G.c,stk,.map 4 G.d,.map 5 G.e]])
section
variable {G:GS} {Dl:List (AV×AV)} {cn:Bool} {σ:List Obj} {BR Bv DR:List (Int×Int)} {DK:List (Int×Bool)} {stk:AV}
theorem HS.keep {σ':List Obj} {F:List Nat} (h:HS G Dl cn σ BR Bv stk DK DR) (f:H9 σ σ' F) (hF:∀o∈F,6<o):HS G Dl cn σ' BR Bv stk DK DR:=by
 have hn:∀o,o≤6→o∉F:=fun o ho hm=>by have:=hF o hm;omega
 exact⟨f.get h.h1 (hn _ (by omega)),f.get h.h2 (hn _ (by omega)),f.get h.h3 (hn _ (by omega)),f.get h.h4 (hn _ (by omega)),f.get h.h5 (hn _ (by omega)),f.get h.h6 (hn _ (by omega))⟩
theorem HS.AiE {M:List (Int×Int)} {K:List Obj→Prop} (h:HS G Dl cn σ BR Bv stk DK DR) (hK:∀σ',HS G Dl cn σ' M Bv stk DK DR→H9 σ σ' [2]→σ'.length=σ.length→K σ'):JR σ 2 (.mp G.b true (DF M)) K:=
 Jp h.h2 fun σ' f k l=>hK σ' ⟨f.get h.h1 (by simp),k,f.get h.h3 (by simp),f.get h.h4 (by simp),f.get h.h5 (by simp),f.get h.h6 (by simp)⟩ f l
theorem HS.XJ {M:List (Int×Int)} {K:List Obj→Prop} (h:HS G Dl cn σ BR Bv stk DK DR) (hK:∀σ',HS G Dl cn σ' BR M stk DK DR→H9 σ σ' [3]→σ'.length=σ.length→K σ'):JR σ 3 (.mp G.c true (DF M)) K:=
 Jp h.h3 fun σ' f k l=>hK σ' ⟨f.get h.h1 (by simp),f.get h.h2 (by simp),k,f.get h.h4 (by simp),f.get h.h5 (by simp),f.get h.h6 (by simp)⟩ f l
theorem HS.Adg {M:List (Int×Bool)} {K:List Obj→Prop} (h:HS G Dl cn σ BR Bv stk DK DR) (hK:∀σ',HS G Dl cn σ' BR Bv stk M DR→H9 σ σ' [4]→σ'.length=σ.length→K σ'):JR σ 4 (.mp G.d true (JE M)) K:=
 Jp h.h4 fun σ' f k l=>hK σ' ⟨f.get h.h1 (by simp),f.get h.h2 (by simp),f.get h.h3 (by simp),k,f.get h.h5 (by simp),f.get h.h6 (by simp)⟩ f l
theorem HS.AjE {M:List (Int×Int)} {K:List Obj→Prop} (h:HS G Dl cn σ BR Bv stk DK DR) (hK:∀σ',HS G Dl cn σ' BR Bv stk DK M→H9 σ σ' [5]→σ'.length=σ.length→K σ'):JR σ 5 (.mp G.e true (DF M)) K:=
 Jp h.h5 fun σ' f k l=>hK σ' ⟨f.get h.h1 (by simp),f.get h.h2 (by simp),f.get h.h3 (by simp),f.get h.h4 (by simp),k,f.get h.h6 (by simp)⟩ f l
theorem HS.Adh {Ii:AV} {K:List Obj→Prop} (h:HS G Dl cn σ BR Bv stk DK DR) (hK:∀σ',HS G Dl cn σ' BR Bv Ii DK DR→H9 σ σ' [6]→σ'.length=σ.length→K σ'):JR σ 6 (.arr G.f 6 true false [.agg [.map 1 G.a,.map 2 G.b,.map 3 G.c,Ii,.map 4 G.d,.map 5 G.e]]) K:=
 Jp h.h6 fun σ' f k l=>hK σ' ⟨f.get h.h1 (by simp),f.get h.h2 (by simp),f.get h.h3 (by simp),f.get h.h4 (by simp),f.get h.h5 (by simp),k⟩ f l
end
theorem TK {α β:Type} [DecidableEq α] {M:List (α×β)} {k:α} {v:β}:Bh (BO M k v) k=some v:=by rw[Dh,if_pos rfl]
theorem Uo {M:List (Int×Int)} {k v:Int} {K:Option (Nat×AV)→Prop} (h:Bh M k=some v) (hK:∀i,K (some (i,.int .i64 v))):Je .int (.int .i64 k) (DF M) K:=
 fkI (fun hm=>by rw[h]at hm;cases hm) fun i w hm=>by
  rw[h]at hm
  cases hm
  exact hK i
theorem fkZ {M:List (Int×Int)} {k:Int} {K:Option (Nat×AV)→Prop} (h:Bh M k=none) (hK:K none):Je .int (.int .i64 k) (DF M) K:=
 fkI (fun _=>hK) fun i w hm=>by rw[h]at hm;cases hm
theorem msH {M:List (Int×Int)} {k:Int} {n n':Nat} {K:List (AV×AV)→Prop} (e:n=n') (h:K (DF (BO M k n'))):SS .int (.int .i64 k) (.int .i64 n) (DF M) K:=by
 subst e;exact msI h
theorem apJ {α:Type} {f:α→AV} {es g n bytes:Nat} {cl:Bool} {S J:List α} {m:α} {K:Nat→Bool→Bool→List AV→Prop} (hf:∀x,(f x).cells.length=es) (hn:n=S.length) (hr:(S.length+1)*bytes≤2 ^ 46) (h:K (S.length+1) true cl (vs f (S++[m]))):
 JG g g es es n true cl true (vs f (S++J)) [f m] bytes K:=by
 subst hn
 refine⟨⟨rfl,rfl,by simp,by intro y hy;simp at hy;subst hy;exact hf m,Jh hr⟩,?_⟩
 have e:(vs f (S++J)).take S.length++[f m]=vs f (S++[m]):=by
  simp[vs]
 rw[e,Bool.and_true]
 simpa using h
set_option maxHeartbeats 4000000 in
theorem Akb {G:GS} {Dl:List (AV×AV)} {cn:Bool} {σ:List Obj} {BR Bv DR:List (Int×Int)} {DK:List (Int×Bool)} {c:Nat} {m:Int} (hS:HS G Dl cn σ BR Bv (.sl false []) DK DR) (hm:Bh BR m=none) (hl:BR.length<2^40):
 AY (Ac tab) 57 [.ref 6 G.f 0 0,.int .i64 m] ⟨σ,c⟩
  fun out s'=>∃σ' c' o g,out=.ok (.agg [.int .i64 m,.int .i64 0])∧s'=⟨σ',c'⟩∧HS G Dl cn σ' (BO BR m BR.length) (BO Bv m BR.length) (.own o g 0 1) (BO DK m true) DR∧nth σ' o=some (.arr g 1 true true (vs (.int .i64) [m]))∧σ.length≤o∧H9 σ σ' [2,3,4,6]:=by
 have hML:(DF BR).length=BR.length:=List.length_map _
 have hlt:=Dn hS.h6
 refine AL rfl rfl ?_
 (conv=>whnf);repeat' (first|(refine ND fun σ1 ff k1 l1=>?_;have hS:=hS.keep ff (by simp);replace k1:nth σ1 σ.length=some (.arr c 2 true true [.agg [.int .i64 0,.int .i64 0]]):=k1;replace l1:σ1.length=σ.length+1:=l1;replace ff:H9 σ σ1 []:=ff;conv=>whnf)|(rw [hS.h6];conv=>whnf)|(rw [hS.h2];conv=>whnf)|(rw [hS.h3];conv=>whnf)|(rw [hS.h4];conv=>whnf)|(refine Uo TK (fun _=>?_);conv=>whnf)|(refine msH hML ?_;conv=>whnf)|(refine msI ?_;conv=>whnf)|(refine msT ?_;conv=>whnf)|(refine hS.AiE fun σ1 hS f l=>?_;have k1:=f.get k1 (by simp;omega);have ff:=ff.trans f;conv=>whnf)|(refine hS.XJ fun σ1 hS f l=>?_;have k1:=f.get k1 (by simp;omega);have ff:=ff.trans f;conv=>whnf)|(refine hS.Adg fun σ1 hS f l=>?_;have k1:=f.get k1 (by simp;omega);have ff:=ff.trans f;conv=>whnf)|(refine hS.Adh fun σ1 hS f l=>?_;have k1:=f.get k1 (by simp;omega);have ff:=ff.trans f;conv=>whnf)|(rw [k1];conv=>whnf)|(refine kA ?_;conv=>whnf)|(refine Br.mk (fun hc=>?_) fun hc=>?_<;>first|exact hc.elim|conv=>whnf)|(refine kB ?_))
 dsimp only[push,List.isEmpty_cons,List.length_singleton]
 obtain⟨σ2,hσ2⟩:∃σ2,σ2=σ1++[Obj.arr (c+1) 1 (!false) true [.int .i64 m]]:=⟨_,rfl⟩
 rw[← hσ2]
 have f2:H9 σ1 σ2 []:=by rw[hσ2];exact⟨by simp,fun o ho _=>QB ho⟩
 have q2:nth σ2 σ1.length=some (.arr (c+1) 1 true true [.int .i64 m]):=by rw[hσ2];exact OC
 have hlt1:σ.length≠σ1.length:=by omega
 have hl1:6<σ1.length:=by omega
 replace hS:=hS.keep f2 (by simp)
 replace k1:=f2.get k1 (by simp)
 replace ff:=ff.trans f2
 conv=>whnf
 (conv=>whnf);repeat' (first|(rw [hS.h6];conv=>whnf)|(rw [hS.h4];conv=>whnf)|(refine msT ?_;conv=>whnf)|(refine hS.Adg fun σ1 hS f l=>?_;have k1:=f.get k1 (by simp;omega);have q2:=f.get q2 (by simp;omega);have ff:=ff.trans f;conv=>whnf)|(refine hS.Adh fun σ1 hS f l=>?_;have k1:=f.get k1 (by simp;omega);have q2:=f.get q2 (by simp;omega);have ff:=ff.trans f;conv=>whnf)|(rw [k1];conv=>whnf)|(refine Jp k1 fun σ1 f k1 l=>?_;have hS:=hS.keep f (by simp;omega);have q2:=f.get q2 (by simp;omega);have ff:=ff.trans f;conv=>whnf)|(refine kA ?_;conv=>whnf)|(refine Br.mk (fun hc=>?_) fun hc=>?_<;>first|exact hc.elim|conv=>whnf)|(refine kB ?_))
 refine Aj ((Ob (t:=4) (sz:=some 2) k1).trans rfl) ?_
 exact⟨_,_,_,_,rfl,rfl,hS,q2,by omega,ff.mono (by simp)⟩
set_option maxHeartbeats 4000000 in
theorem Ah6 {G:GS} {Dl:List (AV×AV)} {cn:Bool} {σ:List Obj} {BR Bv DR:List (Int×Int)} {DK:List (Int×Bool)} {c q gs n:Nat} {S J:List Int} {m:Int} (hS:HS G Dl cn σ BR Bv (.own q gs 0 n) DK DR) (hn:n=S.length) (hm:Bh BR m=none) (hl:S.length<2^40)
 (hq:nth σ q=some (.arr gs 1 true true (vs (.int .i64) (S++J)))) (hq6:6<q):
 AY (Ac tab) 57 [.ref 6 G.f 0 0,.int .i64 m] ⟨σ,c⟩
  fun out s'=>∃σ' c' g,out=.ok (.agg [.int .i64 m,.int .i64 0])∧s'=⟨σ',c'⟩∧HS G Dl cn σ' (BO BR m BR.length) (BO Bv m BR.length) (.own q g 0 (S.length+1)) (BO DK m true) DR∧nth σ' q=some (.arr g 1 true true (vs (.int .i64) (S++[m])))∧H9 σ σ' [2,3,4,6,q]:=by
 subst hn
 have hML:(DF BR).length=BR.length:=List.length_map _
 have hlt:=Dn hS.h6
 have hqσ:σ.length≠q:=by have:=Dn hq;omega
 refine AL rfl rfl ?_
 (conv=>whnf);repeat' (first|(refine ND fun σ1 ff k1 l1=>?_;have hS:=hS.keep ff (by simp);replace k1:nth σ1 σ.length=some (.arr c 2 true true [.agg [.int .i64 0,.int .i64 0]]):=k1;have hq:=ff.get hq (by simp);replace ff:H9 σ σ1 []:=ff;conv=>whnf)|(rw [hS.h6];conv=>whnf)|(rw [hS.h2];conv=>whnf)|(rw [hS.h3];conv=>whnf)|(rw [hS.h4];conv=>whnf)|(rw [hq];conv=>whnf)|(rw [k1];conv=>whnf)|(refine Uo TK (fun _=>?_);conv=>whnf)|(refine msH hML ?_;conv=>whnf)|(refine msI ?_;conv=>whnf)|(refine msT ?_;conv=>whnf)|(refine apJ (f:=.int .i64) (S:=S) (J:=J) (m:=m) (fun _=>rfl) rfl (by omega) ?_;conv=>whnf)|(refine hS.AiE fun σ1 hS f l=>?_;have k1:=f.get k1 (by simp;omega);have hq:=f.get hq (by simp;omega);have ff:=ff.trans f;conv=>whnf)|(refine hS.XJ fun σ1 hS f l=>?_;have k1:=f.get k1 (by simp;omega);have hq:=f.get hq (by simp;omega);have ff:=ff.trans f;conv=>whnf)|(refine hS.Adg fun σ1 hS f l=>?_;have k1:=f.get k1 (by simp;omega);have hq:=f.get hq (by simp;omega);have ff:=ff.trans f;conv=>whnf)|(refine hS.Adh fun σ1 hS f l=>?_;have k1:=f.get k1 (by simp;omega);have hq:=f.get hq (by simp;omega);have ff:=ff.trans f;conv=>whnf)|(refine Jp hq fun σ1 f hq l=>?_;have hS:=hS.keep f (by simp;omega);have k1:=f.get k1 (by simp;omega);have ff:=ff.trans f;conv=>whnf)|(refine Jp k1 fun σ1 f k1 l=>?_;have hS:=hS.keep f (by simp;omega);have hq:=f.get hq (by simp;omega);have ff:=ff.trans f;conv=>whnf)|(refine kA ?_;conv=>whnf)|(refine Br.mk (fun hc=>?_) fun hc=>?_<;>first|exact hc.elim|conv=>whnf)|(refine kB ?_))
 refine Aj ((Ob (t:=4) (sz:=some 2) k1).trans rfl) ?_
 exact⟨_,_,_,rfl,rfl,hS,hq,ff.mono (by simp)⟩
def Fst (l:List Int) (x:Int) (i:Nat):Prop:=l[i]?=some x∧x∉l.take i
theorem Zy {S0 C0:List Int} {t:Int} (h:t∉S0):Fst (S0++t::C0) t S0.length:=⟨by simp,by simpa using h⟩
set_option maxHeartbeats 1000000 in
theorem AjC {l:List Int} {x:Int} {k:Nat} {nn:Bool} (hl:l.length<2^62) (hk:Fst l x k):AQ (Ac tab) 84 [.sl nn (vs (.int .i64) l),.int .i64 x] (· =.int .i64 k):=by
 have hkl:k<l.length:=(List.getElem?_eq_some_iff.1 hk.1).1
 have hkx:l[k]=x:=(List.getElem?_eq_some_iff.1 hk.1).2
 have hno:∀i (h:i<k),l[i]'(by omega)≠x:=fun i h e=>hk.2 (by rw[List.mem_take_iff_getElem];exact⟨i,by omega,e⟩)
 refine Ai rfl rfl ?_
 (conv=>whnf);repeat' (first  |(refine kA ?_;conv=>whnf)|(refine Br.mk (fun hc=>?_) fun hc=>?_<;>first|exact hc.elim|conv=>whnf)|(refine kB ?_))
 refine Ah (fun m env s=>∃i:Nat,m=l.length-i∧i≤k∧env=[(0,.sl nn (vs (.int .i64) l)),(1,.int .i64 x),(7,.int .i64 l.length),(8,.int .i64 i)]∧s=⟨[],0⟩) ?_ _ _ _ ⟨0,rfl,by omega,rfl,rfl⟩
 rintro _ _ _ ⟨i,rfl,hi,rfl,rfl⟩
 refine⟨rfl,?_⟩
 have hlt:i<l.length:=by omega
 by_cases e:i=k
 ·subst e
  clear hno
  (conv=>whnf);repeat' (first  |(refine kA ?_;conv=>whnf)|(refine Br.mk (fun hc=>?_) fun hc=>?_<;>first|exact hc.elim|conv=>whnf)|(refine kB ?_))
  all_goals first
   |(exfalso;omega)
   |rfl
   |exact absurd hkx.symm ‹_›
 ·have h1:=hno i (by omega)
  (conv=>whnf);repeat' (first  |(refine kA ?_;conv=>whnf)|(refine Br.mk (fun hc=>?_) fun hc=>?_<;>first|exact hc.elim|conv=>whnf)|(refine kB ?_))
  all_goals first
   |(exfalso;omega)
   |exact again.mk ⟨_,by omega,i+1,rfl,by omega,rfl,rfl⟩
   |exact absurd (Eq.symm ‹_›) h1
set_option maxHeartbeats 1000000 in
theorem AjD {l:List Int} {nn:Bool} (hl:l.length<2^62) (h0:l≠[]):AQ (Ac tab) 85 [.sl nn (vs (.int .i64) l)] (fun v=>∃x∈l,(∀ u∈l,x≤u)∧v=.int .i64 x):=by
 have hpos:0<l.length:=List.length_pos_iff.2 h0
 refine Ai rfl rfl ?_
 (conv=>whnf);repeat' (first  |(refine kA ?_;conv=>whnf)|(refine Br.mk (fun hc=>?_) fun hc=>?_<;>first|exact hc.elim|conv=>whnf)|(refine kB ?_))
 all_goals first|(exfalso;omega)|skip
 refine Ah (fun m env s=>∃(i:Nat) (x:Int),m=l.length-i∧1≤i∧i≤l.length∧x∈l∧(∀ u∈l.take i,x≤u)∧env=[(0,.sl nn (vs (.int .i64) l)),(3,.int .i64 x),(4,.int .i64 i)]∧s=⟨[],0⟩) ?_ _ _ _ ⟨1,_,rfl,by omega,by omega,List.getElem_mem hpos,?_,rfl,rfl⟩
 ·rintro _ _ _ ⟨i,x,rfl,h1,hi,hx,hle,rfl,rfl⟩
  refine⟨rfl,?_⟩
  by_cases hlt:i<l.length
  ·have hT:=List.take_succ_eq_append_getElem hlt
   (conv=>whnf);repeat' (first  |(refine kA ?_;conv=>whnf)|(refine Br.mk (fun hc=>?_) fun hc=>?_<;>first|exact hc.elim|conv=>whnf)|(refine kB ?_))
   all_goals first
        |(exfalso;omega)
        |exact again.mk ⟨_,by omega,i+1,_,rfl,by omega,by omega,(by split;exact List.getElem_mem hlt;exact hx),(by
          intro u hu
          rw[hT,List.mem_append,List.mem_singleton]at hu
          rcases hu with hu|rfl
          ·have:=hle u hu;split<;>omega
          ·split<;>omega),rfl,rfl⟩
  ·rw[List.take_of_length_le (by omega)]at hle
   (conv=>whnf);repeat' (first  |(refine kA ?_;conv=>whnf)|(refine Br.mk (fun hc=>?_) fun hc=>?_<;>first|exact hc.elim|conv=>whnf)|(refine kB ?_))
   all_goals first
        |(exfalso;omega)
        |exact⟨x,hx,hle,rfl⟩
 ·intro u hu
  rw[List.mem_take_iff_getElem]at hu
  obtain⟨j,hj,rfl⟩:=hu
  have:j=0:=by omega
  subst this
  exact Int.le_refl _
end AI
end Go.Proofs.YtjjhejbffgaabaaGreatDoor
