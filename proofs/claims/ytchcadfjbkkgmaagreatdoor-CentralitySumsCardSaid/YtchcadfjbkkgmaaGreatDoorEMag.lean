/- Walks counted by their length; distances; numbers of shortest walks: plain. A search by levels: what holds on its way: plain. reach: distances and numbers of shortest walks, the program's. Sorting numbers in place: the order. A call of an entry that the model answers. Sorting numbers in place: slices.Sort as an entry of the table. Maps of the call's own: entries struck out; maps to truth values. -/
import Derived.Test.YtchcadfjbkkgmaaGreatDoorEMaf
import Derived.Test.YtchcadfjbkkgmaaGreatDoorEMae
import Derived.Test.YtchcadfjbkkgmaaGreatDoorEVa
import Derived.Test.YtchcadfjbkkgmaaGreatDoorESqI
set_option linter.unusedVariables false
set_option maxRecDepth 4000
namespace Go.Proofs.YtchcadfjbkkgmaaGreatDoor
namespace AI
def sg:Nat→(Nat→Nat)→Nat
 |0,_=>0
 |n+1,f=>sg n f+f n
theorem CV {f g:Nat→Nat}:∀{n:Nat},(∀ i,i<n→f i=g i)→sg n f=sg n g
 |0,_=>rfl
 |n+1,h=>by
  show sg n f+f n=sg n g+g n
  rw[CV fun i hi=>h i (by omega),h n (by omega)]
theorem V7 {f g:Nat→Nat}:∀{n:Nat},(sg n fun i=>f i+g i)=sg n f+sg n g
 |0=>rfl
 |n+1=>by
  have:=V7 (f:=f) (g:=g) (n:=n)
  simp only[sg];omega
theorem PW {c:Nat} {f:Nat→Nat}:∀{n:Nat},(sg n fun i=>c*f i)=c*sg n f
 |0=>by simp[sg]
 |n+1=>by
  have:=PW (c:=c) (f:=f) (n:=n)
  simp only[sg,Nat.mul_add,this]
theorem Afo {c:Nat} {f:Nat→Nat} {n:Nat}:(sg n fun i=>f i*c)=sg n f*c:=by
 rw[Nat.mul_comm,←PW]
 exact CV fun i _=>Nat.mul_comm _ _
theorem F9 {f:Nat→Nat}:∀{n:Nat},(∀ i,i<n→f i=0)→sg n f=0
 |0,_=>rfl
 |n+1,h=>by
  show sg n f+f n=0
  rw[F9 fun i hi=>h i (by omega),h n (by omega)]
theorem MI {f:Nat→Nat→Nat} {m:Nat}:∀{n:Nat},(sg n fun i=>sg m (f i))=sg m fun j=>sg n fun i=>f i j
 |0=>(F9 fun _ _=>rfl).symm
 |n+1=>by
  have:=MI (f:=f) (m:=m) (n:=n)
  simp only[sg]
  rw[this,←V7]
theorem XE {f:Nat→Nat} {i:Nat}:∀{n:Nat},i<n→(sg n fun j=>if j=i then f j else 0)=f i
 |n+1,h=>by
  show(sg n fun j=>if j=i then f j else 0)+(if n=i then f n else 0)=f i
  by_cases e:n=i
  ·subst e
   rw[if_pos rfl,F9 fun j hj=>if_neg (by omega),Nat.zero_add]
  ·rw[if_neg e,XE (by omega),Nat.add_zero]
theorem Jf {f g:Nat→Nat}:∀{n:Nat},(∀ i,i<n→f i≤g i)→sg n f≤sg n g
 |0,_=>Nat.le_refl _
 |n+1,h=>by
  have:=Jf (f:=f) (g:=g) (n:=n) fun i hi=>h i (by omega)
  have:=h n (by omega)
  simp only[sg];omega
theorem S9 {f:Nat→Nat} {i:Nat}:∀{n:Nat},i<n→f i≤sg n f
 |n+1,h=>by
  show f i≤sg n f+f n
  by_cases e:n=i
  ·subst e;omega
  ·have:=S9 (f:=f) (i:=i) (n:=n) (by omega);omega
theorem Zh {f:Nat→Nat}:∀{n:Nat},0<sg n f→∃i,i<n∧0<f i
 |0,h=>by simp[sg]at h
 |n+1,h=>by
  by_cases e:0<f n
  ·exact⟨n,by omega,e⟩
  ·obtain⟨i,hi,hp⟩:=Zh (f:=f) (n:=n) (by simp only[sg]at h;omega)
   exact⟨i,by omega,hp⟩
theorem G5 {c:Nat}:∀{n:Nat},(sg n fun _=>c)=n*c
 |0=>by simp[sg]
 |n+1=>by simp only[sg,G5 (n:=n),Nat.succ_mul]
theorem Aau {p:Nat→Prop} [DecidablePred p]:∀{n:Nat},(∀ i j,p i→p j→i=j)→(sg n fun i=>if p i then 1 else 0)≤1
 |0,_=>by simp[sg]
 |n+1,h=>by
  show(sg n fun i=>if p i then 1 else 0)+(if p n then 1 else 0)≤1
  by_cases e:p n
  ·rw[if_pos e,F9 fun j hj=>if_neg fun hp=>by have:=h j n hp e;omega]
   exact Nat.le_refl _
  ·rw[if_neg e]
   exact Aau h
section
variable (A:Nat→Nat→Bool) (n:Nat)
def wk (i:Nat):Nat→Nat→Nat
 |0,v=>if v=i then 1 else 0
 |d+1,v=>sg n fun u=>if A u v then wk i d u else 0
def Ds (i v d:Nat):Prop:=0<wk A n i d v∧∀e,e<d→wk A n i e v=0
instance (i v d:Nat):Decidable (Ds A n i v d):=by unfold Ds;infer_instance
def dsO (i v:Nat):Option Nat:=(List.range n).find? fun d=>decide (Ds A n i v d)
def JC (i v:Nat):Int:=match dsO A n i v with|some d=>(d:Int)|none=>-1
def Gu (i v:Nat):Nat:=match dsO A n i v with|some d=>wk A n i d v|none=>0
variable {A:Nat→Nat→Bool} {n:Nat}
theorem V8 {a:Nat}:∀{b i t:Nat},t<n→wk A n i (a+b) t=sg n fun v=>wk A n i a v*wk A n v b t
 |0,i,t,ht=>by
  show wk A n i a t=sg n fun v=>wk A n i a v*(if t=v then 1 else 0)
  rw[← XE (f:=fun v=>wk A n i a v) ht]
  exact CV fun v _=>by
   by_cases h:v=t
   ·subst h;simp
   ·rw[if_neg h,if_neg (fun e:t=v=>h e.symm),Nat.mul_zero]
 |b+1,i,t,ht=>by
  show(sg n fun u=>if A u t then wk A n i (a+b) u else 0)=sg n fun v=>wk A n i a v*sg n fun u=>if A u t then wk A n v b u else 0
  have e1:(sg n fun u=>if A u t then wk A n i (a+b) u else 0)=sg n fun u=>sg n fun v=>wk A n i a v*if A u t then wk A n v b u else 0:=CV fun u hu=>by
   by_cases h:A u t
   ·simp only[h,if_true];exact V8 hu
   ·simp only[h];exact(F9 fun _ _=>by simp).symm
  rw[e1,MI]
  exact CV fun v _=>PW
theorem Aht {p:Nat→Prop} {d:Nat} (h:p d):∃e,e≤d∧p e∧∀k,k<e→¬p k:=by
 induction d using Nat.strongRecOn with
 |ind d ih=>
  by_cases hd:∃k,k<d∧p k
  ·obtain⟨k,hk,hp⟩:=hd
   obtain⟨e,he,h1,h2⟩:=ih k hk hp
   exact⟨e,by omega,h1,h2⟩
  ·exact⟨d,Nat.le_refl _,h,fun k hk hp=>hd ⟨k,hk,hp⟩⟩
theorem Ago {i v d:Nat} (h:0<wk A n i d v):∃e,e≤d∧Ds A n i v e:=by
 obtain⟨e,he,h1,h2⟩:=Aht (p:=fun e=>0<wk A n i e v) h
 exact⟨e,he,h1,fun k hk=>by have:=h2 k hk;omega⟩
theorem Ds.uniq {i v d e:Nat} (h:Ds A n i v d) (k:Ds A n i v e):d=e:=by
 by_cases h1:d<e
 ·have:=k.2 d h1;have:=h.1;omega
 ·by_cases h2:e<d
  ·have:=h.2 e h2;have:=k.1;omega
  ·omega
theorem Gf {i v:Nat}:Ds A n i v 0↔v=i:=by
 constructor
 ·intro h
  have h1:0<(if v=i then 1 else 0):=h.1
  by_cases e:v=i
  ·exact e
  ·rw[if_neg e]at h1;omega
 ·rintro rfl
  exact⟨by show 0<(if v=v then 1 else 0);rw[if_pos rfl];omega,fun e he=>by omega⟩
theorem V9 {i u v d:Nat} (hu:u<n) (ha:A u v=true) (h:0<wk A n i d u):0<wk A n i (d+1) v:=by
 have:=S9 (f:=fun u=>if A u v then wk A n i d u else 0) hu
 simp only[ha,if_true]at this
 show 0<sg n _
 omega
theorem J8 {i v d:Nat}:Ds A n i v (d+1)↔(∀ e,e≤d→¬Ds A n i v e)∧∃u,u<n∧A u v=true∧Ds A n i u d:=by
 constructor
 ·intro h
  refine⟨fun e he k=>by have:=h.uniq k;omega,?_⟩
  obtain⟨u,hu,hp⟩:=Zh (n:=n) (f:=fun u=>if A u v then wk A n i d u else 0) h.1
  by_cases ha:A u v=true
  ·simp only[ha,if_true]at hp
   refine⟨u,hu,ha,hp,fun e he=>?_⟩
   by_cases h0:0<wk A n i e u
   ·have:=V9 hu ha h0
    have:=h.2 (e+1) (by omega)
    omega
   ·omega
  ·simp only[ha]at hp
   exact absurd hp (by simp)
 ·rintro⟨h1,u,hu,ha,h2⟩
  refine⟨V9 hu ha h2.1,fun e he=>?_⟩
  by_cases h0:0<wk A n i e v
  ·obtain⟨k,hk,hd⟩:=Ago h0
   exact absurd hd (h1 k (by omega))
  ·omega
theorem Ls {i v d:Nat} (h:Ds A n i v (d+1)):wk A n i (d+1) v=sg n fun u=>if A u v=true∧Ds A n i u d then wk A n i d u else 0:=by
 show(sg n fun u=>if A u v then wk A n i d u else 0)=_
 refine CV fun u hu=>?_
 by_cases ha:A u v=true
 ·rw[if_pos ha]
  by_cases hd:Ds A n i u d
  ·rw[if_pos ⟨ha,hd⟩]
  ·rw[if_neg fun e=>hd e.2]
   by_cases h0:0<wk A n i d u
   ·obtain⟨e,he,k⟩:=Ago h0
    have hlt:e<d:=by
      by_cases e':e=d
      ·subst e';exact absurd k hd
      ·omega
    have:=V9 hu ha k.1
    have:=h.2 (e+1) (by omega)
    omega
   ·omega
 ·rw[if_neg ha,if_neg fun e=>ha e.1]
theorem Rh {i:Nat}:∀{d v:Nat},v<n→Ds A n i v d→∀e,e≤d→∃u,u<n∧Ds A n i u e
 |0,v,hv,h,e,he=>by
  obtain rfl:e=0:=by omega
  exact⟨v,hv,h⟩
 |d+1,v,hv,h,e,he=>by
  by_cases e':e=d+1
  ·subst e';exact⟨v,hv,h⟩
  ·obtain⟨_,w,hw,_,hd⟩:=J8.1 h
   exact Rh hw hd e (by omega)
def lvN (A:Nat→Nat→Bool) (n i e:Nat):Nat:=sg n fun v=>if Ds A n i v e then 1 else 0
theorem Adr {i m:Nat}:sg m (lvN A n i)≤n:=by
 unfold lvN
 rw[MI]
 have h:=Jf (n:=n) (f:=fun v=>sg m fun e=>if Ds A n i v e then 1 else 0) (g:=fun _=>1) fun v _=>Aau fun a b h k=>Ds.uniq h k
 rw[G5]at h
 omega
theorem Ahu {i v d:Nat} (hv:v<n) (h:Ds A n i v d):1≤lvN A n i d:=by
 have:=S9 (n:=n) (f:=fun v=>if Ds A n i v d then 1 else 0) hv
 simp only[h,if_true]at this
 exact this
theorem Ads {i v d:Nat} (hi:i<n) (hv:v<n) (h:Ds A n i v d):d<n:=by
 have h1:=Adr (A:=A) (n:=n) (i:=i) (m:=d+1)
 have h2:=Jf (n:=d+1) (f:=fun _=>1) (g:=lvN A n i) fun e he=>by
  obtain⟨u,hu,hd⟩:=Rh hv h e (by omega)
  exact Ahu hu hd
 rw[G5]at h2
 omega
theorem Adt {i:Nat}:∀{d v:Nat},Ds A n i v d→wk A n i d v≤2 ^ sg d (lvN A n i)
 |0,v,h=>by
  show(if v=i then 1 else 0)≤1
  split<;>omega
 |d+1,v,h=>by
  rw[Ls h]
  have h1:=Jf (n:=n) (f:=fun u=>if A u v=true∧Ds A n i u d then wk A n i d u else 0) (g:=fun u=>(if Ds A n i u d then 1 else 0)*2 ^ sg d (lvN A n i)) fun u hu=>by
   by_cases k:Ds A n i u d
   ·by_cases ha:A u v=true
    ·simp only[ha,k,and_self,if_true,Nat.one_mul];exact Adt k
    ·rw[if_neg fun e=>ha e.1];exact Nat.zero_le _
   ·rw[if_neg fun e=>k e.2];exact Nat.zero_le _
  rw[Afo]at h1
  have h2:sg (d+1) (lvN A n i)=sg d (lvN A n i)+lvN A n i d:=rfl
  have h3:(sg n fun u=>if Ds A n i u d then 1 else 0)=lvN A n i d:=rfl
  rw[h2,Nat.pow_add,Nat.mul_comm (2 ^ sg d (lvN A n i))]
  rw[h3]at h1
  exact Nat.le_trans h1 (Nat.mul_le_mul_right _ (Nat.le_of_lt Nat.lt_two_pow_self))
theorem YP {i v d:Nat} (h:Ds A n i v d):wk A n i d v≤2 ^ n:=Nat.le_trans (Adt h) (Nat.pow_le_pow_right (by omega) Adr)
theorem Ri {i v d:Nat} (hi:i<n) (hv:v<n):dsO A n i v=some d↔Ds A n i v d:=by
 constructor
 ·intro h
  exact of_decide_eq_true (List.find?_some (p:=fun d=>decide (Ds A n i v d)) h)
 ·intro h
  cases hf:dsO A n i v with
  |none=>
   have:=List.find?_eq_none.1 hf d (List.mem_range.2 (Ads hi hv h))
   exact absurd (decide_eq_true h) this
  |some e=>
   have:Ds A n i v e:=of_decide_eq_true (List.find?_some (p:=fun d=>decide (Ds A n i v d)) hf)
   rw[h.uniq this]
theorem Tc {i v:Nat} (hi:i<n) (hv:v<n):dsO A n i v=none↔∀d,¬Ds A n i v d:=by
 constructor
 ·intro h d k
  rw[(Ri hi hv).2 k]at h;cases h
 ·intro h
  cases hf:dsO A n i v with
  |none=>rfl
  |some e=>exact absurd ((Ri hi hv).1 hf) (h e)
theorem Ia {i v d:Nat} (hi:i<n) (hv:v<n):JC A n i v=d↔Ds A n i v d:=by
 rw[← Ri hi hv]
 unfold JC
 cases dsO A n i v with
 |none=>simp
 |some e=>simp;omega
theorem Ahv {i v:Nat}:-1≤JC A n i v:=by
 unfold JC
 split<;>omega
theorem YZ {i v:Nat} (hi:i<n) (hv:v<n):JC A n i v<n:=by
 by_cases h:∃d,Ds A n i v d
 ·obtain⟨d,h⟩:=h
  rw[(Ia hi hv).2 h]
  have:=Ads hi hv h
  omega
 ·unfold JC
  rw[(Tc hi hv).2 fun d hd=>h ⟨d,hd⟩]
  show(-1:Int)<n
  omega
theorem Rj {i v:Nat} (hi:i<n) (hv:v<n):JC A n i v=-1↔∀d,¬Ds A n i v d:=by
 rw[← Tc hi hv]
 unfold JC
 cases dsO A n i v with
 |none=>simp
 |some e=>simp
theorem JG {i v:Nat} (hi:i<n) (hv:v<n):JC A n i v=-1∨∃d,JC A n i v=(d:Nat)∧Ds A n i v d:=by
 by_cases h:∃d,Ds A n i v d
 ·obtain⟨d,h⟩:=h
  exact .inr ⟨d,(Ia hi hv).2 h,h⟩
 ·exact .inl ((Rj hi hv).2 fun d hd=>h ⟨d,hd⟩)
theorem J9 {i v d:Nat} (hi:i<n) (hv:v<n) (h:Ds A n i v d):Gu A n i v=wk A n i d v:=by
 unfold Gu
 rw[(Ri hi hv).2 h]
theorem XF {i v:Nat} (hi:i<n) (hv:v<n) (h:JC A n i v=-1):Gu A n i v=0:=by
 unfold Gu
 rw[(Tc hi hv).2 ((Rj hi hv).1 h)]
theorem Ahw {i v:Nat} (hi:i<n) (hv:v<n):Gu A n i v≤2 ^ n:=by
 rcases JG (A:=A) hi hv with h|⟨d,_,h⟩
 ·rw[XF hi hv h];exact Nat.zero_le _
 ·rw[J9 hi hv h];exact YP h
theorem Rk {i v d:Nat} (hi:i<n) (hv:v<n) (h:Ds A n i v d):0<Gu A n i v:=by
 rw[J9 hi hv h];exact h.1
theorem Ahx {s v t a b:Nat} (hv:v<n) (ht:t<n) (hd:Ds A n s t (a+b)) (h1:0<wk A n s a v) (h2:0<wk A n v b t):Ds A n s v a∧Ds A n v t b:=by
 have key:∀{x y:Nat},0<wk A n s x v→0<wk A n v y t→0<wk A n s (x+y) t:=fun{x y} p q=>by
  rw[V8 ht]
  have:=S9 (n:=n) (f:=fun u=>wk A n s x u*wk A n u y t) hv
  have:=Nat.mul_pos p q
  omega
 refine⟨⟨h1,fun e he=>?_⟩,h2,fun e he=>?_⟩
 ·by_cases h:0<wk A n s e v
  ·have:=key h h2;have:=hd.2 (e+b) (by omega);omega
  ·omega
 ·by_cases h:0<wk A n v e t
  ·have:=key h1 h;have:=hd.2 (a+e) (by omega);omega
  ·omega
theorem Ahy {s t a b:Nat} (ht:t<n) (hd:Ds A n s t (a+b)):(sg n fun v=>if Ds A n s v a∧Ds A n v t b then wk A n s a v*wk A n v b t else 0)=wk A n s (a+b) t:=by
 rw[V8 ht]
 refine CV fun v hv=>?_
 by_cases h:0<wk A n s a v∧0<wk A n v b t
 ·rw[if_pos (Ahx hv ht hd h.1 h.2)]
 ·by_cases h2:Ds A n s v a∧Ds A n v t b
  ·rw[if_pos h2]
  ·rw[if_neg h2]
   by_cases h0:0<wk A n s a v
   ·have:wk A n v b t=0:=by
      by_cases h1:0<wk A n v b t
      ·exact absurd ⟨h0,h1⟩ h
      ·omega
    rw[this];rfl
   ·rw[show wk A n s a v=0 by omega,Nat.zero_mul]
theorem Aby {s v t a b:Nat} (hs:s<n) (hv:v<n) (ht:t<n) (h1:Ds A n s v a) (h2:Ds A n v t b) (hd:Ds A n s t (a+b)):Gu A n s v*Gu A n v t≤Gu A n s t:=by
 rw[J9 hs hv h1,J9 hv ht h2,J9 hs ht hd,V8 ht]
 exact S9 (n:=n) (f:=fun u=>wk A n s a u*wk A n u b t) hv
end
def UK {α:Type} (f:Nat→α) (v:Nat) (x:α) (w:Nat):α:=if w=v then x else f w
theorem La {α:Type} {f:Nat→α} {v:Nat} {x:α}:UK f v x v=x:=if_pos rfl
theorem Gv {α:Type} {f:Nat→α} {v w:Nat} {x:α} (h:w≠v):UK f v x w=f w:=if_neg h
def Gl (n:Nat) (f:Nat→Int):List Int:=(List.range n).map f
theorem VP {n:Nat} {f:Nat→Int}:(Gl n f).length=n:=by simp[Gl]
theorem D8 {n:Nat} {f:Nat→Int} {v:Nat} (h:v<(Gl n f).length):(Gl n f)[v]=f v:=by simp[Gl]
theorem QZ {n:Nat} {f:Nat→Int} {v:Nat} {x:Int}:(Gl n f).set v x=Gl n (UK f v x):=by
 apply List.ext_getElem
 ·simp[Gl]
 ·intro i h1 h2
  rw[List.getElem_set,D8,D8]
  unfold UK
  by_cases e:v=i
  ·rw[if_pos e,if_pos e.symm]
  ·rw[if_neg e,if_neg fun h=>e h.symm]
theorem UL {n:Nat} {f g:Nat→Int} (h:∀i,i<n→f i=g i):Gl n f=Gl n g:=List.map_congr_left fun i hi=>h i (List.mem_range.1 hi)
theorem AeX {n:Nat} {x:Int}:List.replicate n x=Gl n fun _=>x:=by
 apply List.ext_getElem
 ·simp[Gl]
 ·intro i h1 h2
  rw[List.getElem_replicate,D8]
section
variable (A:Nat→Nat→Bool) (n:Nat)
def Lu (i d w:Nat) (S:List (Nat×Nat)):Nat:=((S.filter fun p=>decide (p.2=w)).map fun p=>wk A n i d p.1).sum
def KZ (i d w:Nat):Prop:=∀e,e≤d→¬Ds A n i w e
structure Uk (i d:Nat) (S:List (Nat×Nat)) (fD fC:Nat→Int) (nx:List Nat):Prop where
 near:∀w,w<n→∀e,e≤d→Ds A n i w e→fD w=e∧fC w=wk A n i e w
 far:∀w,w<n→KZ A n i d w→fC w=Lu A n i d w S∧fD w=if w∈nx then(d:Int)+1 else -1
 nd:nx.Nodup
 mem:∀w,w∈nx↔w<n∧KZ A n i d w∧∃p∈S,p.2=w
def Xm (i d:Nat) (L:List Nat):Prop:=L.Nodup∧∀u,u∈L↔u<n∧Ds A n i u d
variable {A:Nat→Nat→Bool} {n:Nat}
def Ny (A:Nat→Nat→Bool) (n u:Nat):List Nat:=(List.range n).filter fun v=>A u v
theorem HY {u v:Nat}:v∈Ny A n u↔v<n∧A u v=true:=by simp[Ny]
theorem AcM {u:Nat}:(Ny A n u).Nodup:=List.Pairwise.filter _ List.nodup_range
def Fh (A:Nat→Nat→Bool) (n:Nat) (L:List Nat):List (Nat×Nat):=L.flatMap fun u=>(Ny A n u).map fun v=>(u,v)
theorem LC {i d w:Nat} {S T:List (Nat×Nat)}:Lu A n i d w (S++T)=Lu A n i d w S+Lu A n i d w T:=by
 unfold Lu
 rw[List.filter_append,List.map_append,List.sum_append]
theorem Tj {i d w u v:Nat}:Lu A n i d w [(u,v)]=if v=w then wk A n i d u else 0:=by
 unfold Lu
 by_cases h:v=w<;>simp[h]
theorem Abz {i d w:Nat} {S:List (Nat×Nat)} (h:∀p∈S,p.2≠w):Lu A n i d w S=0:=by
 unfold Lu
 rw[List.filter_eq_nil_iff.2 fun p hp=>by simpa using h p hp]
 rfl
variable {i d:Nat} {S:List (Nat×Nat)} {fD fC:Nat→Int} {nx:List Nat}
theorem Uk.start (hi:i<n):Uk A n i 0 [] (UK (fun _=>-1) i 0) (UK (fun _=>0) i 1) [] where
 near:=fun w hw e he h=>by
  obtain rfl:e=0:=by omega
  obtain rfl:=Gf.1 h
  refine⟨La,?_⟩
  rw[La]
  show(1:Int)=((if w=w then 1 else 0:Nat):Int)
  rw[if_pos rfl];rfl
 far:=fun w hw h=>by
  have hne:w≠i:=fun e=>h 0 (Nat.le_refl 0) (Gf.2 e)
  rw[Gv hne,Gv hne]
  exact⟨rfl,rfl⟩
 nd:=.nil
 mem:=fun w=>by simp
theorem Xm.start (hi:i<n):Xm A n i 0 [i]:=⟨by simp,fun u=>by
 rw[List.mem_singleton,Gf]
 exact⟨fun e=>⟨by omega,e⟩,fun h=>h.2⟩⟩
theorem Uk.AcO (h:Uk A n i d S fD fC nx) {u v:Nat} (hv:¬KZ A n i d v):Uk A n i d (S++[(u,v)]) fD fC nx where
 near:=h.near
 far:=fun w hw hf=>by
  obtain⟨h1,h2⟩:=h.far w hw hf
  refine⟨?_,h2⟩
  rw[LC,Tj,if_neg (fun e=>hv (by rw[e];exact hf)),Nat.add_zero]
  exact h1
 nd:=h.nd
 mem:=fun w=>by
  rw[h.mem]
  refine⟨fun ⟨h1,h2,p,hp,e⟩=>⟨h1,h2,p,List.mem_append_left _ hp,e⟩,fun⟨h1,h2,p,hp,e⟩=>?_⟩
  rcases List.mem_append.1 hp with hp|hp
  ·exact⟨h1,h2,p,hp,e⟩
  ·rw[List.mem_singleton.1 hp]at e
   exact absurd (by rw[show v=w from e];exact h2) hv
theorem Uk.AeZ (h:Uk A n i d S fD fC nx) {u v:Nat} (hv:v∈nx):Uk A n i d (S++[(u,v)]) fD (UK fC v (fC v+wk A n i d u)) nx:=by
 obtain⟨hvn,hvf,p0,hp0,e0⟩:=(h.mem v).1 hv
 exact{
 near:=fun w hw e he hd=>by
  have hne:w≠v:=fun e'=>hvf e he (by rw[← e'];exact hd)
  rw[Gv hne]
  exact h.near w hw e he hd
 far:=fun w hw hf=>by
  obtain⟨h1,h2⟩:=h.far w hw hf
  refine⟨?_,h2⟩
  rw[LC,Tj]
  by_cases e:w=v
  ·subst e
   rw[La,if_pos rfl,h1];omega
  ·rw[Gv e,if_neg (fun e'=>e e'.symm),h1];omega
 nd:=h.nd
 mem:=fun w=>by
  rw[h.mem]
  refine⟨fun ⟨h1,h2,p,hp,e⟩=>⟨h1,h2,p,List.mem_append_left _ hp,e⟩,fun⟨h1,h2,p,hp,e⟩=>?_⟩
  rcases List.mem_append.1 hp with hp|hp
  ·exact⟨h1,h2,p,hp,e⟩
  ·rw[List.mem_singleton.1 hp]at e
   exact⟨h1,h2,p0,hp0,by rw[e0];exact e⟩}
theorem Uk.newStep (h:Uk A n i d S fD fC nx) {u v:Nat} (hvn:v<n) (hvf:KZ A n i d v) (hv:v∉nx):Uk A n i d (S++[(u,v)]) (UK fD v ((d:Int)+1)) (UK fC v (fC v+wk A n i d u)) (nx++[v]) where
 near:=fun w hw e he hd=>by
  have hne:w≠v:=fun e'=>hvf e he (by rw[← e'];exact hd)
  rw[Gv hne,Gv hne]
  exact h.near w hw e he hd
 far:=fun w hw hf=>by
  obtain⟨h1,h2⟩:=h.far w hw hf
  rw[LC,Tj]
  by_cases e:w=v
  ·subst e
   rw[La,La,if_pos rfl,h1,if_pos (by simp)]
   exact⟨by omega,rfl⟩
  ·rw[Gv e,Gv e,if_neg (fun e'=>e e'.symm),h1,h2]
   refine⟨by omega,?_⟩
   have:w∈nx++[v]↔w∈nx:=by simp[e]
   simp only[this]
 nd:=List.nodup_append.2 ⟨h.nd,by simp,fun a ha b hb e=>hv (by rw[← List.mem_singleton.1 hb,←e];exact ha)⟩
 mem:=fun w=>by
  rw[List.mem_append,h.mem,List.mem_singleton]
  constructor
  ·rintro(⟨h1,h2,p,hp,e⟩|rfl)
   ·exact⟨h1,h2,p,List.mem_append_left _ hp,e⟩
   ·exact⟨hvn,hvf,_,List.mem_append_right _ (List.mem_singleton.2 rfl),rfl⟩
  ·rintro⟨h1,h2,p,hp,e⟩
   rcases List.mem_append.1 hp with hp|hp
   ·exact .inl ⟨h1,h2,p,hp,e⟩
   ·rw[List.mem_singleton.1 hp]at e
    exact .inr e.symm
theorem PN {w:Nat} {h:Nat→Nat}:∀{L:List Nat},L.Nodup→(∀ u∈L,u<n)→(L.map h).sum=sg n fun u=>if u∈L then h u else 0
 |[],_,_=>(F9 fun _ _=>by simp).symm
 |a::L,hn,hl=>by
  obtain⟨h1,h2⟩:=List.nodup_cons.1 hn
  rw[List.map_cons,List.sum_cons,PN (w:=w) h2 fun u hu=>hl u (List.mem_cons_of_mem _ hu),←XE (f:=h) (hl a (List.mem_cons_self ..)),←V7]
  refine CV fun u hu=>?_
  by_cases e:u=a
  ·subst e;simp[h1]
  ·simp[e]
theorem AdA {w u:Nat}:Lu A n i d w ((Ny A n u).map fun v=>(u,v))=if w<n∧A u w=true then wk A n i d u else 0:=by
 unfold Lu
 rw[List.filter_map,List.map_map]
 have:∀l:List Nat,l.Nodup→((l.filter ((fun p:Nat×Nat=>decide (p.2=w))∘fun v=>(u,v))).map ((fun p:Nat×Nat=>wk A n i d p.1)∘fun v=>(u,v))).sum=if w∈l then wk A n i d u else 0:=fun l=>by
  induction l with
  |nil=>intro _;rfl
  |cons a l ih=>
   intro hn
   obtain⟨h1,h2⟩:=List.nodup_cons.1 hn
   have ih:=ih h2
   by_cases e:a=w
   ·subst e
    rw[if_neg h1]at ih
    simp only[List.filter_cons,Function.comp,decide_true,if_true,List.map_cons,List.sum_cons,List.mem_cons,true_or]
    have ih:(List.map (fun _=>wk A n i d u) (List.filter (fun x=>decide (x=a)) l)).sum=0:=ih
    omega
   ·have hm:w∈a::l↔w∈l:=⟨fun h=>(List.mem_cons.1 h).resolve_left fun h=>e h.symm,List.mem_cons_of_mem _⟩
    simp only[hm]
    rw[← ih]
    simp[e]
 rw[this _ AcM]
 simp only[HY]
theorem U2 {w:Nat} {L:List Nat} (hL:Xm A n i d L) (hw:w<n):Lu A n i d w (Fh A n L)=sg n fun u=>if A u w=true∧Ds A n i u d then wk A n i d u else 0:=by
 have h1:∀l:List Nat,Lu A n i d w (Fh A n l)=(l.map fun u=>if A u w=true then wk A n i d u else 0).sum:=fun l=>by
  induction l with
  |nil=>rfl
  |cons a l ih=>
   show Lu A n i d w (((Ny A n a).map fun v=>(a,v))++Fh A n l)=_
   rw[LC,ih,AdA,List.map_cons,List.sum_cons]
   simp only[hw,true_and]
 rw[h1,PN (w:=w) hL.1 fun u hu=>((hL.2 u).1 hu).1]
 refine CV fun u hu=>?_
 by_cases k:Ds A n i u d
 ·rw[if_pos ((hL.2 u).2 ⟨hu,k⟩)]
  by_cases a:A u w=true<;>simp[a,k]
 ·rw[if_neg fun h=>k ((hL.2 u).1 h).2]
  simp[k]
theorem XH {L:List Nat} {p:Nat×Nat}:p∈Fh A n L↔p.1∈L∧p.2<n∧A p.1 p.2=true:=by
 unfold Fh
 rw[List.mem_flatMap]
 constructor
 ·rintro⟨u,hu,hp⟩
  obtain⟨v,hv,rfl⟩:=List.mem_map.1 hp
  exact⟨hu,(HY.1 hv).1,(HY.1 hv).2⟩
 ·rintro⟨h1,h2,h3⟩
  exact⟨p.1,h1,List.mem_map.2 ⟨p.2,HY.2 ⟨h2,h3⟩,rfl⟩⟩
theorem AeV {w:Nat} {L:List Nat} (hL:Xm A n i d L) (hw:w<n) (hf:KZ A n i d w) {T:List (Nat×Nat)} (hS:S++T=Fh A n L):Lu A n i d w S≤2 ^ n:=by
 have h1:Lu A n i d w S≤Lu A n i d w (Fh A n L):=by
  rw[← hS,LC];omega
 refine Nat.le_trans h1 ?_
 rw[U2 hL hw]
 by_cases k:Ds A n i w (d+1)
 ·rw[← Ls k];exact YP k
 ·rw[F9 fun u hu=>if_neg fun⟨a,b⟩=>k (J8.2 ⟨hf,u,hu,a,b⟩)]
  exact Nat.zero_le _
theorem Uk.next {L:List Nat} (hL:Xm A n i d L) (h:Uk A n i d (Fh A n L) fD fC nx):Xm A n i (d+1) nx∧Uk A n i (d+1) [] fD fC []:=by
 have key:∀w,w<n→KZ A n i d w→(w∈nx↔Ds A n i w (d+1)):=fun w hw hf=>by
  rw[h.mem,J8]
  constructor
  ·rintro⟨_,_,p,hp,rfl⟩
   obtain⟨h1,h2,h3⟩:=XH.1 hp
   obtain⟨h4,h5⟩:=(hL.2 _).1 h1
   exact⟨hf,p.1,h4,h3,h5⟩
  ·rintro⟨_,u,hu,ha,hd⟩
   exact⟨hw,hf,(u,w),XH.2 ⟨(hL.2 u).2 ⟨hu,hd⟩,hw,ha⟩,rfl⟩
 refine⟨⟨h.nd,fun w=>?_⟩,?_⟩
 ·constructor
  ·intro hm
   obtain⟨h1,h2,_⟩:=(h.mem w).1 hm
   exact⟨h1,(key w h1 h2).1 hm⟩
  ·rintro⟨h1,h2⟩
   exact(key w h1 (J8.1 h2).1).2 h2
 ·refine⟨fun w hw e he hd=>?_,fun w hw hf=>?_,.nil,fun w=>by simp⟩
  ·by_cases e1:e≤d
   ·exact h.near w hw e e1 hd
   ·obtain rfl:e=d+1:=by omega
    have hf:KZ A n i d w:=(J8.1 hd).1
    obtain⟨h1,h2⟩:=h.far w hw hf
    rw[if_pos ((key w hw hf).2 hd)]at h2
    refine⟨by rw[h2];omega,?_⟩
    rw[h1,U2 hL hw,←Ls hd]
  ·have hf':KZ A n i d w:=fun e he=>hf e (by omega)
   obtain⟨h1,h2⟩:=h.far w hw hf'
   have hn:w∉nx:=fun hm=>hf (d+1) (Nat.le_refl _) ((key w hw hf').1 hm)
   rw[if_neg hn]at h2
   refine⟨?_,h2⟩
   rw[h1,Abz fun p hp e=>hn ((h.mem w).2 ⟨hw,hf',p,hp,e⟩)]
   rfl
theorem Uk.done (hi:i<n) (hL:Xm A n i d []) (h:Uk A n i d [] fD fC []) {w:Nat} (hw:w<n):fD w=JC A n i w∧fC w=Gu A n i w:=by
 rcases JG (A:=A) hi hw with e|⟨x,e,hx⟩
 ·have hf:KZ A n i d w:=fun k _=>(Rj hi hw).1 e k
  obtain⟨h1,h2⟩:=h.far w hw hf
  rw[e,XF hi hw e]
  exact⟨h2,h1⟩
 ·have hxd:x≤d:=by
   by_cases hlt:x≤d
   ·exact hlt
   ·obtain⟨u,hu,hd⟩:=Rh hw hx d (by omega)
    exact absurd ((hL.2 u).2 ⟨hu,hd⟩) (by simp)
  obtain⟨h1,h2⟩:=h.near w hw x hxd hx
  rw[e,J9 hi hw hx]
  exact⟨h1,h2⟩
theorem Xm.lt (hi:i<n) {L:List Nat} (hL:Xm A n i d L) (h:L≠[]):d<n:=by
 cases L with
 |nil=>exact absurd rfl h
 |cons a L=>
  obtain⟨h1,h2⟩:=(hL.2 a).1 (List.mem_cons_self ..)
  exact Ads hi h1 h2
end
def PL (k:Nat):AV:=.int .i64 (k:Int)
theorem AcK (k:Nat):(PL k).cells.length=1:=rfl
def UH (r:List Nat):AV:=.sl (decide (r≠[])) (vs PL r)
def AeJ (ids:List Int) (A:Nat→Nat→Bool) (n:Nat):AV:=.agg [.sl (decide (0<n)) (ints ids),.sl true (vs UH ((List.range n).map (Ny A n)))]
def stR (nv:AV) (fD fC:Nat→Int) (n:Nat) (r:List Obj):List Obj:=.arr 0 2 true true [nv]::.arr 1 1 false true []::.arr 2 1 false true []::.arr 3 1 true true (ints (Gl n fD))::.arr 4 1 true true (ints (Gl n fC))::r
theorem VO {A:Nat→Nat→Bool} {n i d:Nat} {S T:List (Nat×Nat)} {fD fC:Nat→Int} {nx L:List Nat} (h:Uk A n i d S fD fC nx) (hL:Xm A n i d L) (hS:S++T=Fh A n L) {w:Nat} (hw:w<n):0≤fC w∧fC w≤((2 ^ n:Nat):Int):=by
 by_cases hf:KZ A n i d w
 ·rw[(h.far w hw hf).1]
  have:=AeV hL hw hf hS
  omega
 ·obtain⟨e,he⟩:=Classical.not_forall.1 hf
  have he1:e≤d:=by
   by_cases h1:e≤d
   ·exact h1
   ·exact absurd (fun h2=>absurd h2 h1) he
  have he2:Ds A n i w e:=Classical.byContradiction fun hn=>he fun _=>hn
  rw[(h.near w hw e he1 he2).2]
  have:=YP he2
  omega
theorem Na {l:List Nat} {n:Nat} (h:l.Nodup) (hl:∀u∈l,u<n):l.length≤n:=by
 have h1:(l.map fun _=>1).sum≤n:=by
  rw[PN (n:=n) (w:=0) h hl]
  have h2:=Jf (n:=n) (f:=fun u=>if u∈l then 1 else 0) (g:=fun _=>1) fun u _=>by split<;>omega
  rw[G5]at h2
  omega
 have h3:(l.map fun _=>1).sum=l.length:=by
  clear h1 h hl
  induction l with
  |nil=>rfl
  |cons a l ih=>rw[List.map_cons,List.sum_cons,ih,List.length_cons];omega
 omega
theorem AcL {A:Nat→Nat→Bool} {n i d w:Nat} (hf:¬KZ A n i d w):∃e,e≤d∧Ds A n i w e:=by
 obtain⟨e,he⟩:=Classical.not_forall.1 hf
 have he1:e≤d:=by
  by_cases h1:e≤d
  ·exact h1
  ·exact absurd (fun h2=>absurd h2 h1) he
 exact⟨e,he1,Classical.byContradiction fun hn=>he fun _=>hn⟩
theorem UJ {A:Nat→Nat→Bool} {n k:Nat} {L:List Nat} (h:k<L.length):Fh A n (L.take (k+1))=Fh A n (L.take k)++(Ny A n L[k]).map fun v=>(L[k],v):=by
 unfold Fh
 rw[List.take_succ_eq_append_getElem h,List.flatMap_append]
 simp
theorem Si {A:Nat→Nat→Bool} {n k j:Nat} {L:List Nat} (h:k<L.length):(Fh A n (L.take k)++((Ny A n L[k]).take j).map fun v=>(L[k],v))++(((Ny A n L[k]).drop j).map (fun v=>(L[k],v))++Fh A n (L.drop (k+1)))=Fh A n L:=by
 rw[List.append_assoc,←List.append_assoc (List.map _ _),←List.map_append,List.take_append_drop,←List.append_assoc,←UJ h]
 unfold Fh
 rw[← List.flatMap_append,List.take_append_drop]
set_option maxHeartbeats 8000000 in
theorem Ag1 {ids:List Int} {A:Nat→Nat→Bool} {n i:Nat} (RJ:ids.length=n) (hn:n≤12) (hi:i<n):
 Ah (Ac tab) 30 [AeJ ids A n,.int .i64 i] (· =.CP [.sl true (ints (Gl n (JC A n i))),.sl true (ints (Gl n fun v=>(Gu A n i v:Int))),.bool true]):=by
 have AnG:2 ^ n≤4096:=(Nat.pow_le_pow_right (by omega) hn:2 ^ n≤2 ^ 12)
 have lT:∀f:Nat→Int,(Gl n f).length=n:=fun f=>VP
 have hRl:((List.range n).map (Ny A n)).length=n:=by simp
 obtain⟨RR,hRR⟩:∃RR,RR=(List.range n).map (Ny A n):=⟨_,rfl⟩
 have Ale:∀u (h:u<RR.length),RR[u]=Ny A n u:=fun u h=>by subst hRR;simp
 rw[← hRR]at hRl
 obtain⟨nv,hnv⟩:∃nv,nv=AeJ ids A n:=⟨_,rfl⟩
 have Ai0:nv=.agg [.sl (decide (0<n)) (ints ids),.sl true (vs UH RR)]:=by rw[hnv,hRR];rfl
 rw[← hnv,Ai0]
 clear hnv Ai0 nv hRR
 subst RJ
 refine Ae rfl rfl ?_
 (conv=>whnf);repeat' (first  |(refine kA ?_;conv=>whnf)|(refine Br.mk (fun hc=>?_) fun hc=>?_<;>first|exact hc.elim|conv=>whnf)|(refine kB ?_))
 all_goals first|(exfalso;omega)|skip
 refine Aj (fun m env s=>∃(k c:Nat) (D:List Int),m=ids.length-k∧k≤ids.length∧D.length=ids.length∧(∀ q (h:q<D.length),q<k→D[q]=-1)∧env=[(1,.int .i64 i),(2,.ref 0 0 0 0),(4,.own 3 3 0 ids.length),(5,.own 4 4 0 ids.length),(25,.int .i64 ids.length),(26,.int .i64 k)]∧s=⟨[.arr 0 2 true true [.agg [.sl (decide (0<ids.length)) (ints ids),.sl true (vs UH RR)]],.arr 1 1 false true [],.arr 2 1 false true [],.arr 3 1 true true (ints D),.arr 4 1 true true (ints (List.replicate ids.length 0))],c⟩) ?_ _ _ _ ⟨0,_,List.replicate ids.length 0,rfl,by omega,by simp,fun q h hq=>by omega,rfl,rfl⟩
 rintro _ _ _ ⟨k,c,D,rfl,hk,hDl,hD,rfl,rfl⟩
 refine⟨rfl,?_⟩
 by_cases hlt:k<ids.length
 ·(conv=>whnf);repeat' (first  |(refine kA ?_;conv=>whnf)|(refine Br.mk (fun hc=>?_) fun hc=>?_<;>first|exact hc.elim|conv=>whnf)|(refine kB ?_))
  all_goals first
   |(exfalso;omega)
   |exact again.mk ⟨_,by omega,k+1,_,D.set k (-1),rfl,by omega,by rw[List.length_set];exact hDl,fun q h hq=>by
       rw[List.getElem_set]
       by_cases e:k=q
       ·rw[if_pos e]
       ·rw[if_neg e];exact hD q (by simpa using h) (by omega),rfl,rfl⟩
 ·obtain rfl:D=Gl ids.length (fun _=>-1):=by
   apply List.ext_getElem
   ·rw[hDl,VP]
   ·intro q h1 h2
    rw[D8,hD q h1 (by omega)]
  rw[AeX]
  clear hD hDl
  have s1:(Gl ids.length (fun _=>-1)).set i 0=Gl ids.length (UK (fun _=>-1) i 0):=QZ
  have s2:(Gl ids.length (fun _=>0)).set i 1=Gl ids.length (UK (fun _=>0) i 1):=QZ
  have l1:=lT (fun _=>-1)
  have l2:=lT (fun _=>0)
  (conv=>whnf);repeat' (first|(rw [s1];conv=>whnf)|(rw [s2];conv=>whnf)|(refine kA ?_;conv=>whnf)|(refine Br.mk (fun hc=>?_) fun hc=>?_<;>first|exact hc.elim|conv=>whnf)|(refine kB ?_))
  all_goals first|(exfalso;omega)|skip
  have hB0:=Uk.start (A:=A) hi
  have hL0:=Xm.start (A:=A) hi
  refine Aj (fun m env s=>∃(d c:Nat) (L:List Nat) (nl:Bool) (fD fC:Nat→Int),m=ids.length+1-d∧Xm A ids.length i d L∧Uk A ids.length i d [] fD fC []∧env=[(2,.ref 0 0 0 0),(4,.own 3 3 0 ids.length),(5,.own 4 4 0 ids.length),(6,.bool true),(8,.sl nl (vs PL L))]∧s=⟨stR (.agg [.sl (decide (0<ids.length)) (ints ids),.sl true (vs UH RR)]) fD fC ids.length [],c⟩) ?_ _ _ _ ⟨0,_,[i],true,_,_,rfl,hL0,hB0,rfl,rfl⟩
  clear hB0 hL0 s1 s2 l1 l2 hlt hk
  rintro _ _ _ ⟨d,c,L,nl,fD,fC,rfl,hL,hB,rfl,rfl⟩
  refine⟨rfl,?_⟩
  have hsub:∀f:Nat→Int,sub (ints (Gl ids.length f)) 0 ids.length=ints (Gl ids.length f):=fun f=>by
   have:=@uI (Gl ids.length f)
   rwa [lT]at this
  by_cases hL0:L=[]
  ·subst hL0
   have e1:Gl ids.length fD=Gl ids.length (JC A ids.length i):=UL fun w hw=>(hB.done hi hL hw).1
   have e2:Gl ids.length fC=Gl ids.length fun v=>(Gu A ids.length i v:Int):=UL fun w hw=>(hB.done hi hL hw).2
   unfold stR
   rw[e1,e2]
   (conv=>whnf);repeat' (first|(refine Ap ⟨rfl,by rw[lI,lT];omega⟩ ?_;conv=>whnf)|(refine A8 (hsub _) ?_;conv=>whnf)|(refine kA ?_;conv=>whnf)|(refine Br.mk (fun hc=>?_) fun hc=>?_<;>first|exact hc.elim|conv=>whnf)|(refine kB ?_))
   all_goals first|rfl|(exfalso;omega)
  have hLp:0<L.length:=List.length_pos_iff.2 hL0
  have hdn:=hL.lt hi hL0
  have hlL:L.length≤ids.length:=Na hL.1 fun u hu=>((hL.2 u).1 hu).1
  (conv=>whnf);repeat' (first  |(refine kA ?_;conv=>whnf)|(refine Br.mk (fun hc=>?_) fun hc=>?_<;>first|exact hc.elim|conv=>whnf)|(refine kB ?_))
  all_goals first|(exfalso;omega)|skip
  refine Aj (fun m env s=>∃(k c gN:Nat) (nn:Bool) (nx:List Nat) (fD fC:Nat→Int),m=L.length-k∧k≤L.length∧Uk A ids.length i d (Fh A ids.length (L.take k)) fD fC nx∧env=[(2,.ref 0 0 0 0),(4,.own 3 3 0 ids.length),(5,.own 4 4 0 ids.length),(6,.bool true),(9,.own 5 gN 0 nx.length),(44,.sl nl (vs PL L)),(45,.int .i64 L.length),(46,.int .i64 k)]∧s=⟨stR (.agg [.sl (decide (0<ids.length)) (ints ids),.sl true (vs UH RR)]) fD fC ids.length [.arr gN 1 nn true (vs PL nx)],c⟩) ?_ _ _ _ ⟨0,_,_,false,[],fD,fC,rfl,by omega,hB,rfl,rfl⟩
  clear hB fD fC
  rintro _ _ _ ⟨k,c,gN,nn,nx,fD,fC,rfl,hk,hB,rfl,rfl⟩
  refine⟨rfl,?_⟩
  have hnl:nx.length≤ids.length:=Na hB.nd fun u hu=>((hB.mem u).1 hu).1
  by_cases AeY:k<L.length
  case neg=>
   obtain rfl:k=L.length:=by omega
   rw[List.take_of_length_le (Nat.le_refl _)]at hB
   obtain⟨hL',hB'⟩:=hB.next hL
   (conv=>whnf);repeat' (first  |(refine kA ?_;conv=>whnf)|(refine Br.mk (fun hc=>?_) fun hc=>?_<;>first|exact hc.elim|conv=>whnf)|(refine kB ?_))
   all_goals first|(exfalso;omega)|skip
   refine Aj (fun m env s=>∃(j c:Nat),m=nx.length-j∧j≤nx.length∧env=[(2,.ref 0 0 0 0),(4,.own 3 3 0 ids.length),(5,.own 4 4 0 ids.length),(6,.bool true),(9,.own 5 gN 0 nx.length),(102,.own 5 gN 0 nx.length),(103,.int .i64 nx.length),(104,.int .i64 j)]∧s=⟨stR (.agg [.sl (decide (0<ids.length)) (ints ids),.sl true (vs UH RR)]) fD fC ids.length [.arr gN 1 nn true (vs PL nx)],c⟩) ?_ _ _ _ ⟨0,_,rfl,by omega,rfl,rfl⟩
   rintro _ _ _ ⟨j,c,rfl,hj,rfl,rfl⟩
   refine⟨rfl,?_⟩
   have htS:sub (vs PL nx) 0 nx.length=vs PL nx:=uV
   by_cases hjlt:j<nx.length
   ·have hvn:nx[j]<ids.length:=((hB.mem _).1 (List.getElem_mem hjlt)).1
    have hb:=VO hB hL (T:=[]) (List.append_nil _) hvn
    have hlen:=lT fC
    have hat:(Gl ids.length fC)[nx[j]]'(by rw[lT];exact hvn)=fC nx[j]:=D8 _
    (conv=>whnf);repeat' (first  |(refine kA ?_;conv=>whnf)|(refine Br.mk (fun hc=>?_) fun hc=>?_<;>first|exact hc.elim|conv=>whnf)|(refine kB ?_))
    all_goals first
     |(exfalso;omega)
     |exact again.mk ⟨_,by omega,j+1,_,rfl,by omega,rfl,rfl⟩
   ·(conv=>whnf);repeat' (first  |(refine kA ?_;conv=>whnf)|(refine Br.mk (fun hc=>?_) fun hc=>?_<;>first|exact hc.elim|conv=>whnf)|(refine kB ?_))
    all_goals first
     |(exfalso;omega)
     |exact again.mk ⟨_,by omega,d+1,_,nx,nn,fD,fC,rfl,hL',hB',rfl,rfl⟩
  ·have hu:=(hL.2 L[k]).1 (List.getElem_mem AeY)
   have hfu:=hB.near _ hu.1 d (Nat.le_refl d) hu.2
   have hrow:RR[L[k]]'(by rw[hRl];exact hu.1)=Ny A ids.length L[k]:=Ale _ _
   have hRu:L[k]<RR.length:=by rw[hRl];exact hu.1
   obtain⟨row,hrw⟩:∃row,row=Ny A ids.length L[k]:=⟨_,rfl⟩
   rw[← hrw]at hrow
   have hrl:row.length≤ids.length:=by rw[hrw];exact Na AcM fun u hu=>(HY.1 hu).1
   have hnr:nth (vs UH RR) (Int.toNat (Nat.cast L[k]))=some (UH row):=by rw[nVN hRu,hrow]
   unfold UH at hnr
   (conv=>whnf);repeat' (first|(refine Au hnr ?_;conv=>whnf)|(refine kA ?_;conv=>whnf)|(refine Br.mk (fun hc=>?_) fun hc=>?_<;>first|exact hc.elim|conv=>whnf)|(refine kB ?_))
   all_goals first|(exfalso;omega)|skip
   have hBk:Uk A ids.length i d (Fh A ids.length (L.take k)++(row.take 0).map fun v=>(L[k],v)) fD fC nx:=by simpa using hB
   refine Aj (fun m env s=>∃(j c gN:Nat) (nn:Bool) (nx:List Nat) (fD fC:Nat→Int),m=row.length-j∧j≤row.length∧Uk A ids.length i d (Fh A ids.length (L.take k)++(row.take j).map fun v=>(L[k],v)) fD fC nx∧env=[(2,.ref 0 0 0 0),(4,.own 3 3 0 ids.length),(5,.own 4 4 0 ids.length),(6,.bool true),(9,.own 5 gN 0 nx.length),(11,.int .i64 L[k]),(44,.sl nl (vs PL L)),(45,.int .i64 L.length),(46,.int .i64 k),(54,.sl (decide (row≠[])) (vs PL row)),(55,.int .i64 row.length),(56,.int .i64 j)]∧s=⟨stR (.agg [.sl (decide (0<ids.length)) (ints ids),.sl true (vs UH RR)]) fD fC ids.length [.arr gN 1 nn true (vs PL nx)],c⟩) ?_ _ _ _ ⟨0,_,gN,nn,nx,fD,fC,rfl,by omega,hBk,rfl,rfl⟩
   clear hBk hB hfu hnl fD fC nx nn gN c
   rintro _ _ _ ⟨j,c,gN,nn,nx,fD,fC,rfl,hj,hB,rfl,rfl⟩
   refine⟨rfl,?_⟩
   have hnl:nx.length≤ids.length:=Na hB.nd fun u hu=>((hB.mem u).1 hu).1
   by_cases hjlt:j<row.length
   case neg=>
        obtain rfl:j=row.length:=by omega
        rw[List.take_of_length_le (Nat.le_refl _),hrw,←UJ AeY]at hB
        (conv=>whnf);repeat' (first  |(refine kA ?_;conv=>whnf)|(refine Br.mk (fun hc=>?_) fun hc=>?_<;>first|exact hc.elim|conv=>whnf)|(refine kB ?_))
        all_goals first
         |(exfalso;omega)
         |exact again.mk ⟨_,by omega,k+1,_,gN,nn,nx,fD,fC,rfl,by omega,hB,rfl,rfl⟩
   have hv:=HY.1 (show row[j]∈Ny A ids.length L[k] by rw[← hrw];exact List.getElem_mem hjlt)
   have hstep:((row.take (j+1)).map fun v=>(L[k],v))=((row.take j).map fun v=>(L[k],v))++[(L[k],row[j])]:=by
        rw[List.take_succ_eq_append_getElem hjlt,List.map_append];rfl
   have hfull:Fh A ids.length (L.take k)++((row.take (j+1)).map fun v=>(L[k],v))=(Fh A ids.length (L.take k)++((row.take j).map fun v=>(L[k],v)))++[(L[k],row[j])]:=by
        rw[hstep,List.append_assoc]
   obtain⟨Ai1,hfu2⟩:=hB.near _ hu.1 d (Nat.le_refl d) hu.2
   have lD:=lT fD
   have lC:=lT fC
   have aDu:(Gl ids.length fD)[L[k]]'(by rw[lT];exact hu.1)=d:=by rw[D8];exact Ai1
   have aCu:(Gl ids.length fC)[L[k]]'(by rw[lT];exact hu.1)=fC L[k]:=D8 _
   have bCu:=VO hB hL (Si AeY (j:=j) |> fun h=>by rw[hrw];exact h) hu.1
   by_cases AcN:KZ A ids.length i d row[j]
   case neg=>
        obtain⟨e,he,hde⟩:=AcL AcN
        have aDv:(Gl ids.length fD)[row[j]]'(by rw[lT];exact hv.1)=e:=by rw[D8];exact(hB.near _ hv.1 e he hde).1
        have hB':=hB.AcO (u:=L[k]) AcN
        rw[← hfull]at hB'
        (conv=>whnf);repeat' (first  |(refine kA ?_;conv=>whnf)|(refine Br.mk (fun hc=>?_) fun hc=>?_<;>first|exact hc.elim|conv=>whnf)|(refine kB ?_))
        all_goals first
         |(exfalso;omega)
         |exact again.mk ⟨_,by omega,j+1,_,gN,nn,nx,fD,fC,rfl,by omega,hB',rfl,rfl⟩
   have hcv:=hB.far _ hv.1 AcN
   have aCv:(Gl ids.length fC)[row[j]]'(by rw[lT];exact hv.1)=fC row[j]:=D8 _
   have bCv:=VO hB hL (Si AeY (j:=j) |> fun h=>by rw[hrw];exact h) hv.1
   have sC:(Gl ids.length fC).set row[j] (if 1000000000000001<(Gl ids.length fC)[row[j]]'(by rw[lT];exact hv.1)+(Gl ids.length fC)[L[k]]'(by rw[lT];exact hu.1)then 1000000000000001 else(Gl ids.length fC)[row[j]]'(by rw[lT];exact hv.1)+(Gl ids.length fC)[L[k]]'(by rw[lT];exact hu.1))=Gl ids.length (UK fC row[j] (fC row[j]+wk A ids.length i d L[k])):=by
        rw[if_neg (by omega),QZ,aCv,aCu,hfu2]
   by_cases hin:row[j]∈nx
   ·have aDv:(Gl ids.length fD)[row[j]]'(by rw[lT];exact hv.1)=d+1:=by rw[D8,hcv.2,if_pos hin]
    have hB':=hB.AeZ (u:=L[k]) hin
    rw[← hfull]at hB'
    (conv=>whnf);repeat' (first|(rw [sC];conv=>whnf)|(refine kA ?_;conv=>whnf)|(refine Br.mk (fun hc=>?_) fun hc=>?_<;>first|exact hc.elim|conv=>whnf)|(refine kB ?_))
    all_goals first
     |(exfalso;omega)
     |exact again.mk ⟨_,by omega,j+1,_,gN,nn,nx,fD,_,rfl,by omega,hB',rfl,rfl⟩
   ·have aDv:(Gl ids.length fD)[row[j]]'(by rw[lT];exact hv.1)=-1:=by rw[D8,hcv.2,if_neg hin]
    have hB':=hB.newStep (u:=L[k]) hv.1 AcN hin
    rw[← hfull]at hB'
    have hne:L[k]≠row[j]:=fun e=>AcN d (Nat.le_refl d) (by rw[← e];exact hu.2)
    have sD:(Gl ids.length fD).set row[j] ((Gl ids.length fD)[L[k]]'(by rw[lT];exact hu.1)+1)=Gl ids.length (UK fD row[j] ((d:Int)+1)):=by
     rw[QZ,aDu]
    have lD2:=lT (UK fD row[j] ((d:Int)+1))
    have AnM:(Gl ids.length (UK fD row[j] ((d:Int)+1)))[row[j]]'(by rw[lT];exact hv.1)=d+1:=by rw[D8,La]
    have AnN:(Gl ids.length (UK fD row[j] ((d:Int)+1)))[L[k]]'(by rw[lT];exact hu.1)=d:=by rw[D8,Gv hne];exact Ai1
    (conv=>whnf);repeat' (first|(rw [sD];conv=>whnf)|(rw [sC];conv=>whnf)|(refine Um (f:=PL) (l:=nx) (x:=row[j]) AcK rfl (by omega) ?_;conv=>whnf)|(refine kA ?_;conv=>whnf)|(refine Br.mk (fun hc=>?_) fun hc=>?_<;>first|exact hc.elim|conv=>whnf)|(refine kB ?_))
    all_goals first
     |(exfalso;omega)
     |exact again.mk ⟨_,by omega,j+1,_,_,true,nx++[row[j]],_,_,rfl,by omega,hB',by rw[List.length_append];rfl,rfl⟩
section
open Go.Sort
def ltJ (x y:Int):Bool:=decide (x<y)
theorem OX {x y:Int}:ltJ x y=true↔x<y:=by unfold ltJ;rw[decide_eq_true_eq]
theorem JX {x y:Int}:ltJ x y=false↔¬x<y:=by rw[← OX];simp
theorem AaC:SWO ltJ where
 irrefl x:=JX.2 (by omega)
 trans x y z h1 h2:=OX.2 (by have:=OX.1 h1;have:=OX.1 h2;omega)
 ntrans x y z h1 h2:=JX.2 (by have:=JX.1 h1;have:=JX.1 h2;omega)
theorem Ag8 (x:Int):(AV.int .i64 x).cells.length=1:=rfl
attribute [irreducible] ltJ
end
theorem PS {AP:Nat→Option Ht} {f:Nat} {sp:List AV→Ai→Option (AB×Ai)} {args:List AV} {s s':Ai} {out:AB} {K:AB→Ai→Prop} (hf:AP f=some (.ext sp)) (h:sp args s=some (out,s')) (hK:K out s'):D7 AP f args s K:=
 ⟨1,out,s',by simp only[run,hf];exact h,hK⟩
section
open Go.Sort
theorem Ae5 (L:List Int):(F6 L).Pairwise fun x y=>ltJ y x=false:=(Oh L).imp fun h=>JX.2 (by omega)
theorem Aaf (L:List Int):Xp (vs (.int .i64) L)=some L:=Xq L
theorem AgP {ob0:Obj} {g len c:Nat} {nn cl:Bool} {L:List Int} (hl:L.length=len) (hs:len≤1099511627776):
 D7 (Ac tab) 64 [.own 0 g 0 len] ⟨[.arr g 1 nn cl (vs (.int .i64) L),ob0],c⟩ fun out s'=>∃c' W,out=.ok (.CP [])∧s'=⟨[.arr g 1 nn cl (vs (.int .i64) W),ob0],c'⟩∧W.Perm L∧W.Pairwise (fun x y=>ltJ y x=false):=by
 have hsp:Gw [.own 0 g 0 len] ⟨[.arr g 1 nn cl (vs (.int .i64) L),ob0],c⟩=some (.ok (.CP []),⟨[.arr g 1 nn cl (vs (.int .i64) (F6 L)),ob0],c⟩):=by
  show(if g=g∧1=1∧len=(vs (AV.int .i64) L).length∧len≤1099511627776 then _ else none)=_
  rw[if_pos ⟨rfl,rfl,by rw[lV,hl],hs⟩,Aaf]
  rfl
 exact PS rfl hsp ⟨c,F6 L,rfl,rfl,Gt L,Ae5 L⟩
end
section
variable {α β:Type} [DecidableEq α]
def AcX (M:List (α×β)):Prop:=(M.map (·.1)).Nodup
theorem L8 {M:List (α×β)} {k:α}:Dx M k=none↔k∉M.map (·.1):=by
 induction M with
 |nil=>simp[Dx]
 |cons p M ih=>
  obtain⟨a,b⟩:=p
  by_cases h:k=a
  ·subst h;simp[Dx]
  ·rw[show Dx ((a,b)::M) k=Dx M k from if_neg h,ih,List.map_cons,List.mem_cons]
   simp[h]
theorem Abe {M:List (α×β)} {k x:α} {v:β}:x∈(EF M k v).map (·.1)↔x=k∨x∈M.map (·.1):=by
 have h:=@L8 α β _ (EF M k v) x
 have h2:=@L8 α β _ M x
 rw[JA]at h
 by_cases e:x=k
 ·subst e
  rw[if_pos rfl]at h
  refine⟨fun _=>.inl rfl,fun _=>Classical.byContradiction fun hc=>by have:=h.2 hc;cases this⟩
 ·rw[if_neg e]at h
  constructor
  ·intro hx
   refine .inr (Classical.byContradiction fun hc=>(h.1 (h2.2 hc)) hx)
  ·rintro(hx|hx)
   ·exact absurd hx e
   ·exact Classical.byContradiction fun hc=>(h2.1 (h.2 hc)) hx
theorem YH {M:List (α×β)} (hn:AcX M) (k:α) (v:β):AcX (EF M k v):=by
 induction M with
 |nil=>simp[AcX,EF]
 |cons p M ih=>
  obtain⟨a,b⟩:=p
  have hn':=List.nodup_cons.1 hn
  by_cases e:k=a
  ·subst e
   rw[show EF ((k,b)::M) k v=(k,v)::M from if_pos rfl]
   exact List.nodup_cons.2 hn'
  ·rw[show EF ((a,b)::M) k v=(a,b)::EF M k v from if_neg e]
   refine List.nodup_cons.2 ⟨fun h=>?_,ih hn'.2⟩
   rcases Abe.1 h with h|h
   ·exact e h.symm
   ·exact hn'.1 h
variable {fk:α→AV} {fv:β→AV} {t:Jb}
end
abbrev BU (M:List (Int×Bool)):List (AV×AV):=H6 (.int .i64) .bool M
theorem msT {M:List (Int×Bool)} {k:Int} {v:Bool} {K:List (AV×AV)→Prop} (h:K (BU (EF M k v))):Xr .int (.int .i64 k) (.bool v) (BU M) K:=NI EG h
end AI
end Go.Proofs.YtchcadfjbkkgmaaGreatDoor
