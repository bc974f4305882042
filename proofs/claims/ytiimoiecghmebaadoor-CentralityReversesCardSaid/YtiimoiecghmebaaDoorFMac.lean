/- Comparing two numbers. Sorting in place: lists of a store against arrays of the library's plain sort. math/bits.Len and the next power of two. Orders: lexicographic, of numbers, of strings; the first that is not 0. Walks counted by their length; distances; numbers of shortest walks: plain. A search by levels: what holds on its way: plain. -/
import Derived.Test.YtiimoiecghmebaaDoorFGrCode
import Derived.Test.YtiimoiecghmebaaDoorFMab
import Derived.Sort.AssemblyPlain
set_option linter.unusedVariables false
namespace Go.Proofs.YtiimoiecghmebaaDoor
namespace AI
theorem nan {x:Int}:Aw (Ad tab) 62 [.int .i64 x] (· =.bool (decide False)):=by
 refine Ah rfl rfl ?_
 (conv=>whnf);repeat' (first  |(refine kA ?_;conv=>whnf)|(refine Br.mk (fun hc=>?_) fun hc=>?_<;>first|exact hc.elim|conv=>whnf)|(refine kB ?_))
 all_goals first|exact absurd rfl hc|rfl
def Qz (x y:Int):Int:=if x<y then -1 else if y<x then 1 else 0
theorem compare {x y:Int}:Aw (Ad tab) 49 [.int .i64 x,.int .i64 y] (· =.int .i64 (Qz x y)):=by
 refine Ah rfl rfl ?_
 (conv=>whnf);repeat' (first|(refine FD nan (fun hc=>absurd hc id) (fun _=>?_);conv=>whnf)|(refine kA ?_;conv=>whnf)|(refine Br.mk (fun hc=>?_) fun hc=>?_<;>first|exact hc.elim|conv=>whnf)|(refine kB ?_))
 all_goals unfold Qz;first|(rw [if_pos (by omega)];rfl)|(rw [if_neg (by omega),if_pos (by omega)];rfl)|(rw [if_neg (by omega),if_neg (by omega)];rfl)
theorem Xe {x y:Int}:Qz x y<0↔x<y:=by unfold Qz;split<;>(try split)<;>omega
theorem UA {x y:Int}:Qz x y=0↔x=y:=by unfold Qz;split<;>(try split)<;>omega
section
open Go.Sort
section
variable {α:Type} [Inhabited α] {f:α→AV}
theorem nP {d:Array α} {z:Int} (i:Nat) (hz:z=i) (h:i<d.size):nth (vs f d.toList) (Int.toNat z)=some (f d[i]!):=by
 rw[nVz i hz (by simpa using h)]
 simp[h]
omit [Inhabited α]in
theorem tP {es:Nat} (hf:∀x,(f x).cells.length=es) {d:Array α} {z:Int} (i:Nat) (hz:z=i) {x y:α}:(vs f d.toList).set (Int.toNat z) (Bg (f y) 0 (f x))=vs f (d.setIfInBounds i x).toList:=by
 subst hz
 have e:Bg (f y) 0 (f x)=f x:=by
  unfold Bg
  rw[if_pos ⟨rfl,by rw[hf,hf]⟩]
 rw[e]
 show(vs f d.toList).set i (f x)=_
 simp[vs,List.map_set]
theorem nPK {d:Array α} {z:Int} {K:AV→Prop} (i:Nat) (k:K (f d[i]!)) (hz:z=i:=by omega) (h:i<d.size:=by first|omega|(simp;omega)):Qx (vs f d.toList) (Int.toNat z) K:=AA (nP i hz h) k
omit [Inhabited α]in
theorem tPK {es:Nat} (hf:∀x,(f x).cells.length=es) {d:Array α} {z:Int} {x y:α} {K:List AV→Prop} (i:Nat) (k:K (vs f (d.setIfInBounds i x).toList)) (hz:z=i:=by omega):eqK ((vs f d.toList).set (Int.toNat z) (Bg (f y) 0 (f x))) K:=BI (tP hf i hz) k
@[simp] theorem Ri (d:Array α) (i j:Nat):(swp d i j).size=d.size:=by simp[swp]
variable {lt:α→α→Bool} {a b i j hi first root:Nat} {d:Array α}
@[simp] theorem WQ:∀{j:Nat} {d:Array α},(insInner lt a j d).size=d.size
 |0,d=>rfl
 |j+1,d=>by
  rw[insInner]
  split
  ·rw[WQ,Ri]
  ·rfl
theorem AbI (h:hi≤2*root+1):siftDown lt hi first root d=d:=by
 rw[siftDown,dif_pos h]
theorem WR {lt:α→α→Bool} {hi first:Nat}:∀(n root:Nat) (d:Array α),hi-root≤n→(siftDown lt hi first root d).size=d.size:=by
 intro n
 induction n with
 |zero=>intro root d h;rw[AbI (by omega)]
 |succ n ih=>
  intro root d h
  rw[siftDown]
  split
  ·rfl
  ·split
   ·split
    ·rfl
    ·split
     ·rw[ih _ _ (by omega),Ri]
     ·rfl
   ·split
    ·rfl
    ·rw[ih _ _ (by omega),Ri]
@[simp] theorem AdQ:(siftDown lt hi first root d).size=d.size:=WR (hi-root) root d (Nat.le_refl _)
@[simp] theorem Vf:∀{k:Nat} {d:Array α},(heapBuild lt hi first k d).size=d.size
 |0,d=>rfl
 |k+1,d=>by rw[heapBuild,Vf,AdQ]
end
theorem AhJ {z:Int} {K:AV→Prop} (n k:Nat) (hz:z=n) (h:n<2^63) (h2:K (.int .i64 ((n / k:Nat):Int))):IU .i64 (z.tdiv k) K:=by
 subst hz
 have e:(n:Int).tdiv k=((n / k:Nat):Int):=by
  rw[Int.tdiv_eq_ediv_of_nonneg (by omega)];rfl
 rw[e]
 have h3:n / k≤n:=Nat.div_le_self ..
 revert h2 h3 e
 generalize n / k=m
 intro h2 e h3
 exact CP (wrap_i64 (by omega) (by omega)) h2
end
section
open Go.Sort
section
variable {α:Type} [Inhabited α] {lt:α→α→Bool} {a b i j:Nat} {d:Array α}
@[simp] theorem AgB:∀{j:Nat} {d:Array α},(shiftDown lt j d).size=d.size
 |0,d=>rfl
 |j+1,d=>by
  rw[shiftDown]
  split
  ·rfl
  ·rw[AgB,Ri]
theorem ZW:∀(n j:Nat) (d:Array α),b-j≤n→(shiftUp lt b j d).size=d.size
 |0,j,d,h=>by rw[shiftUp,if_neg (by omega)]
 |n+1,j,d,h=>by
  rw[shiftUp]
  split
  ·split
   ·rfl
   ·rw[ZW n _ _ (by omega),Ri]
  ·rfl
@[simp] theorem AkF:(shiftUp lt b j d).size=d.size:=ZW (b-j) j d (Nat.le_refl _)
@[simp] theorem Aju:(fixDown lt a i d).size=d.size:=by unfold fixDown;split<;>simp
@[simp] theorem Ajv:(fixUp lt b i d).size=d.size:=by unfold fixUp;split<;>simp
variable {p:α→Bool}
end
end
section
open Go.Sort
def Ue (a b:Int):Int:=if a=0 then b else a
def cS (x y:List UInt8):Int:=if Op.bytesLess x y=true then -1 else if Op.bytesLess y x=true then 1 else 0
structure PC {α:Type} (c:α→α→Int):Prop where
 anti:∀x y,c y x=-c x y
 trans:∀x y z,c x y≤0→c y z≤0→c x z≤0
theorem PC.on {α β:Type} {c:β→β→Int} (h:PC c) (p:α→β):PC fun x y=>c (p x) (p y):=⟨fun x y=>h.anti _ _,fun x y z=>h.trans _ _ _⟩
end
def sg:Nat→(Nat→Nat)→Nat
 |0,_=>0
 |n+1,f=>sg n f+f n
theorem BK {f g:Nat→Nat}:∀{n:Nat},(∀ i,i<n→f i=g i)→sg n f=sg n g
 |0,_=>rfl
 |n+1,h=>by
  show sg n f+f n=sg n g+g n
  rw[BK fun i hi=>h i (by omega),h n (by omega)]
theorem JX {f g:Nat→Nat}:∀{n:Nat},(sg n fun i=>f i+g i)=sg n f+sg n g
 |0=>rfl
 |n+1=>by
  have:=JX (f:=f) (g:=g) (n:=n)
  simp only[sg];omega
theorem Za {c:Nat} {f:Nat→Nat}:∀{n:Nat},(sg n fun i=>c*f i)=c*sg n f
 |0=>by simp[sg]
 |n+1=>by
  have:=Za (c:=c) (f:=f) (n:=n)
  simp only[sg,Nat.mul_add,this]
theorem AeR {c:Nat} {f:Nat→Nat} {n:Nat}:(sg n fun i=>f i*c)=sg n f*c:=by
 rw[Nat.mul_comm,←Za]
 exact BK fun i _=>Nat.mul_comm _ _
theorem Hz {f:Nat→Nat}:∀{n:Nat},(∀ i,i<n→f i=0)→sg n f=0
 |0,_=>rfl
 |n+1,h=>by
  show sg n f+f n=0
  rw[Hz fun i hi=>h i (by omega),h n (by omega)]
theorem IY {f:Nat→Nat→Nat} {m:Nat}:∀{n:Nat},(sg n fun i=>sg m (f i))=sg m fun j=>sg n fun i=>f i j
 |0=>(Hz fun _ _=>rfl).symm
 |n+1=>by
  have:=IY (f:=f) (m:=m) (n:=n)
  simp only[sg]
  rw[this,←JX]
theorem Xr {f:Nat→Nat} {i:Nat}:∀{n:Nat},i<n→(sg n fun j=>if j=i then f j else 0)=f i
 |n+1,h=>by
  show(sg n fun j=>if j=i then f j else 0)+(if n=i then f n else 0)=f i
  by_cases e:n=i
  ·subst e
   rw[if_pos rfl,Hz fun j hj=>if_neg (by omega),Nat.zero_add]
  ·rw[if_neg e,Xr (by omega),Nat.add_zero]
theorem LU {f g:Nat→Nat}:∀{n:Nat},(∀ i,i<n→f i≤g i)→sg n f≤sg n g
 |0,_=>Nat.le_refl _
 |n+1,h=>by
  have:=LU (f:=f) (g:=g) (n:=n) fun i hi=>h i (by omega)
  have:=h n (by omega)
  simp only[sg];omega
theorem Wn {f:Nat→Nat} {i:Nat}:∀{n:Nat},i<n→f i≤sg n f
 |n+1,h=>by
  show f i≤sg n f+f n
  by_cases e:n=i
  ·subst e;omega
  ·have:=Wn (f:=f) (i:=i) (n:=n) (by omega);omega
theorem Adg {f:Nat→Nat}:∀{n:Nat},0<sg n f→∃i,i<n∧0<f i
 |0,h=>by simp[sg]at h
 |n+1,h=>by
  by_cases e:0<f n
  ·exact⟨n,by omega,e⟩
  ·obtain⟨i,hi,hp⟩:=Adg (f:=f) (n:=n) (by simp only[sg]at h;omega)
   exact⟨i,by omega,hp⟩
theorem KX {c:Nat}:∀{n:Nat},(sg n fun _=>c)=n*c
 |0=>by simp[sg]
 |n+1=>by simp only[sg,KX (n:=n),Nat.succ_mul]
theorem Aah {p:Nat→Prop} [DecidablePred p]:∀{n:Nat},(∀ i j,p i→p j→i=j)→(sg n fun i=>if p i then 1 else 0)≤1
 |0,_=>by simp[sg]
 |n+1,h=>by
  show(sg n fun i=>if p i then 1 else 0)+(if p n then 1 else 0)≤1
  by_cases e:p n
  ·rw[if_pos e,Hz fun j hj=>if_neg fun hp=>by have:=h j n hp e;omega]
   exact Nat.le_refl _
  ·rw[if_neg e]
   exact Aah h
section
variable (A:Nat→Nat→Bool) (n:Nat)
def wk (i:Nat):Nat→Nat→Nat
 |0,v=>if v=i then 1 else 0
 |d+1,v=>sg n fun u=>if A u v then wk i d u else 0
def Ds (i v d:Nat):Prop:=0<wk A n i d v∧∀e,e<d→wk A n i e v=0
instance (i v d:Nat):Decidable (Ds A n i v d):=by unfold Ds;infer_instance
def dsO (i v:Nat):Option Nat:=(List.range n).find? fun d=>decide (Ds A n i v d)
def Ho (i v:Nat):Int:=match dsO A n i v with|some d=>(d:Int)|none=>-1
def GZ (i v:Nat):Nat:=match dsO A n i v with|some d=>wk A n i d v|none=>0
variable {A:Nat→Nat→Bool} {n:Nat}
theorem Adh:∀{d i v:Nat},i<n→v<n→wk A n i (d+1) v=sg n fun u=>if A i u then wk A n u d v else 0
 |0,i,v,hi,hv=>by
  have e1:wk A n i 1 v=if A i v then 1 else 0:=by
   show(sg n fun u=>if A u v then(if u=i then 1 else 0)else 0)=_
   rw[← Xr (f:=fun u=>if A u v then 1 else 0) hi]
   exact BK fun u _=>by by_cases h:A u v<;>simp[h]
  have e2:(sg n fun u=>if A i u then wk A n u 0 v else 0)=if A i v then 1 else 0:=by
   rw[← Xr (f:=fun u=>if A i u then 1 else 0) hv]
   refine BK fun u _=>?_
   show(if A i u then(if v=u then 1 else 0)else 0)=_
   by_cases h:A i u<;>by_cases h2:v=u<;>simp[h,h2,eq_comm]
  rw[e1,e2]
 |d+1,i,v,hi,hv=>by
  show(sg n fun u=>if A u v then wk A n i (d+1) u else 0)=sg n fun w=>if A i w then wk A n w (d+1) v else 0
  have e1:(sg n fun u=>if A u v then wk A n i (d+1) u else 0)=sg n fun u=>sg n fun w=>if A u v then(if A i w then wk A n w d u else 0)else 0:=BK fun u hu=>by
   by_cases h:A u v
   ·simp only[h,if_true]
    exact Adh hi hu
   ·simp only[h]
    exact(Hz fun _ _=>rfl).symm
  rw[e1,IY]
  refine BK fun w _=>?_
  by_cases h:A i w
  ·simp only[h,if_true];rfl
  ·simp only[h]
   exact Hz fun u _=>by split<;>rfl
theorem Ro:∀{d i t:Nat},i<n→t<n→wk (fun a b=>A b a) n t d i=wk A n i d t
 |0,i,t,hi,ht=>by
  show(if i=t then 1 else 0)=if t=i then 1 else 0
  by_cases h:i=t<;>simp[h,eq_comm]
 |d+1,i,t,hi,ht=>by
  rw[Adh hi ht]
  exact BK fun u hu=>by rw[Ro hu ht]
theorem Adi {a:Nat}:∀{b i t:Nat},t<n→wk A n i (a+b) t=sg n fun v=>wk A n i a v*wk A n v b t
 |0,i,t,ht=>by
  show wk A n i a t=sg n fun v=>wk A n i a v*(if t=v then 1 else 0)
  rw[← Xr (f:=fun v=>wk A n i a v) ht]
  exact BK fun v _=>by
   by_cases h:v=t
   ·subst h;simp
   ·rw[if_neg h,if_neg (fun e:t=v=>h e.symm),Nat.mul_zero]
 |b+1,i,t,ht=>by
  show(sg n fun u=>if A u t then wk A n i (a+b) u else 0)=sg n fun v=>wk A n i a v*sg n fun u=>if A u t then wk A n v b u else 0
  have e1:(sg n fun u=>if A u t then wk A n i (a+b) u else 0)=sg n fun u=>sg n fun v=>wk A n i a v*if A u t then wk A n v b u else 0:=BK fun u hu=>by
   by_cases h:A u t
   ·simp only[h,if_true];exact Adi hu
   ·simp only[h];exact(Hz fun _ _=>by simp).symm
  rw[e1,IY]
  exact BK fun v _=>Za
theorem AgU {p:Nat→Prop} {d:Nat} (h:p d):∃e,e≤d∧p e∧∀k,k<e→¬p k:=by
 induction d using Nat.strongRecOn with
 |ind d ih=>
  by_cases hd:∃k,k<d∧p k
  ·obtain⟨k,hk,hp⟩:=hd
   obtain⟨e,he,h1,h2⟩:=ih k hk hp
   exact⟨e,by omega,h1,h2⟩
  ·exact⟨d,Nat.le_refl _,h,fun k hk hp=>hd ⟨k,hk,hp⟩⟩
theorem AfL {i v d:Nat} (h:0<wk A n i d v):∃e,e≤d∧Ds A n i v e:=by
 obtain⟨e,he,h1,h2⟩:=AgU (p:=fun e=>0<wk A n i e v) h
 exact⟨e,he,h1,fun k hk=>by have:=h2 k hk;omega⟩
theorem Ds.uniq {i v d e:Nat} (h:Ds A n i v d) (k:Ds A n i v e):d=e:=by
 by_cases h1:d<e
 ·have:=k.2 d h1;have:=h.1;omega
 ·by_cases h2:e<d
  ·have:=h.2 e h2;have:=k.1;omega
  ·omega
theorem JI {i v:Nat}:Ds A n i v 0↔v=i:=by
 constructor
 ·intro h
  have h1:0<(if v=i then 1 else 0):=h.1
  by_cases e:v=i
  ·exact e
  ·rw[if_neg e]at h1;omega
 ·rintro rfl
  exact⟨by show 0<(if v=v then 1 else 0);rw[if_pos rfl];omega,fun e he=>by omega⟩
theorem Wp {i u v d:Nat} (hu:u<n) (ha:A u v=true) (h:0<wk A n i d u):0<wk A n i (d+1) v:=by
 have:=Wn (f:=fun u=>if A u v then wk A n i d u else 0) hu
 simp only[ha,if_true]at this
 show 0<sg n _
 omega
theorem Ox {i v d:Nat}:Ds A n i v (d+1)↔(∀ e,e≤d→¬Ds A n i v e)∧∃u,u<n∧A u v=true∧Ds A n i u d:=by
 constructor
 ·intro h
  refine⟨fun e he k=>by have:=h.uniq k;omega,?_⟩
  obtain⟨u,hu,hp⟩:=Adg (n:=n) (f:=fun u=>if A u v then wk A n i d u else 0) h.1
  by_cases ha:A u v=true
  ·simp only[ha,if_true]at hp
   refine⟨u,hu,ha,hp,fun e he=>?_⟩
   by_cases h0:0<wk A n i e u
   ·have:=Wp hu ha h0
    have:=h.2 (e+1) (by omega)
    omega
   ·omega
  ·simp only[ha]at hp
   exact absurd hp (by simp)
 ·rintro⟨h1,u,hu,ha,h2⟩
  refine⟨Wp hu ha h2.1,fun e he=>?_⟩
  by_cases h0:0<wk A n i e v
  ·obtain⟨k,hk,hd⟩:=AfL h0
   exact absurd hd (h1 k (by omega))
  ·omega
theorem KW {i v d:Nat} (h:Ds A n i v (d+1)):wk A n i (d+1) v=sg n fun u=>if A u v=true∧Ds A n i u d then wk A n i d u else 0:=by
 show(sg n fun u=>if A u v then wk A n i d u else 0)=_
 refine BK fun u hu=>?_
 by_cases ha:A u v=true
 ·rw[if_pos ha]
  by_cases hd:Ds A n i u d
  ·rw[if_pos ⟨ha,hd⟩]
  ·rw[if_neg fun e=>hd e.2]
   by_cases h0:0<wk A n i d u
   ·obtain⟨e,he,k⟩:=AfL h0
    have hlt:e<d:=by
      by_cases e':e=d
      ·subst e';exact absurd k hd
      ·omega
    have:=Wp hu ha k.1
    have:=h.2 (e+1) (by omega)
    omega
   ·omega
 ·rw[if_neg ha,if_neg fun e=>ha e.1]
theorem VO {i:Nat}:∀{d v:Nat},v<n→Ds A n i v d→∀e,e≤d→∃u,u<n∧Ds A n i u e
 |0,v,hv,h,e,he=>by
  obtain rfl:e=0:=by omega
  exact⟨v,hv,h⟩
 |d+1,v,hv,h,e,he=>by
  by_cases e':e=d+1
  ·subst e';exact⟨v,hv,h⟩
  ·obtain⟨_,w,hw,_,hd⟩:=Ox.1 h
   exact VO hw hd e (by omega)
def lvN (A:Nat→Nat→Bool) (n i e:Nat):Nat:=sg n fun v=>if Ds A n i v e then 1 else 0
theorem Adk {i m:Nat}:sg m (lvN A n i)≤n:=by
 unfold lvN
 rw[IY]
 have h:=LU (n:=n) (f:=fun v=>sg m fun e=>if Ds A n i v e then 1 else 0) (g:=fun _=>1) fun v _=>Aah fun a b h k=>Ds.uniq h k
 rw[KX]at h
 omega
theorem AgV {i v d:Nat} (hv:v<n) (h:Ds A n i v d):1≤lvN A n i d:=by
 have:=Wn (n:=n) (f:=fun v=>if Ds A n i v d then 1 else 0) hv
 simp only[h,if_true]at this
 exact this
theorem ZF {i v d:Nat} (hi:i<n) (hv:v<n) (h:Ds A n i v d):d<n:=by
 have h1:=Adk (A:=A) (n:=n) (i:=i) (m:=d+1)
 have h2:=LU (n:=d+1) (f:=fun _=>1) (g:=lvN A n i) fun e he=>by
  obtain⟨u,hu,hd⟩:=VO hv h e (by omega)
  exact AgV hu hd
 rw[KX]at h2
 omega
theorem Adl {i:Nat}:∀{d v:Nat},Ds A n i v d→wk A n i d v≤2 ^ sg d (lvN A n i)
 |0,v,h=>by
  show(if v=i then 1 else 0)≤1
  split<;>omega
 |d+1,v,h=>by
  rw[KW h]
  have h1:=LU (n:=n) (f:=fun u=>if A u v=true∧Ds A n i u d then wk A n i d u else 0) (g:=fun u=>(if Ds A n i u d then 1 else 0)*2 ^ sg d (lvN A n i)) fun u hu=>by
   by_cases k:Ds A n i u d
   ·by_cases ha:A u v=true
    ·simp only[ha,k,and_self,if_true,Nat.one_mul];exact Adl k
    ·rw[if_neg fun e=>ha e.1];exact Nat.zero_le _
   ·rw[if_neg fun e=>k e.2];exact Nat.zero_le _
  rw[AeR]at h1
  have h2:sg (d+1) (lvN A n i)=sg d (lvN A n i)+lvN A n i d:=rfl
  have h3:(sg n fun u=>if Ds A n i u d then 1 else 0)=lvN A n i d:=rfl
  rw[h2,Nat.pow_add,Nat.mul_comm (2 ^ sg d (lvN A n i))]
  rw[h3]at h1
  exact Nat.le_trans h1 (Nat.mul_le_mul_right _ (Nat.le_of_lt Nat.lt_two_pow_self))
theorem YP {i v d:Nat} (h:Ds A n i v d):wk A n i d v≤2 ^ n:=Nat.le_trans (Adl h) (Nat.pow_le_pow_right (by omega) Adk)
theorem Q8 {i v d:Nat} (hi:i<n) (hv:v<n):dsO A n i v=some d↔Ds A n i v d:=by
 constructor
 ·intro h
  exact of_decide_eq_true (List.find?_some (p:=fun d=>decide (Ds A n i v d)) h)
 ·intro h
  cases hf:dsO A n i v with
  |none=>
   have:=List.find?_eq_none.1 hf d (List.mem_range.2 (ZF hi hv h))
   exact absurd (decide_eq_true h) this
  |some e=>
   have:Ds A n i v e:=of_decide_eq_true (List.find?_some (p:=fun d=>decide (Ds A n i v d)) hf)
   rw[h.uniq this]
theorem TB {i v:Nat} (hi:i<n) (hv:v<n):dsO A n i v=none↔∀d,¬Ds A n i v d:=by
 constructor
 ·intro h d k
  rw[(Q8 hi hv).2 k]at h;cases h
 ·intro h
  cases hf:dsO A n i v with
  |none=>rfl
  |some e=>exact absurd ((Q8 hi hv).1 hf) (h e)
theorem QJ {i v d:Nat} (hi:i<n) (hv:v<n):Ho A n i v=d↔Ds A n i v d:=by
 rw[← Q8 hi hv]
 unfold Ho
 cases dsO A n i v with
 |none=>simp
 |some e=>simp;omega
theorem Af7 {i v:Nat}:-1≤Ho A n i v:=by
 unfold Ho
 split<;>omega
theorem Af8 {i v:Nat} (hi:i<n) (hv:v<n):Ho A n i v<n:=by
 by_cases h:∃d,Ds A n i v d
 ·obtain⟨d,h⟩:=h
  rw[(QJ hi hv).2 h]
  have:=ZF hi hv h
  omega
 ·unfold Ho
  rw[(TB hi hv).2 fun d hd=>h ⟨d,hd⟩]
  show(-1:Int)<n
  omega
theorem LK {i v:Nat} (hi:i<n) (hv:v<n):Ho A n i v=-1↔∀d,¬Ds A n i v d:=by
 rw[← TB hi hv]
 unfold Ho
 cases dsO A n i v with
 |none=>simp
 |some e=>simp
theorem Gp {i v:Nat} (hi:i<n) (hv:v<n):Ho A n i v=-1∨∃d,Ho A n i v=(d:Nat)∧Ds A n i v d:=by
 by_cases h:∃d,Ds A n i v d
 ·obtain⟨d,h⟩:=h
  exact .inr ⟨d,(QJ hi hv).2 h,h⟩
 ·exact .inl ((LK hi hv).2 fun d hd=>h ⟨d,hd⟩)
theorem JK {i v d:Nat} (hi:i<n) (hv:v<n) (h:Ds A n i v d):GZ A n i v=wk A n i d v:=by
 unfold GZ
 rw[(Q8 hi hv).2 h]
theorem KG {i v:Nat} (hi:i<n) (hv:v<n) (h:Ho A n i v=-1):GZ A n i v=0:=by
 unfold GZ
 rw[(TB hi hv).2 ((LK hi hv).1 h)]
theorem AfZ {i v:Nat} (hi:i<n) (hv:v<n):GZ A n i v≤2 ^ n:=by
 rcases Gp (A:=A) hi hv with h|⟨d,_,h⟩
 ·rw[KG hi hv h];exact Nat.zero_le _
 ·rw[JK hi hv h];exact YP h
theorem Vm {i v d:Nat} (hi:i<n) (hv:v<n) (h:Ds A n i v d):0<GZ A n i v:=by
 rw[JK hi hv h];exact h.1
theorem AaC {s v t a b:Nat} (hs:s<n) (hv:v<n) (ht:t<n) (h1:Ds A n s v a) (h2:Ds A n v t b) (hd:Ds A n s t (a+b)):GZ A n s v*GZ A n v t≤GZ A n s t:=by
 rw[JK hs hv h1,JK hv ht h2,JK hs ht hd,Adi ht]
 exact Wn (n:=n) (f:=fun u=>wk A n s a u*wk A n u b t) hv
end
def QM {α:Type} (f:Nat→α) (v:Nat) (x:α) (w:Nat):α:=if w=v then x else f w
theorem G5 {α:Type} {f:Nat→α} {v:Nat} {x:α}:QM f v x v=x:=if_pos rfl
theorem DX {α:Type} {f:Nat→α} {v w:Nat} {x:α} (h:w≠v):QM f v x w=f w:=if_neg h
def Gj (n:Nat) (f:Nat→Int):List Int:=(List.range n).map f
theorem Vr {n:Nat} {f:Nat→Int}:(Gj n f).length=n:=by simp[Gj]
theorem DY {n:Nat} {f:Nat→Int} {v:Nat} (h:v<(Gj n f).length):(Gj n f)[v]=f v:=by simp[Gj]
theorem QU {n:Nat} {f:Nat→Int} {v:Nat} {x:Int}:(Gj n f).set v x=Gj n (QM f v x):=by
 apply List.ext_getElem
 ·simp[Gj]
 ·intro i h1 h2
  rw[List.getElem_set,DY,DY]
  unfold QM
  by_cases e:v=i
  ·rw[if_pos e,if_pos e.symm]
  ·rw[if_neg e,if_neg fun h=>e h.symm]
theorem UK {n:Nat} {f g:Nat→Int} (h:∀i,i<n→f i=g i):Gj n f=Gj n g:=List.map_congr_left fun i hi=>h i (List.mem_range.1 hi)
theorem Aeo {n:Nat} {x:Int}:List.replicate n x=Gj n fun _=>x:=by
 apply List.ext_getElem
 ·simp[Gj]
 ·intro i h1 h2
  rw[List.getElem_replicate,DY]
section
variable (A:Nat→Nat→Bool) (n:Nat)
def KT (i d w:Nat) (S:List (Nat×Nat)):Nat:=((S.filter fun p=>decide (p.2=w)).map fun p=>wk A n i d p.1).sum
def QD (i d w:Nat):Prop:=∀e,e≤d→¬Ds A n i w e
structure Uc (i d:Nat) (S:List (Nat×Nat)) (fD fC:Nat→Int) (nx:List Nat):Prop where
 near:∀w,w<n→∀e,e≤d→Ds A n i w e→fD w=e∧fC w=wk A n i e w
 far:∀w,w<n→QD A n i d w→fC w=KT A n i d w S∧fD w=if w∈nx then(d:Int)+1 else -1
 nd:nx.Nodup
 mem:∀w,w∈nx↔w<n∧QD A n i d w∧∃p∈S,p.2=w
def Lvl (i d:Nat) (L:List Nat):Prop:=L.Nodup∧∀u,u∈L↔u<n∧Ds A n i u d
variable {A:Nat→Nat→Bool} {n:Nat}
def Na (A:Nat→Nat→Bool) (n u:Nat):List Nat:=(List.range n).filter fun v=>A u v
theorem Hr {u v:Nat}:v∈Na A n u↔v<n∧A u v=true:=by simp[Na]
theorem Aco {u:Nat}:(Na A n u).Nodup:=List.Pairwise.filter _ List.nodup_range
def EX (A:Nat→Nat→Bool) (n:Nat) (L:List Nat):List (Nat×Nat):=L.flatMap fun u=>(Na A n u).map fun v=>(u,v)
theorem KU {i d w:Nat} {S T:List (Nat×Nat)}:KT A n i d w (S++T)=KT A n i d w S+KT A n i d w T:=by
 unfold KT
 rw[List.filter_append,List.map_append,List.sum_append]
theorem RV {i d w u v:Nat}:KT A n i d w [(u,v)]=if v=w then wk A n i d u else 0:=by
 unfold KT
 by_cases h:v=w<;>simp[h]
theorem AaY {i d w:Nat} {S:List (Nat×Nat)} (h:∀p∈S,p.2≠w):KT A n i d w S=0:=by
 unfold KT
 rw[List.filter_eq_nil_iff.2 fun p hp=>by simpa using h p hp]
 rfl
variable {i d:Nat} {S:List (Nat×Nat)} {fD fC:Nat→Int} {nx:List Nat}
theorem Uc.start (hi:i<n):Uc A n i 0 [] (QM (fun _=>-1) i 0) (QM (fun _=>0) i 1) [] where
 near:=fun w hw e he h=>by
  obtain rfl:e=0:=by omega
  obtain rfl:=JI.1 h
  refine⟨G5,?_⟩
  rw[G5]
  show(1:Int)=((if w=w then 1 else 0:Nat):Int)
  rw[if_pos rfl];rfl
 far:=fun w hw h=>by
  have hne:w≠i:=fun e=>h 0 (Nat.le_refl 0) (JI.2 e)
  rw[DX hne,DX hne]
  exact⟨rfl,rfl⟩
 nd:=.nil
 mem:=fun w=>by simp
theorem Lvl.start (hi:i<n):Lvl A n i 0 [i]:=⟨by simp,fun u=>by
 rw[List.mem_singleton,JI]
 exact⟨fun e=>⟨by omega,e⟩,fun h=>h.2⟩⟩
theorem Uc.Acp (h:Uc A n i d S fD fC nx) {u v:Nat} (hv:¬QD A n i d v):Uc A n i d (S++[(u,v)]) fD fC nx where
 near:=h.near
 far:=fun w hw hf=>by
  obtain⟨h1,h2⟩:=h.far w hw hf
  refine⟨?_,h2⟩
  rw[KU,RV,if_neg (fun e=>hv (by rw[e];exact hf)),Nat.add_zero]
  exact h1
 nd:=h.nd
 mem:=fun w=>by
  rw[h.mem]
  refine⟨fun ⟨h1,h2,p,hp,e⟩=>⟨h1,h2,p,List.mem_append_left _ hp,e⟩,fun⟨h1,h2,p,hp,e⟩=>?_⟩
  rcases List.mem_append.1 hp with hp|hp
  ·exact⟨h1,h2,p,hp,e⟩
  ·rw[List.mem_singleton.1 hp]at e
   exact absurd (by rw[show v=w from e];exact h2) hv
theorem Uc.Aep (h:Uc A n i d S fD fC nx) {u v:Nat} (hv:v∈nx):Uc A n i d (S++[(u,v)]) fD (QM fC v (fC v+wk A n i d u)) nx:=by
 obtain⟨hvn,hvf,p0,hp0,e0⟩:=(h.mem v).1 hv
 exact{
 near:=fun w hw e he hd=>by
  have hne:w≠v:=fun e'=>hvf e he (by rw[← e'];exact hd)
  rw[DX hne]
  exact h.near w hw e he hd
 far:=fun w hw hf=>by
  obtain⟨h1,h2⟩:=h.far w hw hf
  refine⟨?_,h2⟩
  rw[KU,RV]
  by_cases e:w=v
  ·subst e
   rw[G5,if_pos rfl,h1];omega
  ·rw[DX e,if_neg (fun e'=>e e'.symm),h1];omega
 nd:=h.nd
 mem:=fun w=>by
  rw[h.mem]
  refine⟨fun ⟨h1,h2,p,hp,e⟩=>⟨h1,h2,p,List.mem_append_left _ hp,e⟩,fun⟨h1,h2,p,hp,e⟩=>?_⟩
  rcases List.mem_append.1 hp with hp|hp
  ·exact⟨h1,h2,p,hp,e⟩
  ·rw[List.mem_singleton.1 hp]at e
   exact⟨h1,h2,p0,hp0,by rw[e0];exact e⟩}
theorem Uc.newStep (h:Uc A n i d S fD fC nx) {u v:Nat} (hvn:v<n) (hvf:QD A n i d v) (hv:v∉nx):Uc A n i d (S++[(u,v)]) (QM fD v ((d:Int)+1)) (QM fC v (fC v+wk A n i d u)) (nx++[v]) where
 near:=fun w hw e he hd=>by
  have hne:w≠v:=fun e'=>hvf e he (by rw[← e'];exact hd)
  rw[DX hne,DX hne]
  exact h.near w hw e he hd
 far:=fun w hw hf=>by
  obtain⟨h1,h2⟩:=h.far w hw hf
  rw[KU,RV]
  by_cases e:w=v
  ·subst e
   rw[G5,G5,if_pos rfl,h1,if_pos (by simp)]
   exact⟨by omega,rfl⟩
  ·rw[DX e,DX e,if_neg (fun e'=>e e'.symm),h1,h2]
   refine⟨by omega,?_⟩
   have:w∈nx++[v]↔w∈nx:=by simp[e]
   simp only[this]
 nd:=List.nodup_append.2 ⟨h.nd,by simp,fun a ha b hb e=>hv (by rw[← List.mem_singleton.1 hb,←e];exact ha)⟩
 mem:=fun w=>by
  rw[List.mem_append,h.mem,List.mem_singleton]
  constructor
  ·rintro(⟨h1,h2,p,hp,e⟩|rfl)
   ·exact⟨h1,h2,p,List.mem_append_left _ hp,e⟩
   ·exact⟨hvn,hvf,_,List.mem_append_right _ (List.mem_singleton.2 rfl),rfl⟩
  ·rintro⟨h1,h2,p,hp,e⟩
   rcases List.mem_append.1 hp with hp|hp
   ·exact .inl ⟨h1,h2,p,hp,e⟩
   ·rw[List.mem_singleton.1 hp]at e
    exact .inr e.symm
theorem PG {w:Nat} {h:Nat→Nat}:∀{L:List Nat},L.Nodup→(∀ u∈L,u<n)→(L.map h).sum=sg n fun u=>if u∈L then h u else 0
 |[],_,_=>(Hz fun _ _=>by simp).symm
 |a::L,hn,hl=>by
  obtain⟨h1,h2⟩:=List.nodup_cons.1 hn
  rw[List.map_cons,List.sum_cons,PG (w:=w) h2 fun u hu=>hl u (List.mem_cons_of_mem _ hu),←Xr (f:=h) (hl a (List.mem_cons_self ..)),←JX]
  refine BK fun u hu=>?_
  by_cases e:u=a
  ·subst e;simp[h1]
  ·simp[e]
theorem Acr {w u:Nat}:KT A n i d w ((Na A n u).map fun v=>(u,v))=if w<n∧A u w=true then wk A n i d u else 0:=by
 unfold KT
 rw[List.filter_map,List.map_map]
 have:∀l:List Nat,l.Nodup→((l.filter ((fun p:Nat×Nat=>decide (p.2=w))∘fun v=>(u,v))).map ((fun p:Nat×Nat=>wk A n i d p.1)∘fun v=>(u,v))).sum=if w∈l then wk A n i d u else 0:=fun l=>by
  induction l with
  |nil=>intro _;rfl
  |cons a l ih=>
   intro hn
   obtain⟨h1,h2⟩:=List.nodup_cons.1 hn
   have ih:=ih h2
   by_cases e:a=w
   ·subst e
    rw[if_neg h1]at ih
    simp only[List.filter_cons,Function.comp,decide_true,if_true,List.map_cons,List.sum_cons,List.mem_cons,true_or]
    have ih:(List.map (fun _=>wk A n i d u) (List.filter (fun x=>decide (x=a)) l)).sum=0:=ih
    omega
   ·have hm:w∈a::l↔w∈l:=⟨fun h=>(List.mem_cons.1 h).resolve_left fun h=>e h.symm,List.mem_cons_of_mem _⟩
    simp only[hm]
    rw[← ih]
    simp[e]
 rw[this _ Aco]
 simp only[Hr]
theorem UL {w:Nat} {L:List Nat} (hL:Lvl A n i d L) (hw:w<n):KT A n i d w (EX A n L)=sg n fun u=>if A u w=true∧Ds A n i u d then wk A n i d u else 0:=by
 have h1:∀l:List Nat,KT A n i d w (EX A n l)=(l.map fun u=>if A u w=true then wk A n i d u else 0).sum:=fun l=>by
  induction l with
  |nil=>rfl
  |cons a l ih=>
   show KT A n i d w (((Na A n a).map fun v=>(a,v))++EX A n l)=_
   rw[KU,ih,Acr,List.map_cons,List.sum_cons]
   simp only[hw,true_and]
 rw[h1,PG (w:=w) hL.1 fun u hu=>((hL.2 u).1 hu).1]
 refine BK fun u hu=>?_
 by_cases k:Ds A n i u d
 ·rw[if_pos ((hL.2 u).2 ⟨hu,k⟩)]
  by_cases a:A u w=true<;>simp[a,k]
 ·rw[if_neg fun h=>k ((hL.2 u).1 h).2]
  simp[k]
theorem Xt {L:List Nat} {p:Nat×Nat}:p∈EX A n L↔p.1∈L∧p.2<n∧A p.1 p.2=true:=by
 unfold EX
 rw[List.mem_flatMap]
 constructor
 ·rintro⟨u,hu,hp⟩
  obtain⟨v,hv,rfl⟩:=List.mem_map.1 hp
  exact⟨hu,(Hr.1 hv).1,(Hr.1 hv).2⟩
 ·rintro⟨h1,h2,h3⟩
  exact⟨p.1,h1,List.mem_map.2 ⟨p.2,Hr.2 ⟨h2,h3⟩,rfl⟩⟩
theorem Aeq {w:Nat} {L:List Nat} (hL:Lvl A n i d L) (hw:w<n) (hf:QD A n i d w) {T:List (Nat×Nat)} (hS:S++T=EX A n L):KT A n i d w S≤2 ^ n:=by
 have h1:KT A n i d w S≤KT A n i d w (EX A n L):=by
  rw[← hS,KU];omega
 refine Nat.le_trans h1 ?_
 rw[UL hL hw]
 by_cases k:Ds A n i w (d+1)
 ·rw[← KW k];exact YP k
 ·rw[Hz fun u hu=>if_neg fun⟨a,b⟩=>k (Ox.2 ⟨hf,u,hu,a,b⟩)]
  exact Nat.zero_le _
theorem Uc.next {L:List Nat} (hL:Lvl A n i d L) (h:Uc A n i d (EX A n L) fD fC nx):Lvl A n i (d+1) nx∧Uc A n i (d+1) [] fD fC []:=by
 have key:∀w,w<n→QD A n i d w→(w∈nx↔Ds A n i w (d+1)):=fun w hw hf=>by
  rw[h.mem,Ox]
  constructor
  ·rintro⟨_,_,p,hp,rfl⟩
   obtain⟨h1,h2,h3⟩:=Xt.1 hp
   obtain⟨h4,h5⟩:=(hL.2 _).1 h1
   exact⟨hf,p.1,h4,h3,h5⟩
  ·rintro⟨_,u,hu,ha,hd⟩
   exact⟨hw,hf,(u,w),Xt.2 ⟨(hL.2 u).2 ⟨hu,hd⟩,hw,ha⟩,rfl⟩
 refine⟨⟨h.nd,fun w=>?_⟩,?_⟩
 ·constructor
  ·intro hm
   obtain⟨h1,h2,_⟩:=(h.mem w).1 hm
   exact⟨h1,(key w h1 h2).1 hm⟩
  ·rintro⟨h1,h2⟩
   exact(key w h1 (Ox.1 h2).1).2 h2
 ·refine⟨fun w hw e he hd=>?_,fun w hw hf=>?_,.nil,fun w=>by simp⟩
  ·by_cases e1:e≤d
   ·exact h.near w hw e e1 hd
   ·obtain rfl:e=d+1:=by omega
    have hf:QD A n i d w:=(Ox.1 hd).1
    obtain⟨h1,h2⟩:=h.far w hw hf
    rw[if_pos ((key w hw hf).2 hd)]at h2
    refine⟨by rw[h2];omega,?_⟩
    rw[h1,UL hL hw,←KW hd]
  ·have hf':QD A n i d w:=fun e he=>hf e (by omega)
   obtain⟨h1,h2⟩:=h.far w hw hf'
   have hn:w∉nx:=fun hm=>hf (d+1) (Nat.le_refl _) ((key w hw hf').1 hm)
   rw[if_neg hn]at h2
   refine⟨?_,h2⟩
   rw[h1,AaY fun p hp e=>hn ((h.mem w).2 ⟨hw,hf',p,hp,e⟩)]
   rfl
theorem Uc.done (hi:i<n) (hL:Lvl A n i d []) (h:Uc A n i d [] fD fC []) {w:Nat} (hw:w<n):fD w=Ho A n i w∧fC w=GZ A n i w:=by
 rcases Gp (A:=A) hi hw with e|⟨x,e,hx⟩
 ·have hf:QD A n i d w:=fun k _=>(LK hi hw).1 e k
  obtain⟨h1,h2⟩:=h.far w hw hf
  rw[e,KG hi hw e]
  exact⟨h2,h1⟩
 ·have hxd:x≤d:=by
   by_cases hlt:x≤d
   ·exact hlt
   ·obtain⟨u,hu,hd⟩:=VO hw hx d (by omega)
    exact absurd ((hL.2 u).2 ⟨hu,hd⟩) (by simp)
  obtain⟨h1,h2⟩:=h.near w hw x hxd hx
  rw[e,JK hi hw hx]
  exact⟨h1,h2⟩
theorem Lvl.lt (hi:i<n) {L:List Nat} (hL:Lvl A n i d L) (h:L≠[]):d<n:=by
 cases L with
 |nil=>exact absurd rfl h
 |cons a L=>
  obtain⟨h1,h2⟩:=(hL.2 a).1 (List.mem_cons_self ..)
  exact ZF hi h1 h2
end
end AI
end Go.Proofs.YtiimoiecghmebaaDoor
