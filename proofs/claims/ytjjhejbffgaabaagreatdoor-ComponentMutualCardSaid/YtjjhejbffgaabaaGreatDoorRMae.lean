/- Comparing two numbers. Sorting in place: lists of a store against arrays of the library's plain sort. math/bits.Len and the next power of two. Orders: lexicographic, of numbers, of strings; the first that is not 0. Walks of each length, levels, distances: plain laws. -/
import Derived.Test.YtjjhejbffgaabaaGreatDoorRGrCode
import Derived.Test.YtjjhejbffgaabaaGreatDoorRMad
import Derived.Sort.AssemblyPlain
set_option linter.unusedVariables false
set_option maxRecDepth 4000
namespace Go.Proofs.YtjjhejbffgaabaaGreatDoor
namespace AI
theorem nan {x:Int}:AQ (Ac tab) 90 [.int .i64 x] (· =.bool (decide False)):=by
 refine Ai rfl rfl ?_
 (conv=>whnf);repeat' (first  |(refine kA ?_;conv=>whnf)|(refine Br.mk (fun hc=>?_) fun hc=>?_<;>first|exact hc.elim|conv=>whnf)|(refine kB ?_))
 all_goals first|exact absurd rfl hc|rfl
def Kv (x y:Int):Int:=if x<y then -1 else if y<x then 1 else 0
theorem compare {x y:Int}:AQ (Ac tab) 66 [.int .i64 x,.int .i64 y] (· =.int .i64 (Kv x y)):=by
 refine Ai rfl rfl ?_
 (conv=>whnf);repeat' (first|(refine Gu nan (fun hc=>absurd hc id) (fun _=>?_);conv=>whnf)|(refine kA ?_;conv=>whnf)|(refine Br.mk (fun hc=>?_) fun hc=>?_<;>first|exact hc.elim|conv=>whnf)|(refine kB ?_))
 all_goals unfold Kv;first|(rw [if_pos (by omega)];rfl)|(rw [if_neg (by omega),if_pos (by omega)];rfl)|(rw [if_neg (by omega),if_neg (by omega)];rfl)
theorem Qp {x y:Int}:Kv x y<0↔x<y:=by unfold Kv;split<;>(try split)<;>omega
theorem TL {x y:Int}:Kv x y=0↔x=y:=by unfold Kv;split<;>(try split)<;>omega
section
open Go.Sort
section
variable {α:Type} [Inhabited α] {f:α→AV}
theorem nP {d:Array α} {z:Int} (i:Nat) (hz:z=i) (h:i<d.size):nth (vs f d.toList) (Int.toNat z)=some (f d[i]!):=by
 rw[nVz i hz (by simpa using h)]
 simp[h]
omit [Inhabited α]in
theorem tP {es:Nat} (hf:∀x,(f x).cells.length=es) {d:Array α} {z:Int} (i:Nat) (hz:z=i) {x y:α}:(vs f d.toList).set (Int.toNat z) (Bl (f y) 0 (f x))=vs f (d.setIfInBounds i x).toList:=by
 subst hz
 have e:Bl (f y) 0 (f x)=f x:=by
  unfold Bl
  rw[if_pos ⟨rfl,by rw[hf,hf]⟩]
 rw[e]
 show(vs f d.toList).set i (f x)=_
 simp[vs,List.map_set]
theorem GI {d:Array α} {z:Int} {K:AV→Prop} (i:Nat) (k:K (f d[i]!)) (hz:z=i:=by omega) (h:i<d.size:=by first|omega|(simp;omega)):BX (vs f d.toList) (Int.toNat z) K:=Ak (nP i hz h) k
omit [Inhabited α]in
theorem LW {es:Nat} (hf:∀x,(f x).cells.length=es) {d:Array α} {z:Int} {x y:α} {K:List AV→Prop} (i:Nat) (k:K (vs f (d.setIfInBounds i x).toList)) (hz:z=i:=by omega):eqK ((vs f d.toList).set (Int.toNat z) (Bl (f y) 0 (f x))) K:=Bj (tP hf i hz) k
@[simp] theorem Q9 (d:Array α) (i j:Nat):(swp d i j).size=d.size:=by simp[swp]
variable {lt:α→α→Bool} {a b i j hi first root:Nat} {d:Array α}
theorem AbX (h1:a<j+1) (h2:lt d[j+1]! d[j]! =true):insInner lt a (j+1) d=insInner lt a j (swp d (j+1) j):=by
 rw[insInner,if_pos (by simp[h1,h2])]
theorem V9 (h:a<j+1→lt d[j+1]! d[j]! =false):insInner lt a (j+1) d=d:=by
 rw[insInner,if_neg]
 simp only[Bool.and_eq_true,decide_eq_true_eq,not_and]
 intro h1 h2
 rw[h h1]at h2;cases h2
theorem Ad6 (h:i<b):insOuter lt a b i d=insOuter lt a b (i+1) (insInner lt a i d):=by rw[insOuter,if_pos h]
theorem Ad7 (h:¬i<b):insOuter lt a b i d=d:=by rw[insOuter,if_neg h]
@[simp] theorem Wh:∀{j:Nat} {d:Array α},(insInner lt a j d).size=d.size
 |0,d=>rfl
 |j+1,d=>by
  rw[insInner]
  split
  ·rw[Wh,Q9]
  ·rfl
theorem Wi (h:hi≤2*root+1):siftDown lt hi first root d=d:=by
 rw[siftDown,dif_pos h]
theorem Ags (h:2*root+1+1<hi) (h1:lt d[first+(2*root+1)]! d[first+(2*root+1)+1]! =true) (h2:lt d[first+root]! d[first+(2*root+2)]! =true):
 siftDown lt hi first root d=siftDown lt hi first (2*root+2) (swp d (first+root) (first+(2*root+2))):=by
 rw[siftDown,dif_neg (by omega),if_pos (by simp[h,h1]),if_neg (by simp[h2]),dif_pos (by omega)]
theorem Ad8 (h:2*root+1+1<hi) (h1:lt d[first+(2*root+1)]! d[first+(2*root+1)+1]! =true) (h2:lt d[first+root]! d[first+(2*root+2)]! =false):
 siftDown lt hi first root d=d:=by
 rw[siftDown,dif_neg (by omega),if_pos (by simp[h,h1]),if_pos (by simp[h2])]
theorem AbY (h:¬hi≤2*root+1) (h1:2*root+1+1<hi→lt d[first+(2*root+1)]! d[first+(2*root+1)+1]! =false) (h2:lt d[first+root]! d[first+(2*root+1)]! =true):
 siftDown lt hi first root d=siftDown lt hi first (2*root+1) (swp d (first+root) (first+(2*root+1))):=by
 rw[siftDown,dif_neg h,if_neg,if_neg (by simp[h2])]
 simp only[Bool.and_eq_true,decide_eq_true_eq,not_and]
 intro h3 h4
 rw[h1 h3]at h4;cases h4
theorem YT (h:¬hi≤2*root+1) (h1:2*root+1+1<hi→lt d[first+(2*root+1)]! d[first+(2*root+1)+1]! =false) (h2:lt d[first+root]! d[first+(2*root+1)]! =false):
 siftDown lt hi first root d=d:=by
 rw[siftDown,dif_neg h,if_neg,if_pos (by simp[h2])]
 simp only[Bool.and_eq_true,decide_eq_true_eq,not_and]
 intro h3 h4
 rw[h1 h3]at h4;cases h4
theorem Wj {lt:α→α→Bool} {hi first:Nat}:∀(n root:Nat) (d:Array α),hi-root≤n→(siftDown lt hi first root d).size=d.size:=by
 intro n
 induction n with
 |zero=>intro root d h;rw[Wi (by omega)]
 |succ n ih=>
  intro root d h
  rw[siftDown]
  split
  ·rfl
  ·split
   ·split
    ·rfl
    ·split
     ·rw[ih _ _ (by omega),Q9]
     ·rfl
   ·split
    ·rfl
    ·rw[ih _ _ (by omega),Q9]
@[simp] theorem Ad9:(siftDown lt hi first root d).size=d.size:=Wj (hi-root) root d (Nat.le_refl _)
@[simp] theorem UN:∀{k:Nat} {d:Array α},(heapBuild lt hi first k d).size=d.size
 |0,d=>rfl
 |k+1,d=>by rw[heapBuild,UN,Ad9]
end
theorem TG {z:Int} {K:AV→Prop} (n k:Nat) (hz:z=n) (h:n<2^63) (h2:K (.int .i64 ((n / k:Nat):Int))):IQ .i64 (z.tdiv k) K:=by
 subst hz
 have e:(n:Int).tdiv k=((n / k:Nat):Int):=by
  rw[Int.tdiv_eq_ediv_of_nonneg (by omega)];rfl
 rw[e]
 have h3:n / k≤n:=Nat.div_le_self ..
 revert h2 h3 e
 generalize n / k=m
 intro h2 e h3
 exact CG (wrap_i64 (by omega) (by omega)) h2
end
section
open Go.Sort
theorem Acn {k:IntKind} {z:Int} (hk:k.signed=false) (h:0≤z) (h2:z<2 ^ k.bits):k.wrap z=z:=by
 simp only[IntKind.wrap,hk,Bool.false_and,Bool.false_eq_true,if_false]
 exact Int.emod_eq_of_lt h h2
theorem wrapN {k:IntKind} {z:Int} {K:AV→Prop} (n:Nat) (hk:k.signed=false) (hz:z=n) (h:n<2 ^ k.bits) (h2:K (.int k n)):IQ k z K:=by
 subst hz
 refine CG (Acn hk (by omega) ?_) h2
 exact_mod_cast h
theorem CJ {n:Nat} (k:Nat) (h:2 ^ k≤n):bitsLen (n / 2 ^ k)+k=bitsLen n:=by
 have h0:k<bitsLen n:=by
  rcases Nat.lt_or_ge k (bitsLen n)with h1|h1
  ·exact h1
  ·have:=(bitsLen_le_iff n k).1 h1;omega
 have e1:bitsLen (n / 2 ^ k)≤bitsLen n-k:=by
  rw[bitsLen_le_iff,Nat.div_lt_iff_lt_mul (Nat.two_pow_pos k),←Nat.pow_add,Nat.sub_add_cancel (by omega)]
  exact lt_two_pow_bitsLen n
 have e2:bitsLen n≤bitsLen (n / 2 ^ k)+k:=by
  rw[bitsLen_le_iff,Nat.pow_add,←Nat.div_lt_iff_lt_mul (Nat.two_pow_pos k)]
  exact lt_two_pow_bitsLen _
 omega
def YB:List UInt8:=[0,1,2,2,3,3,3,3,4,4,4,4,4,4,4,4]++List.replicate 16 5++List.replicate 32 6++List.replicate 64 7++List.replicate 128 8
theorem YC:(List.range 256).all (fun n=>nth YB n==some (UInt8.ofNat (bitsLen n))&&Nat.ble (bitsLen n) 8)=true:=by decide +kernel
theorem Ul {n:Nat} (h:n<256):nth YB n=some (UInt8.ofNat (bitsLen n))∧bitsLen n≤8:=by
 have:=List.all_eq_true.1 YC n (List.mem_range.2 h)
 rw[Bool.and_eq_true]at this
 exact⟨by simpa using this.1,Nat.le_of_ble_eq_true this.2⟩
theorem AiU (n:Nat):((n:Int)).fdiv (2 ^ (min (Int.toNat 32) IntKind.u64.bits))=((n / 2 ^ 32:Nat):Int):=by
 rw[show (2:Int) ^ (min (Int.toNat 32) IntKind.u64.bits)=4294967296 by rfl,Int.fdiv_eq_ediv_of_nonneg _ (by omega)]
 rfl
theorem AiV (n:Nat):((n:Int)).fdiv (2 ^ (min (Int.toNat 16) IntKind.u64.bits))=((n / 2 ^ 16:Nat):Int):=by
 rw[show (2:Int) ^ (min (Int.toNat 16) IntKind.u64.bits)=65536 by rfl,Int.fdiv_eq_ediv_of_nonneg _ (by omega)]
 rfl
theorem AkS (n:Nat):((n:Int)).fdiv (2 ^ (min (Int.toNat 8) IntKind.u64.bits))=((n / 2 ^ 8:Nat):Int):=by
 rw[show (2:Int) ^ (min (Int.toNat 8) IntKind.u64.bits)=256 by rfl,Int.fdiv_eq_ediv_of_nonneg _ (by omega)]
 rfl
theorem AgY {m:Nat} (h:m≤8):(UInt8.ofNat m).toNat=m:=by
 rw[UInt8.toNat_ofNat']
 exact Nat.mod_eq_of_lt (by omega)
set_option maxRecDepth 100000 in
theorem AkT {n:Nat} {K:UInt8→Prop} (hn:n<256) (h:bitsLen n≤8→K (UInt8.ofNat (bitsLen n))):BX YB (Int.toNat (n:Int)) K:=
 Ak (Ul hn).1 (h (Ul hn).2)
section
variable {α:Type} [Inhabited α] {lt:α→α→Bool} {a b i j:Nat} {d:Array α}
theorem Aa4 (h:i<b) (h2:lt d[i]! d[i-1]! =false):scanSorted lt d b i=scanSorted lt d b (i+1):=by
 rw[scanSorted,if_pos (by simp[h,h2])]
theorem Qv (h:i<b→lt d[i]! d[i-1]! =true):scanSorted lt d b i=i:=by
 rw[scanSorted,if_neg]
 simp only[Bool.and_eq_true,decide_eq_true_eq,not_and]
 intro h1 h2
 rw[h h1]at h2;cases h2
theorem AfD (h:lt d[j+1]! d[j]! =true):shiftDown lt (j+1) d=shiftDown lt j (swp d (j+1) j):=by
 rw[shiftDown,if_neg (by simp[h])]
theorem Aa6 (h:lt d[j+1]! d[j]! =false):shiftDown lt (j+1) d=d:=by
 rw[shiftDown,if_pos (by simp[h])]
theorem AfE (h0:j<b) (h:lt d[j]! d[j-1]! =true):shiftUp lt b j d=shiftUp lt b (j+1) (swp d j (j-1)):=by
 rw[shiftUp,if_pos h0,if_neg (by simp[h])]
theorem Vx (h:j<b→lt d[j]! d[j-1]! =false):shiftUp lt b j d=d:=by
 rw[shiftUp]
 split
 ·rename_i h0
  rw[if_pos (by simp[h h0])]
 ·rfl
@[simp] theorem Ahb:∀{j:Nat} {d:Array α},(shiftDown lt j d).size=d.size
 |0,d=>rfl
 |j+1,d=>by
  rw[shiftDown]
  split
  ·rfl
  ·rw[Ahb,Q9]
theorem Zm:∀(n j:Nat) (d:Array α),b-j≤n→(shiftUp lt b j d).size=d.size
 |0,j,d,h=>by rw[shiftUp,if_neg (by omega)]
 |n+1,j,d,h=>by
  rw[shiftUp]
  split
  ·split
   ·rfl
   ·rw[Zm n _ _ (by omega),Q9]
  ·rfl
@[simp] theorem Alb:(shiftUp lt b j d).size=d.size:=Zm (b-j) j d (Nat.le_refl _)
@[simp] theorem Ajs:(fixDown lt a i d).size=d.size:=by unfold fixDown;split<;>simp
@[simp] theorem Ajt:(fixUp lt b i d).size=d.size:=by unfold fixUp;split<;>simp
variable {p:α→Bool}
theorem Xu (h:i≤j) (h2:p d[i]! =true):scanUp p d j i=scanUp p d j (i+1):=by
 rw[scanUp,if_pos (by simp[h,h2])]
theorem Jk (h:i≤j→p d[i]! =false):scanUp p d j i=i:=by
 rw[scanUp,if_neg]
 simp only[Bool.and_eq_true,decide_eq_true_eq,not_and]
 intro h1 h2
 rw[h h1]at h2;cases h2
theorem Xv (h:i≤j+1) (h2:p d[j+1]! =true):scanDown p d i (j+1)=scanDown p d i j:=by
 rw[scanDown,if_pos (by simp[h,h2])]
theorem Jl (h:i≤j→p d[j]! =false):scanDown p d i j=j:=by
 cases j with
 |zero=>rfl
 |succ j=>
  rw[scanDown,if_neg]
  simp only[Bool.and_eq_true,decide_eq_true_eq,not_and]
  intro h1 h2
  rw[h h1]at h2;cases h2
end
theorem KW {AP:Nat→Option GY} {a b:AA} {env:Env} {s:Ag} {Q:Ar→Env→Ag→Prop} (h:vC AP a env s (SE (fun env s=>vC AP b env s Q) Q)):vC AP (.seq a b) env s Q:=h
theorem Aef {α:Type} [Inhabited α] {L:List α} {D:Array α} {len:Nat} (hl:L.length=len) (h:PermIn 0 len L.toArray D):D.toList.Perm L:=by
 obtain⟨h1,_,h3⟩:=h
 have e1:D.size=len:=by rw[h1];simpa using hl
 have e2:(D.extract 0 len).toList=D.toList:=by rw[← e1];simp
 have e3:(L.toArray.extract 0 len).toList=L:=by rw[← hl];simp
 rw[e2,e3]at h3
 exact h3
theorem Z7 {α:Type} [Inhabited α] {lt:α→α→Bool} {D:Array α} {len:Nat} (hl:D.size=len) (h:SortedIn lt 0 len D):D.toList.Pairwise (fun x y=>lt y x=false):=by
 rw[List.pairwise_iff_getElem]
 intro i j hi hj hij
 have:=h i j (Nat.zero_le _) hij (by simpa[hl]using hj)
 simp only[Array.length_toList]at hi hj
 rw[getElem!_pos D j hj,getElem!_pos D i hi]at this
 simpa using this
end
section
open Go.Sort
def cS (x y:List UInt8):Int:=if Op.bytesLess x y=true then -1 else if Op.bytesLess y x=true then 1 else 0
structure PC {α:Type} (c:α→α→Int):Prop where
 anti:∀x y,c y x=-c x y
 trans:∀x y z,c x y≤0→c y z≤0→c x z≤0
theorem PC.on {α β:Type} {c:β→β→Int} (h:PC c) (p:α→β):PC fun x y=>c (p x) (p y):=⟨fun x y=>h.anti _ _,fun x y z=>h.trans _ _ _⟩
theorem Afu:PC Kv where
 anti x y:=by unfold Kv;repeat' split
              all_goals omega
 trans x y z:=by unfold Kv;repeat' split
                 all_goals omega
theorem PC.swo {α:Type} {c:α→α→Int} (h:PC c):SWO fun x y=>decide (c x y<0) where
 irrefl x:=decide_eq_false (by have:=h.anti x x;omega)
 trans x y z h1 h2:=decide_eq_true (by
  have a:=of_decide_eq_true h1
  have b:=of_decide_eq_true h2
  have h3:=h.trans x y z (by omega) (by omega)
  have h4:=h.trans z x y
  have h5:=h.anti x z
  have h6:=h.anti y z
  omega)
 ntrans x y z h1 h2:=decide_eq_false (by
  have a:=of_decide_eq_false h1
  have b:=of_decide_eq_false h2
  have h3:=h.trans z y x
  have h4:=h.anti x y
  have h5:=h.anti y z
  have h6:=h.anti x z
  omega)
end
def Inc (l:List Int):Prop:=l.Pairwise (· <·)
theorem Rf:∀{l m:List Int},Inc l→Inc m→(∀ x,x∈l↔x∈m)→l=m
 |[],[],_,_,_=>rfl
 |[],b::m,_,_,h=>absurd ((h b).2 (by simp)) (by simp)
 |a::l,[],_,_,h=>absurd ((h a).1 (by simp)) (by simp)
 |a::l,b::m,h1,h2,h=>by
  have k1:=List.pairwise_cons.1 h1
  have k2:=List.pairwise_cons.1 h2
  have hab:a=b:=by
   rcases List.mem_cons.1 ((h a).1 (by simp))with e|e
   ·exact e
   rcases List.mem_cons.1 ((h b).2 (by simp))with e2|e2
   ·exact e2.symm
   have:=k1.1 b e2;have:=k2.1 a e;omega
  subst hab
  rw[Rf (l:=l) (m:=m) k1.2 k2.2 fun x=>?_]
  have hx:=h x
  simp only[List.mem_cons]at hx
  constructor
  ·intro hl
   rcases hx.1 (.inr hl)with e|e
   ·subst e;exact absurd (k1.1 x hl) (by omega)
   ·exact e
  ·intro hm
   rcases hx.2 (.inr hm)with e|e
   ·subst e;exact absurd (k2.1 x hm) (by omega)
   ·exact e
def Ws (x:Int):List Int→List Int
 |[]=>[x]
 |y::l=>if x<y then x::y::l else if x=y then y::l else y::Ws x l
theorem Rh {x z:Int}:∀{l:List Int},z∈Ws x l↔z=x∨z∈l
 |[]=>by simp[Ws]
 |y::l=>by
  unfold Ws
  split
  ·simp
  ·split
   ·rename_i h;subst h;simp
   ·simp only[List.mem_cons,Rh]
    constructor
    ·rintro(h|h|h)<;>simp[h]
    ·rintro(h|h|h)<;>simp[h]
theorem Wu {x:Int}:∀{l:List Int},Inc l→Inc (Ws x l)
 |[],_=>by simp[Ws,Inc]
 |y::l,h=>by
  have k:=List.pairwise_cons.1 h
  unfold Ws
  split
  ·refine List.pairwise_cons.2 ⟨fun z hz=>?_,h⟩
   rcases List.mem_cons.1 hz with e|e
   ·subst e;assumption
   ·have:=k.1 z e;omega
  ·split
   ·exact h
   ·refine List.pairwise_cons.2 ⟨fun z hz=>?_,Wu k.2⟩
    rcases Rh.1 hz with e|e
    ·subst e;omega
    ·exact k.1 z e
def sdi:List Int→List Int
 |[]=>[]
 |x::l=>Ws x (sdi l)
theorem UO {x:Int}:∀{l:List Int},x∈sdi l↔x∈l
 |[]=>by simp[sdi]
 |y::l=>by unfold sdi;rw[Rh,UO,List.mem_cons]
theorem Qg:∀{l:List Int},Inc (sdi l)
 |[]=>List.Pairwise.nil
 |y::l=>Wu Qg
theorem XZ {l m:List Int} (h:Inc m) (hm:∀x,x∈m↔x∈l):m=sdi l:=Rf h Qg fun x=>by rw[hm,UO]
theorem YX {l U:List Int} (h:Inc l) (hs:∀x∈l,x∈U):l.length≤U.length:=by
 have hn:l.Nodup:=h.imp fun h=>by omega
 exact List.Nodup.length_le_of_subset hn hs
section
variable (nb:Int→List Int)
def nextL (l:List Int):List Int:=sdi (l.flatMap nb)
theorem OQ {l:List Int} {x:Int}:x∈nextL nb l↔∃a∈l,x∈nb a:=by unfold nextL;rw[UO,List.mem_flatMap]
def X0 (a:Int):Nat→List Int
 |0=>[a]
 |k+1=>nextL nb (X0 a k)
def W (a:Int) (k:Nat) (x:Int):Prop:=x∈X0 nb a k
theorem MQ {a x:Int}:W nb a 0 x↔x=a:=by simp[W,X0]
theorem Ip {a x:Int} {k:Nat}:W nb a (k+1) x↔∃y,W nb a k y∧x∈nb y:=by unfold W;exact OQ nb
def IsD (a x:Int) (k:Nat):Prop:=W nb a k x∧∀j,j<k→¬W nb a j x
theorem IsD.unique {a x:Int} {k k':Nat} (h:IsD nb a x k) (h':IsD nb a x k'):k=k':=by
 rcases Nat.lt_trichotomy k k' with e|e|e
 ·exact absurd h.1 (h'.2 k e)
 ·exact e
 ·exact absurd h'.1 (h.2 k' e)
structure SB (a:Int) (d:Nat) (seen:List (Int×Nat)) (level:List Int):Prop where
 nd:(seen.map (·.1)).Nodup
 ok:∀p∈seen,p.2<d∧IsD nb a p.1 p.2
 all:∀j,j<d→∀x,W nb a j x→x∈seen.map (·.1)
 lv:∀x,x∈level↔(x,d-1)∈seen
 inc:Inc level
 pos:0<d
theorem SB.start (a:Int):SB nb a 1 [(a,0)] [a] where
 nd:=by simp
 ok p hp:=by simp at hp;subst hp;exact⟨by simp,(MQ nb).2 rfl,fun j hj=>absurd hj (by simp)⟩
 all j hj x hx:=by
  obtain rfl:j=0:=by omega
  simp[(MQ nb).1 hx]
 lv x:=by simp
 inc:=by simp[Inc]
 pos:=by omega
def fresh (seen:List (Int×Nat)) (l:List Int):List Int:=l.filter fun x=>decide (x∉seen.map (·.1))
theorem SB.step {a:Int} {d:Nat} {seen:List (Int×Nat)} {level:List Int} (h:SB nb a d seen level):
 SB nb a (d+1) (seen++(fresh seen (nextL nb level)).map fun x=>(x,d)) (fresh seen (nextL nb level)):=by
 have hm:∀x,x∈fresh seen (nextL nb level)↔(∃ y∈level,x∈nb y)∧x∉seen.map (·.1):=fun x=>by
  unfold fresh;rw[List.mem_filter,OQ,decide_eq_true_eq]
 have hinc:Inc (fresh seen (nextL nb level)):=List.Pairwise.filter _ Qg
 have hkeys:(seen++(fresh seen (nextL nb level)).map fun x=>(x,d)).map (·.1)=seen.map (·.1)++fresh seen (nextL nb level):=by
  rw[List.map_append,List.map_map];congr 1;exact List.map_id _
 have key:∀y∈level,W nb a (d-1) y:=fun y hy=>(h.ok _ ((h.lv y).1 hy)).2.1
 refine⟨?_,?_,?_,?_,hinc,by omega⟩
 ·rw[hkeys]
  refine List.nodup_append.2 ⟨h.nd,hinc.imp fun h=>by omega,fun x hx y hy e=>?_⟩
  subst e
  exact((hm x).1 hy).2 hx
 ·intro p hp
  rcases List.mem_append.1 hp with hp|hp
  ·have:=h.ok p hp;exact⟨by omega,this.2⟩
  ·obtain⟨x,hx,rfl⟩:=List.mem_map.1 hp
   obtain⟨⟨y,hy,hxy⟩,hns⟩:=(hm x).1 hx
   refine⟨by simp,?_,fun j hj hw=>hns (h.all j hj x hw)⟩
   have hd:d=(d-1)+1:=by have:=h.pos;omega
   show W nb a d x
   rw[hd]
   exact(Ip nb).2 ⟨y,key y hy,hxy⟩
 ·intro j hj x hx
  rw[hkeys]
  rcases Nat.lt_or_ge j d with hjd|hjd
  ·exact List.mem_append_left _ (h.all j hjd x hx)
  ·obtain rfl:j=d:=by omega
   have hd:j=(j-1)+1:=by have:=h.pos;omega
   rw[hd]at hx
   obtain⟨y,hy,hxy⟩:=(Ip nb).1 hx
   have hyk:=h.all (j-1) (by have:=h.pos;omega) y hy
   obtain⟨p,hp,rfl⟩:=List.mem_map.1 hyk
   have hok:=h.ok p hp
   rcases Nat.lt_or_ge p.2 (j-1)with hlt|hge
   ·exact List.mem_append_left _ (h.all (p.2+1) (by omega) x ((Ip nb).2 ⟨p.1,hok.2.1,hxy⟩))
   ·have he:p.2=j-1:=by omega
    have hl:p.1∈level:=(h.lv p.1).2 (by rw[← he];exact hp)
    by_cases hns:x∈seen.map (·.1)
    ·exact List.mem_append_left _ hns
    ·exact List.mem_append_right _ ((hm x).2 ⟨⟨p.1,hl,hxy⟩,hns⟩)
 ·intro x
  rw[Nat.add_sub_cancel,List.mem_append]
  constructor
  ·intro hx;exact .inr (List.mem_map.2 ⟨x,hx,rfl⟩)
  ·rintro(hx|hx)
   ·have:=(h.ok _ hx).1;simp at this
   ·obtain⟨y,hy,e⟩:=List.mem_map.1 hx
    cases e;exact hy
theorem SB.done {a:Int} {d:Nat} {seen:List (Int×Nat)} (h:SB nb a d seen []):∀x k,(x,k)∈seen↔IsD nb a x k:=by
 have hall:∀j x,W nb a j x→x∈seen.map (·.1):=by
  intro j
  induction j with
  |zero=>intro x hx;exact h.all 0 h.pos x hx
  |succ j ih=>
   intro x hx
   obtain⟨y,hy,hxy⟩:=(Ip nb).1 hx
   obtain⟨p,hp,rfl⟩:=List.mem_map.1 (ih y hy)
   have hok:=h.ok p hp
   have hne:p.2≠d-1:=fun e=>by
        have:=(h.lv p.1).2 (by rw[← e];exact hp)
        simp at this
   exact h.all (p.2+1) (by omega) x ((Ip nb).2 ⟨p.1,hok.2.1,hxy⟩)
 intro x k
 constructor
 ·intro hx;exact(h.ok _ hx).2
 ·intro hd
  obtain⟨p,hp,rfl⟩:=List.mem_map.1 (hall k x hd.1)
  rw[hd.unique nb (h.ok p hp).2]
  exact hp
end
end AI
end Go.Proofs.YtjjhejbffgaabaaGreatDoor
