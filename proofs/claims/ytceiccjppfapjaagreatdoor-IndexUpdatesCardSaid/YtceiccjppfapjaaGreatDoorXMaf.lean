/- math/bits.Len and the next power of two. Orders: lexicographic, of numbers, of strings; the first that is not 0. Valid values, and values that are alike: plain. Valid fractions: the program's. Valid fractions: the reference's. The program's wide numbers: products, sums, signs; fractions compared. The reference's wide numbers: they are reckoned without a panic. The reference's comparison of a fraction with itself. Numbers by their digits to the base 1000: plain. -/
import Derived.Test.YtceiccjppfapjaaGreatDoorXMae
import Derived.Test.YtceiccjppfapjaaGreatDoorXMac
set_option linter.unusedVariables false
set_option maxRecDepth 4000
namespace Go.Proofs.YtceiccjppfapjaaGreatDoor
namespace AI
section
open Go.Sort
theorem Ab0 {k:IntKind} {z:Int} (hk:k.signed=false) (h:0≤z) (h2:z<2 ^ k.bits):k.wrap z=z:=by
 simp only[IntKind.wrap,hk,Bool.false_and,Bool.false_eq_true,if_false]
 exact Int.emod_eq_of_lt h h2
theorem wrapN {k:IntKind} {z:Int} {K:AV→Prop} (n:Nat) (hk:k.signed=false) (hz:z=n) (h:n<2 ^ k.bits) (h2:K (.int k n)):Ig k z K:=by
 subst hz
 refine CQ (Ab0 hk (by omega) ?_) h2
 exact_mod_cast h
theorem CS {n:Nat} (k:Nat) (h:2 ^ k≤n):bitsLen (n / 2 ^ k)+k=bitsLen n:=by
 have h0:k<bitsLen n:=by
  rcases Nat.lt_or_ge k (bitsLen n)with h1|h1
  ·exact h1
  ·have:=(bitsLen_le_iff n k).1 h1;omega
 have e1:bitsLen (n / 2 ^ k)≤bitsLen n-k:=by
  rw[bitsLen_le_iff,Nat.div_lt_iff_lt_mul (Nat.two_pow_pos k),←Nat.pow_add,Nat.sub_add_cancel (by omega)]
  exact lt_two_pow_bitsLen n
 have e2:bitsLen n≤bitsLen (n / 2 ^ k)+k:=by
  rw[bitsLen_le_iff,Nat.pow_add,←Nat.div_lt_iff_lt_mul (Nat.two_pow_pos k)]
  exact lt_two_pow_bitsLen _
 omega
def XH:List UInt8:=[0,1,2,2,3,3,3,3,4,4,4,4,4,4,4,4]++List.replicate 16 5++List.replicate 32 6++List.replicate 64 7++List.replicate 128 8
theorem XI:(List.range 256).all (fun n=>nth XH n==some (UInt8.ofNat (bitsLen n))&&Nat.ble (bitsLen n) 8)=true:=by decide +kernel
theorem Tj {n:Nat} (h:n<256):nth XH n=some (UInt8.ofNat (bitsLen n))∧bitsLen n≤8:=by
 have:=List.all_eq_true.1 XI n (List.mem_range.2 h)
 rw[Bool.and_eq_true]at this
 exact⟨by simpa using this.1,Nat.le_of_ble_eq_true this.2⟩
theorem Aik (n:Nat):((n:Int)).fdiv (2 ^ (min (Int.toNat 32) IntKind.u64.bits))=((n / 2 ^ 32:Nat):Int):=by
 rw[show (2:Int) ^ (min (Int.toNat 32) IntKind.u64.bits)=4294967296 by rfl,Int.fdiv_eq_ediv_of_nonneg _ (by omega)]
 rfl
theorem Ail (n:Nat):((n:Int)).fdiv (2 ^ (min (Int.toNat 16) IntKind.u64.bits))=((n / 2 ^ 16:Nat):Int):=by
 rw[show (2:Int) ^ (min (Int.toNat 16) IntKind.u64.bits)=65536 by rfl,Int.fdiv_eq_ediv_of_nonneg _ (by omega)]
 rfl
theorem Akt (n:Nat):((n:Int)).fdiv (2 ^ (min (Int.toNat 8) IntKind.u64.bits))=((n / 2 ^ 8:Nat):Int):=by
 rw[show (2:Int) ^ (min (Int.toNat 8) IntKind.u64.bits)=256 by rfl,Int.fdiv_eq_ediv_of_nonneg _ (by omega)]
 rfl
theorem Agx {m:Nat} (h:m≤8):(UInt8.ofNat m).toNat=m:=by
 rw[UInt8.toNat_ofNat']
 exact Nat.mod_eq_of_lt (by omega)
set_option maxRecDepth 100000 in
theorem Aku {n:Nat} {K:UInt8→Prop} (hn:n<256) (h:bitsLen n≤8→K (UInt8.ofNat (bitsLen n))):Ce XH (Int.toNat (n:Int)) K:=
 Ap (Tj hn).1 (h (Tj hn).2)
set_option maxRecDepth 100000 in
theorem Aim {n:Nat} (h:n<2^64):Ae (Ad tab) 217 [.int .u64 n] (· =.int .i64 (bitsLen n)):=by
 refine Ac rfl rfl ?_
 (conv=>whnf);repeat' (first|(apply BK;(· first|exact Aik _|exact Ail _|exact Akt _);conv=>whnf)|(refine wrapN _ rfl rfl (by show _<256;omega) ?_;conv=>whnf)|(refine Aku (by omega) (fun hb=>?_);rw[Agx hb];conv=>whnf)|(refine kA ?_;conv=>whnf)|(refine Br.mk (fun hc=>?_) fun hc=>?_<;>first|exact hc.elim|conv=>whnf)|(refine kB ?_))
 all_goals
  show AV.int _ _=_
  congr 1
  first
   |(rw [← CS 32 (n:=n) (by omega),←CS 16 (n:=n / 2 ^ 32) (by omega),←CS 8 (n:=n / 2 ^ 32 / 2 ^ 16) (by omega)];omega)
   |(rw [← CS 32 (n:=n) (by omega),←CS 16 (n:=n / 2 ^ 32) (by omega)];omega)
   |(rw [← CS 32 (n:=n) (by omega),←CS 8 (n:=n / 2 ^ 32) (by omega)];omega)
   |(rw [← CS 32 (n:=n) (by omega)];omega)
   |(rw [← CS 16 (n:=n) (by omega),←CS 8 (n:=n / 2 ^ 16) (by omega)];omega)
   |(rw [← CS 16 (n:=n) (by omega)];omega)
   |(rw [← CS 8 (n:=n) (by omega)];omega)
   |omega
theorem V7 {n:Nat} (h:n<2^63):Ae (Ad tab) 121 [.int .u64 n] (· =.int .i64 (bitsLen n)):=by
 refine Ac rfl rfl ?_
 (conv=>whnf);repeat' (first|(refine Aa (Aim (n:=n) (by omega)) ?_;rintro _ rfl;conv=>whnf)|(refine kA ?_;conv=>whnf)|(refine Br.mk (fun hc=>?_) fun hc=>?_<;>first|exact hc.elim|conv=>whnf)|(refine kB ?_))
 rfl
theorem Aaf {n:Nat} (h:n<2^62) (h0:0<n):Ae (Ad tab) 272 [.int .i64 n] (fun v=>∃M:Nat,v=.int .u64 M∧n<M∧M≤2*n):=by
 have h1:=lt_two_pow_bitsLen n
 have h2:=two_pow_bitsLen_le h0
 have h3:bitsLen n≤62:=(bitsLen_le_iff n 62).2 h
 refine Ac rfl rfl ?_
 (conv=>whnf);repeat' (first|(refine wrapN n rfl rfl (by show n<2^64;omega) ?_;conv=>whnf)|(refine Aa (V7 (n:=n) (by omega)) ?_;rintro _ rfl;conv=>whnf)|(refine wrapN (2 ^ bitsLen n) rfl ?_ (by show _<2^64;omega) ?_;(· rw[Int.one_mul,Int.toNat_natCast,Nat.min_eq_left (by show _≤64;omega)];simp);conv=>whnf)|(refine kA ?_;conv=>whnf)|(refine Br.mk (fun hc=>?_) fun hc=>?_<;>first|exact hc.elim|conv=>whnf)|(refine kB ?_))
 exact⟨_,rfl,h1,h2⟩
section
variable {α:Type} [Inhabited α] {lt:α→α→Bool} {a b i j:Nat} {d:Array α}
theorem Ab1 (h:i<b) (h2:lt d[i]! d[i-1]! =false):scanSorted lt d b i=scanSorted lt d b (i+1):=by
 rw[scanSorted,if_pos (by simp[h,h2])]
theorem QX (h:i<b→lt d[i]! d[i-1]! =true):scanSorted lt d b i=i:=by
 rw[scanSorted,if_neg]
 simp only[Bool.and_eq_true,decide_eq_true_eq,not_and]
 intro h1 h2
 rw[h h1]at h2;cases h2
theorem Agy (h:lt d[j+1]! d[j]! =true):shiftDown lt (j+1) d=shiftDown lt j (swp d (j+1) j):=by
 rw[shiftDown,if_neg (by simp[h])]
theorem Ab2 (h:lt d[j+1]! d[j]! =false):shiftDown lt (j+1) d=d:=by
 rw[shiftDown,if_pos (by simp[h])]
theorem Agz (h0:j<b) (h:lt d[j]! d[j-1]! =true):shiftUp lt b j d=shiftUp lt b (j+1) (swp d j (j-1)):=by
 rw[shiftUp,if_pos h0,if_neg (by simp[h])]
theorem V8 (h:j<b→lt d[j]! d[j-1]! =false):shiftUp lt b j d=d:=by
 rw[shiftUp]
 split
 ·rename_i h0
  rw[if_pos (by simp[h h0])]
 ·rfl
@[simp] theorem AgA:∀{j:Nat} {d:Array α},(shiftDown lt j d).size=d.size
 |0,d=>rfl
 |j+1,d=>by
  rw[shiftDown]
  split
  ·rfl
  ·rw[AgA,QY]
theorem Y1:∀(n j:Nat) (d:Array α),b-j≤n→(shiftUp lt b j d).size=d.size
 |0,j,d,h=>by rw[shiftUp,if_neg (by omega)]
 |n+1,j,d,h=>by
  rw[shiftUp]
  split
  ·split
   ·rfl
   ·rw[Y1 n _ _ (by omega),QY]
  ·rfl
@[simp] theorem Akv:(shiftUp lt b j d).size=d.size:=Y1 (b-j) j d (Nat.le_refl _)
@[simp] theorem AjD:(fixDown lt a i d).size=d.size:=by unfold fixDown;split<;>simp
@[simp] theorem AjE:(fixUp lt b i d).size=d.size:=by unfold fixUp;split<;>simp
variable {p:α→Bool}
theorem XJ (h:i≤j) (h2:p d[i]! =true):scanUp p d j i=scanUp p d j (i+1):=by
 rw[scanUp,if_pos (by simp[h,h2])]
theorem Jk (h:i≤j→p d[i]! =false):scanUp p d j i=i:=by
 rw[scanUp,if_neg]
 simp only[Bool.and_eq_true,decide_eq_true_eq,not_and]
 intro h1 h2
 rw[h h1]at h2;cases h2
theorem XK (h:i≤j+1) (h2:p d[j+1]! =true):scanDown p d i (j+1)=scanDown p d i j:=by
 rw[scanDown,if_pos (by simp[h,h2])]
theorem Jl (h:i≤j→p d[j]! =false):scanDown p d i j=j:=by
 cases j with
 |zero=>rfl
 |succ j=>
  rw[scanDown,if_neg]
  simp only[Bool.and_eq_true,decide_eq_true_eq,not_and]
  intro h1 h2
  rw[h h1]at h2;cases h2
end
theorem KJ {AP:Nat→Option G9} {a b:Bh} {env:Env} {s:Am} {Q:AU→Env→Am→Prop} (h:vC AP a env s (Si (fun env s=>vC AP b env s Q) Q)):vC AP (.seq a b) env s Q:=h
theorem Aem {α:Type} [Inhabited α] {L:List α} {D:Array α} {len:Nat} (hl:L.length=len) (h:PermIn 0 len L.toArray D):D.toList.Perm L:=by
 obtain⟨h1,_,h3⟩:=h
 have e1:D.size=len:=by rw[h1];simpa using hl
 have e2:(D.extract 0 len).toList=D.toList:=by rw[← e1];simp
 have e3:(L.toArray.extract 0 len).toList=L:=by rw[← hl];simp
 rw[e2,e3]at h3
 exact h3
theorem Aag {α:Type} [Inhabited α] {lt:α→α→Bool} {D:Array α} {len:Nat} (hl:D.size=len) (h:SortedIn lt 0 len D):D.toList.Pairwise (fun x y=>lt y x=false):=by
 rw[List.pairwise_iff_getElem]
 intro i j hi hj hij
 have:=h i j (Nat.zero_le _) hij (by simpa[hl]using hj)
 simp only[Array.length_toList]at hi hj
 rw[getElem!_pos D j hj,getElem!_pos D i hi]at this
 simpa using this
end
section
open Go.Sort
def Cj (a b:Int):Int:=if a=0 then b else a
def cS (x y:List UInt8):Int:=if Op.bytesLess x y=true then -1 else if Op.bytesLess y x=true then 1 else 0
structure PC {α:Type} (c:α→α→Int):Prop where
 anti:∀x y,c y x=-c x y
 trans:∀x y z,c x y≤0→c y z≤0→c x z≤0
theorem PC.lex {α:Type} {c d:α→α→Int} (hc:PC c) (hd:PC d):PC fun x y=>Cj (c x y) (d x y) where
 anti x y:=by
  have h1:=hc.anti x y
  have h2:=hd.anti x y
  unfold Cj;split<;>split<;>omega
 trans x y z h1 h2:=by
  have a1:=hc.trans x y z
  have a2:=hc.trans y z x
  have a3:=hc.trans z x y
  have b1:=hc.anti x y
  have b2:=hc.anti y z
  have b3:=hc.anti x z
  have d1:=hd.trans x y z
  unfold Cj at*
  split at h1<;>split at h2<;>split<;>omega
theorem PC.on {α β:Type} {c:β→β→Int} (h:PC c) (p:α→β):PC fun x y=>c (p x) (p y):=⟨fun x y=>h.anti _ _,fun x y z=>h.trans _ _ _⟩
theorem OV:PC CJ where
 anti x y:=by unfold CJ;repeat' split
              all_goals omega
 trans x y z:=by unfold CJ;repeat' split
                 all_goals omega
theorem PZ:∀(x y:List UInt8),Op.bytesLess x y=decide (x<y)
 |[],[]=>by simp[Op.bytesLess]
 |_::_,[]=>by simp[Op.bytesLess]
 |[],_::_=>by simp[Op.bytesLess]
 |a::x,b::y=>by
  rw[Op.bytesLess,PZ x y]
  simp only[List.cons_lt_cons_iff]
  by_cases h1:a<b<;>by_cases h2:a=b<;>by_cases h3:x<y<;>simp[h1,h2,h3]
theorem WB (x y:List UInt8):Op.bytesLess x y=ltStr x y:=PZ x y
theorem Xj {x y:List UInt8} (h1:Op.bytesLess x y=false) (h2:Op.bytesLess y x=false):x=y:=by
 rw[WB]at h1 h2
 simp only[ltStr,decide_eq_false_iff_not]at h1 h2
 exact List.le_antisymm (List.not_lt.1 h2) (List.not_lt.1 h1)
theorem Rt:PC cS where
 anti x y:=by
  have h:Op.bytesLess x y=true→Op.bytesLess y x=true→False:=fun a b=>by
   rw[WB]at a b
   have:=swo_ltStr.trans x y x a b
   rw[swo_ltStr.irrefl]at this;cases this
  unfold cS
  by_cases a:Op.bytesLess x y=true<;>by_cases b:Op.bytesLess y x=true<;>simp[a,b]
  exact h a b
 trans x y z h1 h2:=by
  have n1:Op.bytesLess y x=false:=by
   unfold cS at h1
   split at h1
   ·rename_i a
    cases hb:Op.bytesLess y x with
    |false=>rfl
    |true=>
     rw[WB]at a hb
     have:=swo_ltStr.trans x y x a hb
     rw[swo_ltStr.irrefl]at this;cases this
   ·split at h1
    ·omega
    ·rename_i b;simpa using b
  have n2:Op.bytesLess z y=false:=by
   unfold cS at h2
   split at h2
   ·rename_i a
    cases hb:Op.bytesLess z y with
    |false=>rfl
    |true=>
     rw[WB]at a hb
     have:=swo_ltStr.trans y z y a hb
     rw[swo_ltStr.irrefl]at this;cases this
   ·split at h2
    ·omega
    ·rename_i b;simpa using b
  have n3:Op.bytesLess z x=false:=by rw[WB]at *;exact swo_ltStr.ntrans z y x n2 n1
  unfold cS
  split
  ·omega
  ·rw[n3];simp
theorem P5 {x y:List UInt8}:cS x y=0↔x=y:=by
 constructor
 ·intro h
  unfold cS at h
  split at h
  ·omega
  ·split at h
   ·omega
   ·rename_i a b;exact Xj (by simpa using a) (by simpa using b)
 ·rintro rfl
  have:=Rt.anti x x
  omega
theorem Afw {x:List UInt8}:Ae (Ad tab) 234 [.str x] (· =.bool false):=by
 refine Ac rfl rfl ?_
 (conv=>whnf);repeat' (first  |(refine kA ?_;conv=>whnf)|(refine Br.mk (fun hc=>?_) fun hc=>?_<;>first|exact hc.elim|conv=>whnf)|(refine kB ?_))
 all_goals first|rfl|(exfalso;simp_all)
theorem AbS {x y:List UInt8} (h:Op.bytesLess x y=true):AV.int .i64 (-1)=.int .i64 (cS x y):=by unfold cS;rw[if_pos h]
theorem AbT {x y:List UInt8} (h:Op.bytesLess x y=false) (h2:(Op.bytesLess x y||x==y)=true):AV.int .i64 0=.int .i64 (cS x y):=by
 rw[h,Bool.false_or,beq_iff_eq]at h2
 rw[P5.2 h2]
theorem AbU {x y:List UInt8} (h2:(Op.bytesLess x y||x==y)=false):AV.int .i64 1=.int .i64 (cS x y):=by
 rw[Bool.or_eq_false_iff,beq_eq_false_iff_ne]at h2
 have h3:Op.bytesLess y x=true:=by
  cases h:Op.bytesLess y x with
  |true=>rfl
  |false=>exact absurd (Xj h2.1 h) h2.2
 unfold cS;rw[h2.1,h3];rfl
theorem Kt {x y:List UInt8}:Ae (Ad tab) 148 [.str x,.str y] (· =.int .i64 (cS x y)):=by
 refine Ac rfl rfl ?_
 (conv=>whnf);repeat' (first|(refine Aa Afw ?_;rintro _ rfl;conv=>whnf)|(refine kA ?_;conv=>whnf)|(refine Br.mk (fun hc=>?_) fun hc=>?_<;>first|exact hc.elim|conv=>whnf)|(refine kB ?_))
 all_goals first|exact AbS hc|exact AbT (by assumption) hc|exact AbU hc
def fnz:List Int→Int
 |[]=>0
 |a::l=>Cj a (fnz l)
theorem Acr {l:List Int} {i:Nat} (h:i<l.length):fnz (l.drop i)=Cj l[i] (fnz (l.drop (i+1))):=by
 rw[List.drop_eq_getElem_cons h];rfl
theorem orV {l:List Int} {nn:Bool} (hl:l.length<2^62):Ae (Ad tab) 147 [.sl nn (vs (.int .i64) l)] (· =.int .i64 (fnz l)):=by
 refine Ac rfl rfl ?_
 (conv=>whnf);repeat' (first  |(refine kA ?_;conv=>whnf)|(refine Br.mk (fun hc=>?_) fun hc=>?_<;>first|exact hc.elim|conv=>whnf)|(refine kB ?_))
 refine Ag (fun m env s=>∃i:Nat,m=l.length-i∧fnz (l.drop i)=fnz l∧env=[(3,.int .i64 0),(6,.sl nn (vs (.int .i64) l)),(7,.int .i64 l.length),(8,.int .i64 i)]∧s=⟨[],0⟩) ?_ _ _ _ ⟨0,rfl,by simp,by first|rfl|(rw [← lV (f:=.int .i64) l];rfl),rfl⟩
 rintro _ _ _ ⟨i,rfl,hx,rfl,rfl⟩
 refine⟨rfl,?_⟩
 by_cases hlt:i<l.length
 ·rw[Acr hlt]at hx
  unfold Cj at hx
  (conv=>whnf);repeat' (first  |(refine kA ?_;conv=>whnf)|(refine Br.mk (fun hc=>?_) fun hc=>?_<;>first|exact hc.elim|conv=>whnf)|(refine kB ?_))
  all_goals first
   |(rw [if_pos (by assumption)]at hx;exact again.mk ⟨_,by omega,i+1,rfl,hx,rfl,rfl⟩)
   |(rw [if_neg (by assumption)]at hx;rw[← hx];rfl)
 ·rw[List.drop_eq_nil_of_le (by omega)]at hx
  (conv=>whnf);repeat' (first  |(refine kA ?_;conv=>whnf)|(refine Br.mk (fun hc=>?_) fun hc=>?_<;>first|exact hc.elim|conv=>whnf)|(refine kB ?_))
  all_goals first|(rw [← hx];rfl)
theorem PC.swo {α:Type} {c:α→α→Int} (h:PC c):SWO fun x y=>decide (c x y<0) where
 irrefl x:=decide_eq_false (by have:=h.anti x x;omega)
 trans x y z h1 h2:=decide_eq_true (by
  have a:=of_decide_eq_true h1
  have b:=of_decide_eq_true h2
  have h3:=h.trans x y z (by omega) (by omega)
  have h4:=h.trans z x y
  have h5:=h.anti x z
  have h6:=h.anti y z
  omega)
 ntrans x y z h1 h2:=decide_eq_false (by
  have a:=of_decide_eq_false h1
  have b:=of_decide_eq_false h2
  have h3:=h.trans z y x
  have h4:=h.anti x y
  have h5:=h.anti y z
  have h6:=h.anti x z
  omega)
end
def VF (n d:Int):Prop:=1≤d∧d≤1000000000000000∧Jr n∧Nat.gcd n.natAbs d.natAbs=1
instance (n d:Int):Decidable (VF n d):=by unfold VF;infer_instance
def VB (g:GV):Prop:=g.l.length=0∧(g.k=0∧g.n=0∧g.d=0∧g.s=[]∨g.k=1∧(g.n=0∨g.n=1)∧g.d=0∧g.s=[]∨g.k=2∧Jr g.n∧g.d=0∧g.s=[]∨
 g.k=3∧2≤g.d∧VF g.n g.d∧g.s=[]∨g.k=4∧g.n=0∧g.d=0∧okS g.s∨(g.k=5∨g.k=6)∧1≤g.n∧g.n≤1000000∧g.d=0∧g.s=[])
instance (g:GV):Decidable (VB g):=by unfold VB;infer_instance
def VPa (l:List AV):Prop:=l.length % 2=1∧l.length≤25∧∀i (h:i<l.length),∃x:GV,l[i]=x.av∧x.k=5+i % 2∧VB x
def VV:Nat→GV→Prop
 |0,g=>VB g∨g.k=7∧g.n=0∧g.d=0∧g.s=[]∧VPa g.l
 |m+1,g=>VB g∨g.k=7∧g.n=0∧g.d=0∧g.s=[]∧VPa g.l∨g.k=8∧g.n=0∧g.d=0∧g.s=[]∧g.l.length≤64∧∀i (h:i<g.l.length),∃x:GV,g.l[i]=x.av∧VV m x
theorem Za:∀{m:Nat} {g:GV},VV m g→VV (m+1) g
 |0,g,h=>by
  rcases h with h|h
  ·exact .inl h
  ·exact .inr (.inl h)
 |m+1,g,h=>by
  rcases h with h|h|⟨h1,h2,h3,h4,h5,h6⟩
  ·exact .inl h
  ·exact .inr (.inl h)
  ·exact .inr (.inr ⟨h1,h2,h3,h4,h5,fun i hi=>by obtain⟨x,e,hx⟩:=h6 i hi;exact⟨x,e,Za hx⟩⟩)
theorem GV.Oz {g h:GV} (e:g.av=h.av):g=h:=by
 obtain⟨k,n,d,s,nn,l⟩:=g
 obtain⟨k',n',d',s',nn',l'⟩:=h
 simp only[GV.av,AV.agg.injEq,List.cons.injEq,AV.int.injEq,AV.str.injEq,AV.sl.injEq,true_and,and_true]at e
 obtain⟨rfl,rfl,rfl,rfl,rfl,rfl⟩:=e
 rfl
theorem Vj (x y:Nat):Nat.gcd y (x % y)=Nat.gcd x y:=by
 rw[Nat.gcd_comm x y,Nat.gcd_rec y x,Nat.gcd_comm]
theorem absP {n:Int} (h:Jr n):Ae (Ad tab) 371 [.int .i64 n] (· =.int .i64 n.natAbs):=by
 unfold Jr at h
 have e:(if 0-n>n then 0-n else n)=(n.natAbs:Int):=by split<;>omega
 refine Ac rfl rfl ?_
 (conv=>whnf);repeat' (first  |(refine kA ?_;conv=>whnf)|(refine Br.mk (fun hc=>?_) fun hc=>?_<;>first|exact hc.elim|conv=>whnf)|(refine kB ?_))
 rw[← e];rfl
theorem Ak3 {n d:Int} (hn:Jr n) (hd:Jr d):Ae (Ad tab) 362 [.int .i64 n,.int .i64 d] (· =.int .i64 (Nat.gcd n.natAbs d.natAbs)):=by
 have hn':=hn
 have hd':=hd
 unfold Jr at hn' hd'
 refine Ac rfl rfl ?_
 (conv=>whnf);repeat' (first|(refine Bj (inP (n:=n)) (fun hr=>?_) (fun hr=>absurd hn hr);conv=>whnf)|(refine Bj (inP (n:=d)) (fun hr=>?_) (fun hr=>absurd hd hr);conv=>whnf)|((first|refine Aa (absP hn) ?_|refine Aa (absP hd) ?_);rintro _ rfl;conv=>whnf)|(refine kA ?_;conv=>whnf)|(refine Br.mk (fun hc=>?_) fun hc=>?_<;>first|exact hc.elim|conv=>whnf)|(refine kB ?_))
 refine Ag (fun m env s=>∃(x y:Nat),m=1*y∧x<2^63∧y<2^63∧Nat.gcd x y=Nat.gcd n.natAbs d.natAbs∧env=[(0,.int .i64 x),(1,.int .i64 y)]∧s=⟨[],0⟩) ?_ _ _ _ ⟨n.natAbs,d.natAbs,(Nat.one_mul _).symm,by omega,by omega,rfl,rfl,rfl⟩
 clear hn hd hn' hd'
 rintro m _ _ ⟨x,y,hm,hx,hy,hg,rfl,rfl⟩
 have hm2:y=m:=by omega
 subst hm2
 refine⟨rfl,?_⟩
 (conv=>whnf);repeat' (first  |(refine kA ?_;conv=>whnf)|(refine Br.mk (fun hc=>?_) fun hc=>?_<;>first|exact hc.elim|conv=>whnf)|(refine kB ?_))
 ·have h0:y=0:=by omega
  subst h0
  rw[Nat.gcd_zero_right]at hg
  rw[← hg];rfl
 ·have h0:0<y:=by omega
  have:=Nat.mod_lt x h0
  exact again.mk ⟨_,this,y,x % y,(Nat.one_mul _).symm,hy,by omega,by rw[Vj];exact hg,by rw[Int.ofNat_tmod],rfl⟩
theorem AaV {n d:Int} (h:¬(1≤d∧d≤1000000000000000∧Jr n)):¬VF n d:=fun hv=>h ⟨hv.1,hv.2.1,hv.2.2.1⟩
theorem fvP {n d:Int}:Ae (Ad tab) 342 [.agg [.int .i64 n,.int .i64 d]] (· =.bool (decide (VF n d))):=by
 by_cases h:1≤d∧d≤1000000000000000∧Jr n
 ·obtain⟨h1,h2,h3⟩:=h
  have hg:=Ak3 h3 (show Jr d by unfold Jr;omega)
  refine Ac rfl rfl ?_
  (conv=>whnf);repeat' (first|(refine Bj (inP (n:=n)) (fun hr=>?_) (fun hr=>absurd h3 hr);conv=>whnf)|(refine Aa hg ?_;rintro _ rfl;conv=>whnf)|(refine kA ?_;conv=>whnf)|(refine Br.mk (fun hc=>?_) fun hc=>?_<;>first|exact hc.elim|conv=>whnf)|(refine kB ?_))
  all_goals first
   |exact Bf ⟨h1,h2,h3,by omega⟩
   |exact Aw fun hv=>by have:=hv.2.2.2;omega
   |trace_state
 ·have hno:=AaV h
  have hnr:¬Jr n∨¬(1≤d∧d≤1000000000000000):=by
   by_cases h3:Jr n
   ·exact .inr fun h12=>h ⟨h12.1,h12.2,h3⟩
   ·exact .inl h3
  refine Ac rfl rfl ?_
  (conv=>whnf);repeat' (first|(refine Bj (inP (n:=n)) (fun hr=>?_) (fun hr=>?_)<;>conv=>whnf)|(refine kA ?_;conv=>whnf)|(refine Br.mk (fun hc=>?_) fun hc=>?_<;>first|exact hc.elim|conv=>whnf)|(refine kB ?_))
  all_goals first
   |exact Aw hno
   |(exfalso;rcases hnr with h|h;exact h hr;omega)
   |trace_state
theorem Aj0 {a b:Nat} (ha:a<2^63) (hb:b<2^63):Ae (Ad tab) 320 [.int .i64 a,.int .i64 b] (· =.int .i64 (Nat.gcd a b)):=by
 refine Ac rfl rfl ?_
 (conv=>whnf);repeat' (first  |(refine kA ?_;conv=>whnf)|(refine Br.mk (fun hc=>?_) fun hc=>?_<;>first|exact hc.elim|conv=>whnf)|(refine kB ?_))
 refine Ag (fun m env s=>∃(x y:Nat),m=1*y∧x<2^63∧y<2^63∧Nat.gcd x y=Nat.gcd a b∧env=[(0,.int .i64 x),(1,.int .i64 y)]∧s=⟨[],0⟩) ?_ _ _ _ ⟨a,b,(Nat.one_mul _).symm,ha,hb,rfl,rfl,rfl⟩
 clear ha hb
 rintro m _ _ ⟨x,y,hm,hx,hy,hg,rfl,rfl⟩
 have hm2:y=m:=by omega
 subst hm2
 refine⟨rfl,?_⟩
 (conv=>whnf);repeat' (first  |(refine kA ?_;conv=>whnf)|(refine Br.mk (fun hc=>?_) fun hc=>?_<;>first|exact hc.elim|conv=>whnf)|(refine kB ?_))
 ·have h0:0<y:=by omega
  have:=Nat.mod_lt x h0
  exact again.mk ⟨_,this,y,x % y,(Nat.one_mul _).symm,hy,by omega,by rw[Vj];exact hg,by rw[Int.ofNat_tmod],rfl⟩
 ·have h0:y=0:=by omega
  subst h0
  rw[Nat.gcd_zero_right]at hg
  rw[← hg];rfl
theorem fvR {n d:Int}:Ae (Ad tab) 262 [.agg [.int .i64 n,.int .i64 d]] (· =.bool (decide (VF n d))):=by
 by_cases h:1≤d∧d≤1000000000000000∧Jr n
 ·obtain⟨h1,h2,h3⟩:=h
  have h3':=h3
  unfold Jr at h3'
  obtain⟨dn,rfl⟩:∃k:Nat,d=k:=⟨d.toNat,by omega⟩
  obtain⟨_,⟨z,rfl,z0,z1⟩,hz⟩:=(size (n:=n) (by omega) (by omega)).J4
  obtain⟨zn,rfl⟩:∃k:Nat,z=k:=⟨z.toNat,by omega⟩
  have hzn:zn=n.natAbs:=by omega
  have hg:=Aj0 (a:=zn) (b:=dn) (by omega) (by omega)
  refine Ac rfl rfl ?_
  (conv=>whnf);repeat' (first|((first|refine Aa hz ?_|refine Aa hg ?_);rintro _ rfl;conv=>whnf)|(refine kA ?_;conv=>whnf)|(refine Br.mk (fun hc=>?_) fun hc=>?_<;>first|exact hc.elim|conv=>whnf)|(refine kB ?_))
  all_goals first
   |exact Bf ⟨h1,h2,h3,by rw[← hzn,Int.natAbs_natCast];omega⟩
   |exact Aw fun hv=>by have:=hv.2.2.2;rw[← hzn]at this;simp only[Int.natAbs_natCast]at this;omega
   |trace_state
 ·have hno:=AaV h
  refine Ac rfl rfl ?_
  (conv=>whnf);repeat' (first  |(refine kA ?_;conv=>whnf)|(refine Br.mk (fun hc=>?_) fun hc=>?_<;>first|exact hc.elim|conv=>whnf)|(refine kB ?_))
  all_goals first
   |exact Aw hno
   |(exfalso;refine h ⟨by omega,by omega,?_⟩;unfold Jr;omega)
   |trace_state
def wd (b:Bool) (m:Nat):AV:=.agg [.bool b,.int .u64 ((m / 18446744073709551616:Nat):Int),.int .u64 ((m % 18446744073709551616:Nat):Int)]
theorem wU {z:Int} {K:AV→Prop} (y:Int) (h:z % 18446744073709551616=y) (hk:K (.int .u64 y)):Ig .u64 z K:=by
 subst h
 refine CQ ?_ hk
 simp[IntKind.wrap,IntKind.bits,IntKind.signed]
theorem AdE (n:Nat):(BitVec.ofInt 64 (n:Int)).toNat=n % 18446744073709551616:=by simp
theorem AfQ (n:Nat):IntKind.u64.wrap (BitVec.ofInt IntKind.u64.bits (n:Int) &&& BitVec.ofInt IntKind.u64.bits 4294967295).toNat=((n % 4294967296:Nat):Int):=by
 show IntKind.u64.wrap (BitVec.ofInt 64 (n:Int) &&& BitVec.ofInt 64 ((4294967295:Nat):Int)).toNat=_
 rw[BitVec.toNat_and,AdE,AdE]
 have:(n % 18446744073709551616) &&& (4294967295 % 18446744073709551616)=n % 4294967296:=by
  rw[show (4294967295 % 18446744073709551616:Nat)=2 ^ 32-1 by rfl,Nat.and_two_pow_sub_one_eq_mod]
  omega
 rw[this]
 simp[IntKind.wrap,IntKind.bits,IntKind.signed]
 omega
theorem or0 {a b:Nat} (ha:a<18446744073709551616) (hb:b<18446744073709551616):IntKind.u64.wrap (BitVec.ofInt IntKind.u64.bits (a:Int) ||| BitVec.ofInt IntKind.u64.bits (b:Int)).toNat=0↔a=0∧b=0:=by
 show IntKind.u64.wrap (BitVec.ofInt 64 (a:Int) ||| BitVec.ofInt 64 (b:Int)).toNat=0↔_
 have h:=(BitVec.ofInt 64 (a:Int) ||| BitVec.ofInt 64 (b:Int)).isLt
 have e:IntKind.u64.wrap (BitVec.ofInt 64 (a:Int) ||| BitVec.ofInt 64 (b:Int)).toNat=((BitVec.ofInt 64 (a:Int) ||| BitVec.ofInt 64 (b:Int)).toNat:Int):=by
  simp only[IntKind.wrap,IntKind.bits,IntKind.signed,Bool.false_and,Bool.false_eq_true,if_false]
  omega
 rw[e,BitVec.toNat_or,AdE,AdE,Nat.mod_eq_of_lt ha,Nat.mod_eq_of_lt hb]
 constructor
 ·intro h
  have h:a ||| b=0:=by omega
  exact Nat.or_eq_zero_iff.1 h
 ·rintro⟨rfl,rfl⟩;rfl
theorem Qq (n:Nat):((n:Int)).fdiv (2 ^ (min (Int.toNat 32) IntKind.u64.bits))=((n / 4294967296:Nat):Int):=by
 rw[show (2:Int) ^ (min (Int.toNat 32) IntKind.u64.bits)=4294967296 by rfl,Int.fdiv_eq_ediv_of_nonneg _ (by omega)]
 rfl
theorem mulN {a b:Nat} {A B:Nat} (ha:a≤A) (hb:b≤B) (h:A*B<18446744073709551616):((a:Int)*(b:Int)) % 18446744073709551616=((a*b:Nat):Int):=by
 have:a*b≤A*B:=Nat.mul_le_mul ha hb
 rw[Int.natCast_mul]
 have h2:((a*b:Nat):Int)<18446744073709551616:=by omega
 rw[← Int.natCast_mul]
 omega
theorem AdF (x0 x1 y0 y1:Nat):(x1*4294967296+x0)*(y1*4294967296+y0)=x1*y1*18446744073709551616+(x1*y0+x0*y1)*4294967296+x0*y0:=by
 rw[Nat.add_mul,Nat.mul_add,Nat.mul_add]
 have e1:x1*4294967296*(y1*4294967296)=x1*y1*18446744073709551616:=by
  rw[Nat.mul_mul_mul_comm]
 have e2:x1*4294967296*y0=x1*y0*4294967296:=by rw[Nat.mul_right_comm]
 have e3:x0*(y1*4294967296)=x0*y1*4294967296:=by rw[Nat.mul_assoc]
 rw[e1,e2,e3]
 omega
theorem AfR {x y:Nat} (hx:x<2^60) (hy:y<2^60):Ae (Ad tab) 363 [.int .u64 x,.int .u64 y] (· =.BL [.int .u64 ((x*y / 18446744073709551616:Nat):Int),.int .u64 ((x*y % 18446744073709551616:Nat):Int)]):=by
 obtain⟨x0,hx0⟩:∃x0,x % 4294967296=x0:=⟨_,rfl⟩
 obtain⟨x1,hx1⟩:∃x1,x / 4294967296=x1:=⟨_,rfl⟩
 obtain⟨y0,hy0⟩:∃y0,y % 4294967296=y0:=⟨_,rfl⟩
 obtain⟨y1,hy1⟩:∃y1,y / 4294967296=y1:=⟨_,rfl⟩
 have bx0:x0≤4294967295:=by omega
 have bx1:x1≤268435455:=by omega
 have by0:y0≤4294967295:=by omega
 have by1:y1≤268435455:=by omega
 have ex:=AdF x0 x1 y0 y1
 rw[show x1*4294967296+x0=x by omega,show y1*4294967296+y0=y by omega]at ex
 have p00:=Nat.mul_le_mul bx0 by0
 have p10:=Nat.mul_le_mul bx1 by0
 have p01:=Nat.mul_le_mul bx0 by1
 have p11:=Nat.mul_le_mul bx1 by1
 refine Ac rfl rfl ?_
 conv=>whnf
 repeat (first|(refine BO (by first|rfl|omega) ?_;conv=>whnf))
 refine BK ((AfQ x).trans (congrArg _ hx0)) ?_
 conv=>whnf
 repeat (first|(refine BO (by first|rfl|omega) ?_;conv=>whnf))
 refine BK ((Qq x).trans (congrArg _ hx1)) ?_
 conv=>whnf
 repeat (first|(refine BO (by first|rfl|omega) ?_;conv=>whnf))
 refine BK ((AfQ y).trans (congrArg _ hy0)) ?_
 conv=>whnf
 repeat (first|(refine BO (by first|rfl|omega) ?_;conv=>whnf))
 refine BK ((Qq y).trans (congrArg _ hy1)) ?_
 conv=>whnf
 repeat (first|(refine BO (by first|rfl|omega) ?_;conv=>whnf))
 refine wU _ (mulN bx0 by0 (by decide)) ?_
 conv=>whnf
 repeat (first|(refine BO (by first|rfl|omega) ?_;conv=>whnf))
 refine wU _ (mulN bx1 by0 (by decide)) ?_
 conv=>whnf
 repeat (first|(refine BO (by first|rfl|omega) ?_;conv=>whnf))
 refine BK (Qq _) ?_
 conv=>whnf
 repeat (first|(refine BO (by first|rfl|omega) ?_;conv=>whnf))
 refine wU ((x1*y0+x0*y0 / 4294967296:Nat):Int) (by omega) ?_
 conv=>whnf
 repeat (first|(refine BO (by first|rfl|omega) ?_;conv=>whnf))
 refine BK (AfQ _) ?_
 conv=>whnf
 repeat (first|(refine BO (by first|rfl|omega) ?_;conv=>whnf))
 refine BK (Qq _) ?_
 conv=>whnf
 repeat (first|(refine BO (by first|rfl|omega) ?_;conv=>whnf))
 refine wU _ (mulN bx0 by1 (by decide)) ?_
 conv=>whnf
 repeat (first|(refine BO (by first|rfl|omega) ?_;conv=>whnf))
 refine wU (((x1*y0+x0*y0 / 4294967296) % 4294967296+x0*y1:Nat):Int) (by omega) ?_
 conv=>whnf
 repeat (first|(refine BO (by first|rfl|omega) ?_;conv=>whnf))
 refine wU _ (mulN bx1 by1 (by decide)) ?_
 conv=>whnf
 repeat (first|(refine BO (by first|rfl|omega) ?_;conv=>whnf))
 refine wU ((x1*y1+(x1*y0+x0*y0 / 4294967296) / 4294967296:Nat):Int) (by omega) ?_
 conv=>whnf
 repeat (first|(refine BO (by first|rfl|omega) ?_;conv=>whnf))
 refine BK (Qq _) ?_
 conv=>whnf
 repeat (first|(refine BO (by first|rfl|omega) ?_;conv=>whnf))
 refine wU ((x1*y1+(x1*y0+x0*y0 / 4294967296) / 4294967296+((x1*y0+x0*y0 / 4294967296) % 4294967296+x0*y1) / 4294967296:Nat):Int) (by omega) ?_
 conv=>whnf
 repeat (first|(refine BO (by first|rfl|omega) ?_;conv=>whnf))
 refine wU ((x*y % 18446744073709551616:Nat):Int) (by rw[← Int.natCast_mul];omega) ?_
 conv=>whnf
 rw[ex]
 repeat (refine Ah rfl ?_;conv=>whnf)
 have e1:∀z z':Nat,z=z'→∀w:AV,AV.BL [.int .u64 ((z:Nat):Int),w]=.BL [.int .u64 ((z':Nat):Int),w]:=fun z z' h w=>by rw[h]
 exact e1 _ _ (by omega) _
theorem II {n:Int} (h:Jr n):n.natAbs≤1000000000000000:=by unfold Jr at h;omega
theorem Afd {n:Int} (h:Jr n):Ae (Ad tab) 364 [.int .i64 n] (· =.int .u64 (n.natAbs:Int)):=by
 unfold Jr at h
 refine Ac rfl rfl ?_
 (conv=>whnf);repeat' (first|(refine wU (n+18446744073709551616) (by omega) ?_;conv=>whnf)|(refine wU (n.natAbs:Int) (by omega) ?_;conv=>whnf)|(refine kA ?_;conv=>whnf)|(refine Br.mk (fun hc=>?_) fun hc=>?_<;>first|exact hc.elim|conv=>whnf)|(refine kB ?_))
 all_goals first|rfl
theorem Qr {b:Bool} {m:Nat} {x y:Int} {c:Bool} (h1:b=c) (h2:((m / 18446744073709551616:Nat):Int)=x) (h3:((m % 18446744073709551616:Nat):Int)=y):AV.agg [.bool c,.int .u64 x,.int .u64 y]=wd b m:=by
 subst h1 h2 h3;rfl
theorem Vk {a b:Int} (ha:Jr a) (hb:Jr b):Ae (Ad tab) 343 [.int .i64 a,.int .i64 b] (· =wd (decide (a<0) != decide (b<0)) (a.natAbs*b.natAbs)):=by
 have h1:=II ha
 have h2:=II hb
 have h3:=AfR (x:=a.natAbs) (y:=b.natAbs) (by omega) (by omega)
 refine Ac rfl rfl ?_
 (conv=>whnf);repeat' (first|((first|refine Aa (Afd ha) ?_|refine Aa (Afd hb) ?_|refine Aa h3 ?_);rintro _ rfl;conv=>whnf)|(refine kA ?_;conv=>whnf)|(refine Br.mk (fun hc=>?_) fun hc=>?_<;>first|exact hc.elim|conv=>whnf)|(refine kB ?_))
 all_goals first
  |exact Qr (by rw[decide_eq_true (show a<0 by omega),decide_eq_true (show b<0 by omega)];rfl) rfl rfl
  |exact Qr (by rw[decide_eq_true (show a<0 by omega),decide_eq_false (show ¬b<0 by omega)];rfl) rfl rfl
  |exact Qr (by rw[decide_eq_false (show ¬a<0 by omega),decide_eq_true (show b<0 by omega)];rfl) rfl rfl
  |exact Qr (by rw[decide_eq_false (show ¬a<0 by omega),decide_eq_false (show ¬b<0 by omega)];rfl) rfl rfl
theorem AhO {x y c:Nat} (hc:c≤1):Ae (Ad tab) 365 [.int .u64 x,.int .u64 y,.int .u64 c] (· =.BL [.int .u64 (((x+y+c) % 18446744073709551616:Nat):Int),.int .u64 (((x+y+c) / 18446744073709551616:Nat):Int)]):=by
 refine Ox (sp:=addSpec) (v:=.BL [.int .u64 (((x+y+c) % 18446744073709551616:Nat):Int),.int .u64 (((x+y+c) / 18446744073709551616:Nat):Int)]) (s:=⟨[],0⟩) rfl ?_ rfl rfl
 show(if 0≤(x:Int)∧0≤(y:Int)∧0≤(c:Int)∧(c:Int)≤1 then _ else _)=_
 rw[if_pos ⟨by omega,by omega,by omega,by omega⟩]
 rfl
theorem AdG {x y c:Nat} (hc:c≤1) (h:y+c≤x+18446744073709551616):Ae (Ad tab) 367 [.int .u64 x,.int .u64 y,.int .u64 c] (· =.BL [.int .u64 (((x+18446744073709551616-y-c) % 18446744073709551616:Nat):Int),.int .u64 ((if x<y+c then 1 else 0:Nat):Int)]):=by
 refine Ox (sp:=Nv) (v:=.BL [.int .u64 (((x+18446744073709551616-y-c) % 18446744073709551616:Nat):Int),.int .u64 ((if x<y+c then 1 else 0:Nat):Int)]) (s:=⟨[],0⟩) rfl ?_ rfl rfl
 show(if 0≤(x:Int)∧0≤(y:Int)∧0≤(c:Int)∧(c:Int)≤1∧(y:Int)+c≤x+m64 then _ else _)=_
 rw[if_pos ⟨by omega,by omega,by omega,by omega,by unfold m64;omega⟩]
 have e1:((x:Int)+m64-y-c) % m64=(((x+18446744073709551616-y-c) % 18446744073709551616:Nat):Int):=by
  unfold m64;omega
 have e2:(if (x:Int)<y+c then(1:Int)else 0)=((if x<y+c then 1 else 0:Nat):Int):=by
  split<;>split<;>omega
 rw[e1,e2]
theorem Afe {a b:Bool} {m n:Nat}:Ae (Ad tab) 366 [wd a m,wd b n] (· =.bool (decide (m<n))):=by
 refine Ac rfl rfl ?_
 (conv=>whnf);repeat' (first  |(refine kA ?_;conv=>whnf)|(refine Br.mk (fun hc=>?_) fun hc=>?_<;>first|exact hc.elim|conv=>whnf)|(refine kB ?_))
 all_goals first|exact Bf (by omega)|exact Aw (by omega)
def Vl (a:Bool) (m:Nat) (b:Bool) (n:Nat):AV:=if a=b then wd a (m+n)else if m<n then wd b (n-m)else wd a (m-n)
theorem AhP {a b:Bool} {m n:Nat} (hm:m<2^120) (hn:n<2^120):Ae (Ad tab) 344 [wd a m,wd b n] (· =Vl a m b n):=by
 have c1:=AhO (x:=m % 18446744073709551616) (y:=n % 18446744073709551616) (c:=0) (by omega)
 have c2:=AhO (x:=m / 18446744073709551616) (y:=n / 18446744073709551616) (c:=(m % 18446744073709551616+n % 18446744073709551616+0) / 18446744073709551616) (by omega)
 have d1:=AdG (x:=m % 18446744073709551616) (y:=n % 18446744073709551616) (c:=0) (by omega) (by omega)
 have d2:=AdG (x:=m / 18446744073709551616) (y:=n / 18446744073709551616) (c:=if m % 18446744073709551616<n % 18446744073709551616+0 then 1 else 0) (by split<;>omega) (by split<;>omega)
 have f1:=AdG (x:=n % 18446744073709551616) (y:=m % 18446744073709551616) (c:=0) (by omega) (by omega)
 have f2:=AdG (x:=n / 18446744073709551616) (y:=m / 18446744073709551616) (c:=if n % 18446744073709551616<m % 18446744073709551616+0 then 1 else 0) (by split<;>omega) (by split<;>omega)
 by_cases hab:a=b
 ·have e:Vl a m b n=wd a (m+n):=if_pos hab
  rw[e]
  subst hab
  cases a
  all_goals
   refine Ac rfl rfl ?_
   (conv=>whnf);repeat' (first|((first|refine Aa c1 ?_|refine Aa c2 ?_);rintro _ rfl;conv=>whnf)|(refine kA ?_;conv=>whnf)|(refine Br.mk (fun hc=>?_) fun hc=>?_<;>first|exact hc.elim|conv=>whnf)|(refine kB ?_))
   all_goals first|(show AV.agg [.bool _,.int .u64 ((_:Nat):Int),.int .u64 ((_:Nat):Int)]=wd _ _;exact Qr rfl (by omega) (by omega))
 by_cases hlt:m<n
 ·have e:Vl a m b n=wd b (n-m):=by unfold Vl;rw[if_neg hab,if_pos hlt]
  have hl:Ae (Ad tab) 366 [wd a m,wd b n] (· =.bool true):=by
   have:=Afe (a:=a) (b:=b) (m:=m) (n:=n);rwa [decide_eq_true hlt]at this
  rw[e]
  cases a<;>cases b<;>(try exact absurd rfl hab)
  all_goals
   refine Ac rfl rfl ?_
   (conv=>whnf);repeat' (first|((first|refine Aa hl ?_|refine Aa f1 ?_|refine Aa f2 ?_);rintro _ rfl;conv=>whnf)|(refine kA ?_;conv=>whnf)|(refine Br.mk (fun hc=>?_) fun hc=>?_<;>first|exact hc.elim|conv=>whnf)|(refine kB ?_))
   all_goals first|(show AV.agg [.bool _,.int .u64 ((_:Nat):Int),.int .u64 ((_:Nat):Int)]=wd _ _;exact Qr rfl (by split<;>omega) (by omega))
 ·have e:Vl a m b n=wd a (m-n):=by unfold Vl;rw[if_neg hab,if_neg hlt]
  have hl:Ae (Ad tab) 366 [wd a m,wd b n] (· =.bool false):=by
   have:=Afe (a:=a) (b:=b) (m:=m) (n:=n);rwa [decide_eq_false hlt]at this
  rw[e]
  cases a<;>cases b<;>(try exact absurd rfl hab)
  all_goals
   refine Ac rfl rfl ?_
   (conv=>whnf);repeat' (first|((first|refine Aa hl ?_|refine Aa d1 ?_|refine Aa d2 ?_);rintro _ rfl;conv=>whnf)|(refine kA ?_;conv=>whnf)|(refine Br.mk (fun hc=>?_) fun hc=>?_<;>first|exact hc.elim|conv=>whnf)|(refine kB ?_))
   all_goals first|(show AV.agg [.bool _,.int .u64 ((_:Nat):Int),.int .u64 ((_:Nat):Int)]=wd _ _;exact Qr rfl (by split<;>omega) (by omega))
def sgW (a:Bool) (m:Nat):Int:=if m=0 then 0 else if a=true then -1 else 1
theorem AhQ {a:Bool} {m:Nat} (hm:m<2^127):Ae (Ad tab) 345 [wd a m] (· =.int .i64 (sgW a m)):=by
 obtain⟨z,hz,hz0⟩:∃z,IntKind.u64.wrap (BitVec.ofInt IntKind.u64.bits ((m / 18446744073709551616:Nat):Int) ||| BitVec.ofInt IntKind.u64.bits ((m % 18446744073709551616:Nat):Int)).toNat=z∧(z=0↔m=0):=⟨_,rfl,by
  rw[or0 (by omega) (by omega)];omega⟩
 refine Ac rfl rfl ?_
 (conv=>whnf);repeat' (first|(refine BK hz ?_;conv=>whnf)|(refine kA ?_;conv=>whnf)|(refine Br.mk (fun hc=>?_) fun hc=>?_<;>first|exact hc.elim|conv=>whnf)|(refine kB ?_))
 all_goals first
  |exact congrArg (AV.int .i64) (by unfold sgW;rw[if_pos (by omega)])
  |exact congrArg (AV.int .i64) (by unfold sgW;rw[if_neg (by omega),if_pos (by assumption)])
  |exact congrArg (AV.int .i64) (by unfold sgW;rw[if_neg (by omega)];simp_all)
def S9 (l:List Int):Prop:=l.length=14∧∀x∈l,0≤x∧x≤999
theorem S9.set {l:List Int} (h:S9 l) {k:Nat} {y:Int} (hy:0≤y∧y≤999):S9 (l.set k y):=by
 refine⟨by rw[List.length_set];exact h.1,fun x hx=>?_⟩
 rcases List.mem_or_eq_of_mem_set hx with hx|rfl
 ·exact h.2 x hx
 ·exact hy
theorem TT {d e:Int} (h1:0≤d) (h2:d≤999) (h3:0≤e) (h4:e≤999):0≤d*e∧d*e≤998001:=
 ⟨Int.mul_nonneg h1 h3,by
  have:=Int.mul_le_mul h2 h4 h3 (by omega:(0:Int)≤999)
  omega⟩
theorem tmE {c:Int} (h:0≤c):c.tmod 1000=c % 1000:=Int.tmod_eq_emod_of_nonneg h
theorem tdE {c:Int} (h:0≤c):c.tdiv 1000=c / 1000:=Int.tdiv_eq_ediv_of_nonneg h
def Left (j:Nat) (c:Int):Prop:=0≤c∧((j=0∧c<1000000000000000000)∨(j=1∧c<1000000000000000)∨(j=2∧c<1000000000000)∨(j=3∧c<1000000000)∨(j=4∧c<1000000)∨(j=5∧c<1000)∨(6≤j∧c=0))
def Carry (j:Nat) (y:Int):Prop:=0≤y∧((j≤6∧y≤999)∨(j=7∧y≤1)∨(j=8∧y=0))
theorem TU {j:Nat} {c:Int} (h:Left j c):Left (j+1) (c.tdiv 1000):=by
 have e:=tdE h.1
 unfold Left at *;omega
theorem Yb {j:Nat} {c y x d:Int} (h:Left j c) (hy:Carry j y) (hj:0<c∨0<y) (hx:0≤x∧x≤999∧(j=7→x=0)) (hd:0≤d∧d≤999):Carry (j+1) ((y+x+d*c.tmod 1000).tdiv 1000):=by
 have e1:=tmE h.1
 have hm:=h.1
 obtain⟨m1,m2⟩:=TT hd.1 hd.2 (e:=c.tmod 1000) (by omega) (by omega)
 have hy0:=hy.1
 have e2:=tdE (c:=y+x+d*c.tmod 1000) (by omega)
 have hc:c.tmod 1000=0∨j≤5:=by unfold Left at h;omega
 rw[e2]
 rcases hc with h0|h0
 ·have hm0:d*c.tmod 1000=0:=by rw[h0];exact Int.mul_zero _
  rw[hm0]
  unfold Carry Left at *;omega
 ·unfold Carry Left at *;omega
theorem plus {x y:List Int} {na nb:Bool} (hx:S9 x) (hy:S9 y):Ae (Ad tab) 321 [SQ na x,SQ nb y] (fun v=>∃nn l,v=SQ nn l):=by
 have hxl:=hx.1
 have hyl:=hy.1
 refine Ac rfl rfl ?_
 (conv=>whnf);repeat' (first|(refine kA ?_;conv=>whnf)|(refine Br.mk (fun hc=>?_) fun hc=>?_<;>first|exact hc.elim|conv=>whnf)  |(refine kB ?_))
 refine Ag (fun m env s=>∃(k:Nat) (c:Int) (l:List Int),m=14-k∧0≤c∧c≤1∧l.length=14∧env=[(0,SQ na x),(1,SQ nb y),(5,.own 0 0 0 (Int.toNat (Nat.cast x.length))),(6,.int .i64 c),(7,.int .i64 k)]∧s=⟨[.arr 0 1 true true (ints l)],1⟩) ?_ _ _ _ ⟨0,0,List.replicate x.length 0,rfl,by omega,by omega,by simp[hxl],rfl,rfl⟩
 rintro _ _ _ ⟨k,c,l,rfl,c0,c1,hl,rfl,rfl⟩
 refine⟨rfl,?_⟩
 have bx:∀h:k<x.length,0≤x[k]∧x[k]≤999:=fun h=>hx.2 _ (List.getElem_mem h)
 have bY:∀h:k<y.length,0≤y[k]∧y[k]≤999:=fun h=>hy.2 _ (List.getElem_mem h)
 have hq:∀(h:k<x.length) (h2:k<y.length),(c+x[k]+y[k]).tdiv 1000=(c+x[k]+y[k]) / 1000∧0≤x[k]∧x[k]≤999∧0≤y[k]∧y[k]≤999:=by
  intro h h2
  have:=bx h
  have:=bY h2
  exact⟨tdE (by omega),by omega⟩
 (conv=>whnf);repeat' (first|(refine kA ?_;conv=>whnf)|(refine Br.mk (fun hc=>?_) fun hc=>?_<;>first|exact hc.elim|conv=>whnf)|(have hwr:=hq (by omega) (by omega);apply CQ;(· exact wrap_i64 (by omega) (by omega));clear hwr;conv=>whnf)|(refine kB ?_))
 ·obtain⟨q1,q2⟩:=hq (by omega) (by omega)
  exact again.mk ⟨_,by omega,k+1,_,_,rfl,by omega,by omega,by rw[List.length_set];exact hl,rfl,rfl⟩
 ·refine⟨true,l,?_⟩
  rw[hxl]
  have:=@uI l
  rw[hl]at this
  exact congrArg (AV.sl true) this
theorem Ah6 {c0:Nat} {x y:List Int} (hx:S9 x) (hy:S9 y):AA (Ad tab) 321 [.own 0 0 0 14,.own 1 1 0 14] ⟨[.arr 0 1 true true (ints x),.arr 1 1 true true (ints y)],c0⟩ fun out s'=>∃l:List Int,out=.ok (.own 2 c0 0 14)∧s'=⟨[.arr 0 1 true true (ints x),.arr 1 1 true true (ints y),.arr c0 1 true true (ints l)],c0+1⟩∧l.length=14:=by
 have hxl:=hx.1
 have hyl:=hy.1
 refine Aj rfl rfl ?_
 (conv=>whnf);repeat' (first|(refine kA ?_;conv=>whnf)|(refine Br.mk (fun hc=>?_) fun hc=>?_<;>first|exact hc.elim|conv=>whnf)  |(refine kB ?_))
 refine Ag (fun m env s=>∃(k:Nat) (c:Int) (l:List Int),m=14-k∧0≤c∧c≤1∧l.length=14∧env=[(0,.own 0 0 0 14),(1,.own 1 1 0 14),(5,.own 2 c0 0 14),(6,.int .i64 c),(7,.int .i64 k)]∧s=⟨[.arr 0 1 true true (ints x),.arr 1 1 true true (ints y),.arr c0 1 true true (ints l)],c0+1⟩) ?_ _ _ _ ⟨0,0,List.replicate 14 0,rfl,by omega,by omega,by simp,rfl,rfl⟩
 rintro _ _ _ ⟨k,c,l,rfl,c2,c1,hl,rfl,rfl⟩
 refine⟨rfl,?_⟩
 have bx:∀h:k<x.length,0≤x[k]∧x[k]≤999:=fun h=>hx.2 _ (List.getElem_mem h)
 have bY:∀h:k<y.length,0≤y[k]∧y[k]≤999:=fun h=>hy.2 _ (List.getElem_mem h)
 have hq:∀(h:k<x.length) (h2:k<y.length),(c+x[k]+y[k]).tdiv 1000=(c+x[k]+y[k]) / 1000∧0≤x[k]∧x[k]≤999∧0≤y[k]∧y[k]≤999:=by
  intro h h2
  have:=bx h
  have:=bY h2
  exact⟨tdE (by omega),by omega⟩
 (conv=>whnf);repeat' (first|(refine kA ?_;conv=>whnf)|(refine Br.mk (fun hc=>?_) fun hc=>?_<;>first|exact hc.elim|conv=>whnf)|(have hwr:=hq (by omega) (by omega);apply CQ;(· exact wrap_i64 (by omega) (by omega));clear hwr;conv=>whnf)|(refine kB ?_))
 ·obtain⟨q1,q2⟩:=hq (by omega) (by omega)
  exact again.mk ⟨_,by omega,k+1,_,_,rfl,by omega,by omega,by rw[List.length_set];exact hl,rfl,rfl⟩
 ·exact⟨l,rfl,rfl,hl⟩
theorem Ah7:S9 (List.replicate 14 0):=⟨by simp,by intro x hx;have:=List.eq_of_mem_replicate hx;omega⟩
def LK (n:Int):Int:=if n<0 then -1 else if 0<n then 1 else 0
theorem sign {n:Int}:Ae (Ad tab) 264 [.int .i64 n] (· =.int .i64 (LK n)):=by
 refine Ac rfl rfl ?_
 (conv=>whnf);repeat' (first|(refine kA ?_;conv=>whnf)|(refine Br.mk (fun hc=>?_) fun hc=>?_<;>first|exact hc.elim|conv=>whnf)  |(refine kB ?_))
 all_goals unfold LK;first|(rw [if_pos (by omega)];rfl)|(rw [if_neg (by omega),if_pos (by omega)];rfl)|(rw [if_neg (by omega),if_neg (by omega)];rfl)
theorem AbJ (n:Int):-1≤LK n∧LK n≤1:=by unfold LK;repeat' split;all_goals omega
def val:List Int→Int
 |[]=>0
 |x::l=>x+1000*val l
def pw:Nat→Int
 |0=>1
 |k+1=>1000*pw k
theorem Zt:∀{l:List Int} {k:Nat} {y:Int} (h:k<l.length),val (l.set k y)=val l+(y-l[k])*pw k
 |[],k,y,h=>by simp at h
 |x::l,0,y,h=>by
  show y+1000*val l=x+1000*val l+(y-x)*1
  omega
 |x::l,k+1,y,h=>by
  have h':k<l.length:=by simpa using h
  have ih:=Zt (l:=l) (k:=k) (y:=y) h'
  show x+1000*val (l.set k y)=x+1000*val l+(y-l[k])*(1000*pw k)
  rw[ih,←Int.mul_assoc,Int.mul_comm (y-l[k]) 1000,Int.mul_assoc]
  omega
theorem val_zero:∀n,val (List.replicate n 0)=0
 |0=>rfl
 |n+1=>by
  show 0+1000*val (List.replicate n 0)=0
  rw[val_zero n];rfl
theorem row_step {v x y dd c r y1 c1 m p:Int} (h1:r+1000*y1=y+x+dd*m) (h2:c=1000*c1+m):v+(r-x)*p+y1*(1000*p)+dd*c1*(1000*p)=v+y*p+dd*c*p:=by
 have e1:y1*(1000*p)=(1000*y1)*p:=by rw[← Int.mul_assoc,Int.mul_comm y1 1000]
 have e2:dd*c1*(1000*p)=(1000*(dd*c1))*p:=by rw[← Int.mul_assoc,Int.mul_comm (dd*c1) 1000]
 have e3:dd*c=1000*(dd*c1)+dd*m:=by rw[h2,Int.mul_add,←Int.mul_assoc,Int.mul_comm dd 1000,Int.mul_assoc]
 rw[e1,e2,e3]
 have e4:v+(r-x)*p+1000*y1*p+1000*(dd*c1)*p=v+((r-x)+1000*y1+1000*(dd*c1))*p:=by rw[Int.add_mul,Int.add_mul];omega
 have e5:v+y*p+(1000*(dd*c1)+dd*m)*p=v+(y+(1000*(dd*c1)+dd*m))*p:=by rw[Int.add_mul y];omega
 rw[e4,e5,show(r-x)+1000*y1+1000*(dd*c1)=y+(1000*(dd*c1)+dd*m) by omega]
theorem Ac6 {v a b p m a1 v1:Int} (h:a=1000*a1+m) (hv:v1=v+m*b*p):v1+a1*b*(1000*p)=v+a*b*p:=by
 have e1:a1*b*(1000*p)=(1000*a1)*b*p:=by rw[← Int.mul_assoc,Int.mul_comm (a1*b) 1000,←Int.mul_assoc 1000 a1 b]
 rw[hv,e1,h,Int.add_mul,Int.add_mul]
 omega
end AI
end Go.Proofs.YtceiccjppfapjaaGreatDoor
