/- math/bits.Len and the next power of two. Orders: lexicographic, of numbers, of strings; the first that is not 0. The order of rules: the program's and the reference's. Lists of rules: which are valid; looking for a rule. Looking for the first. The budget of a graph; names and types; entries. Looking for the first: good properties. Small values. A value cloned reads as the value. Properties looked up. Strings in a list. Strings in a list: the reference. The reference's HasLabel. HasLabel. -/
import Derived.Test.YtjijnamhalgamaaGreatDoorSMad
import Derived.Test.YtjijnamhalgamaaGreatDoorBMaa
set_option linter.unusedVariables false
set_option maxRecDepth 4000
namespace Go.Proofs.YtjijnamhalgamaaGreatDoor
namespace AI
section
open Go.Sort
theorem Adw {k:IntKind} {z:Int} (hk:k.signed=false) (h:0≤z) (h2:z<2 ^ k.bits):k.wrap z=z:=by
 simp only[IntKind.wrap,hk,Bool.false_and,Bool.false_eq_true,if_false]
 exact Int.emod_eq_of_lt h h2
theorem wrapN {k:IntKind} {z:Int} {K:AV→Prop} (n:Nat) (hk:k.signed=false) (hz:z=n) (h:n<2 ^ k.bits) (h2:K (.int k n)):Jk k z K:=by
 subst hz
 refine BI (Adw hk (by omega) ?_) h2
 exact_mod_cast h
theorem CU {n:Nat} (k:Nat) (h:2 ^ k≤n):bitsLen (n / 2 ^ k)+k=bitsLen n:=by
 have h0:k<bitsLen n:=by
  rcases Nat.lt_or_ge k (bitsLen n)with h1|h1
  ·exact h1
  ·have:=(bitsLen_le_iff n k).1 h1;omega
 have e1:bitsLen (n / 2 ^ k)≤bitsLen n-k:=by
  rw[bitsLen_le_iff,Nat.div_lt_iff_lt_mul (Nat.two_pow_pos k),←Nat.pow_add,Nat.sub_add_cancel (by omega)]
  exact lt_two_pow_bitsLen n
 have e2:bitsLen n≤bitsLen (n / 2 ^ k)+k:=by
  rw[bitsLen_le_iff,Nat.pow_add,←Nat.div_lt_iff_lt_mul (Nat.two_pow_pos k)]
  exact lt_two_pow_bitsLen _
 omega
def Zd:List UInt8:=[0,1,2,2,3,3,3,3,4,4,4,4,4,4,4,4]++List.replicate 16 5++List.replicate 32 6++List.replicate 64 7++List.replicate 128 8
theorem Ze:(List.range 256).all (fun n=>nth Zd n==some (UInt8.ofNat (bitsLen n))&&Nat.ble (bitsLen n) 8)=true:=by decide +kernel
theorem U8 {n:Nat} (h:n<256):nth Zd n=some (UInt8.ofNat (bitsLen n))∧bitsLen n≤8:=by
 have:=List.all_eq_true.1 Ze n (List.mem_range.2 h)
 rw[Bool.and_eq_true]at this
 exact⟨by simpa using this.1,Nat.le_of_ble_eq_true this.2⟩
theorem AlY (n:Nat):((n:Int)).fdiv (2 ^ (min (Int.toNat 32) IntKind.u64.bits))=((n / 2 ^ 32:Nat):Int):=by
 rw[show (2:Int) ^ (min (Int.toNat 32) IntKind.u64.bits)=4294967296 by rfl,Int.fdiv_eq_ediv_of_nonneg _ (by omega)]
 rfl
theorem AlZ (n:Nat):((n:Int)).fdiv (2 ^ (min (Int.toNat 16) IntKind.u64.bits))=((n / 2 ^ 16:Nat):Int):=by
 rw[show (2:Int) ^ (min (Int.toNat 16) IntKind.u64.bits)=65536 by rfl,Int.fdiv_eq_ediv_of_nonneg _ (by omega)]
 rfl
theorem Aog (n:Nat):((n:Int)).fdiv (2 ^ (min (Int.toNat 8) IntKind.u64.bits))=((n / 2 ^ 8:Nat):Int):=by
 rw[show (2:Int) ^ (min (Int.toNat 8) IntKind.u64.bits)=256 by rfl,Int.fdiv_eq_ediv_of_nonneg _ (by omega)]
 rfl
theorem AjE {m:Nat} (h:m≤8):(UInt8.ofNat m).toNat=m:=by
 rw[UInt8.toNat_ofNat']
 exact Nat.mod_eq_of_lt (by omega)
set_option maxRecDepth 100000 in
theorem Aoh {n:Nat} {K:UInt8→Prop} (hn:n<256) (h:bitsLen n≤8→K (UInt8.ofNat (bitsLen n))):Ci Zd (Int.toNat (n:Int)) K:=
 Af (U8 hn).1 (h (U8 hn).2)
set_option maxRecDepth 100000 in
theorem Al0 {n:Nat} (h:n<2^64):Ae (Ad tab) 189 [.int .u64 n] (· =.int .i64 (bitsLen n)):=by
 refine Ac rfl rfl ?_
 (conv=>whnf);repeat' (first|((first|(apply Cb;(· first|exact AlY _|exact AlZ _|exact Aog _))|refine wrapN _ rfl rfl (by show _<256;omega) ?_|(refine Aoh (by omega) (fun hb=>?_);rw[AjE hb])|refine kA ?_|(apply Br.mk<;>intro hc))<;>first|exact hc.elim|conv=>whnf)|refine kB ?_)
 all_goals
  show AV.int _ _=_
  congr 1
  first
   |(rw [← CU 32 (n:=n) (by omega),←CU 16 (n:=n / 2 ^ 32) (by omega),←CU 8 (n:=n / 2 ^ 32 / 2 ^ 16) (by omega)];omega)
   |(rw [← CU 32 (n:=n) (by omega),←CU 16 (n:=n / 2 ^ 32) (by omega)];omega)
   |(rw [← CU 32 (n:=n) (by omega),←CU 8 (n:=n / 2 ^ 32) (by omega)];omega)
   |(rw [← CU 32 (n:=n) (by omega)];omega)
   |(rw [← CU 16 (n:=n) (by omega),←CU 8 (n:=n / 2 ^ 16) (by omega)];omega)
   |(rw [← CU 16 (n:=n) (by omega)];omega)
   |(rw [← CU 8 (n:=n) (by omega)];omega)
   |omega
theorem XL {n:Nat} (h:n<2^63):Ae (Ad tab) 120 [.int .u64 n] (· =.int .i64 (bitsLen n)):=by
 refine Ac rfl rfl ?_
 (conv=>whnf);repeat' (first|((first|refine kE (Al0 (n:=n) (by omega)) ?_|refine kA ?_|(apply Br.mk<;>intro hc))<;>first|exact hc.elim|conv=>whnf)|refine kB ?_)
 rfl
theorem AbL {n:Nat} (h:n<2^62) (h0:0<n):Ae (Ad tab) 243 [.int .i64 n] (fun v=>∃M:Nat,v=.int .u64 M∧n<M∧M≤2*n):=by
 have h1:=lt_two_pow_bitsLen n
 have h2:=two_pow_bitsLen_le h0
 have h3:bitsLen n≤62:=(bitsLen_le_iff n 62).2 h
 refine Ac rfl rfl ?_
 (conv=>whnf);repeat' (first|((first|refine wrapN n rfl rfl (by show n<2^64;omega) ?_|refine kE (XL (n:=n) (by omega)) ?_|(refine wrapN (2 ^ bitsLen n) rfl ?_ (by show _<2^64;omega) ?_;(· rw[Int.one_mul,Int.toNat_natCast,Nat.min_eq_left (by show _≤64;omega)];simp))|refine kA ?_|(apply Br.mk<;>intro hc))<;>first|exact hc.elim|conv=>whnf)|refine kB ?_)
 exact⟨_,rfl,h1,h2⟩
section
variable {α:Type} [Inhabited α] {lt:α→α→Bool} {a b i j:Nat} {d:Array α}
theorem Adx (h:i<b) (h2:lt d[i]! d[i-1]! =false):scanSorted lt d b i=scanSorted lt d b (i+1):=by
 rw[scanSorted,if_pos (by simp[h,h2])]
theorem Tt (h:i<b→lt d[i]! d[i-1]! =true):scanSorted lt d b i=i:=by
 rw[scanSorted,if_neg]
 simp only[Bool.and_eq_true,decide_eq_true_eq,not_and]
 intro h1 h2
 rw[h h1]at h2;cases h2
theorem AjF (h:lt d[j+1]! d[j]! =true):shiftDown lt (j+1) d=shiftDown lt j (swp d (j+1) j):=by
 rw[shiftDown,if_neg (by simp[h])]
theorem Ady (h:lt d[j+1]! d[j]! =false):shiftDown lt (j+1) d=d:=by
 rw[shiftDown,if_pos (by simp[h])]
theorem AjG (h0:j<b) (h:lt d[j]! d[j-1]! =true):shiftUp lt b j d=shiftUp lt b (j+1) (swp d j (j-1)):=by
 rw[shiftUp,if_pos h0,if_neg (by simp[h])]
theorem XM (h:j<b→lt d[j]! d[j-1]! =false):shiftUp lt b j d=d:=by
 rw[shiftUp]
 split
 ·rename_i h0
  rw[if_pos (by simp[h h0])]
 ·rfl
@[simp] theorem AjH:∀{j:Nat} {d:Array α},(shiftDown lt j d).size=d.size
 |0,d=>rfl
 |j+1,d=>by
  rw[shiftDown]
  split
  ·rfl
  ·rw[AjH,Tv]
theorem AaB:∀(n j:Nat) (d:Array α),b-j≤n→(shiftUp lt b j d).size=d.size
 |0,j,d,h=>by rw[shiftUp,if_neg (by omega)]
 |n+1,j,d,h=>by
  rw[shiftUp]
  split
  ·split
   ·rfl
   ·rw[AaB n _ _ (by omega),Tv]
  ·rfl
@[simp] theorem Aoi:(shiftUp lt b j d).size=d.size:=AaB (b-j) j d (Nat.le_refl _)
@[simp] theorem AnG:(fixDown lt a i d).size=d.size:=by unfold fixDown;split<;>simp
@[simp] theorem AnH:(fixUp lt b i d).size=d.size:=by unfold fixUp;split<;>simp
variable {p:α→Bool}
theorem Zf (h:i≤j) (h2:p d[i]! =true):scanUp p d j i=scanUp p d j (i+1):=by
 rw[scanUp,if_pos (by simp[h,h2])]
theorem Kr (h:i≤j→p d[i]! =false):scanUp p d j i=i:=by
 rw[scanUp,if_neg]
 simp only[Bool.and_eq_true,decide_eq_true_eq,not_and]
 intro h1 h2
 rw[h h1]at h2;cases h2
theorem Zg (h:i≤j+1) (h2:p d[j+1]! =true):scanDown p d i (j+1)=scanDown p d i j:=by
 rw[scanDown,if_pos (by simp[h,h2])]
theorem Kt (h:i≤j→p d[j]! =false):scanDown p d i j=j:=by
 cases j with
 |zero=>rfl
 |succ j=>
  rw[scanDown,if_neg]
  simp only[Bool.and_eq_true,decide_eq_true_eq,not_and]
  intro h1 h2
  rw[h h1]at h2;cases h2
end
theorem Me {AP:Nat→Option Ir} {a b:Bg} {env:Env} {s:Am} {Q:AQ→Env→Am→Prop} (h:vC AP a env s (UE (fun env s=>vC AP b env s Q) Q)):vC AP (.seq a b) env s Q:=h
theorem Ags {α:Type} [Inhabited α] {L:List α} {D:Array α} {len:Nat} (hl:L.length=len) (h:PermIn 0 len L.toArray D):D.toList.Perm L:=by
 obtain⟨h1,_,h3⟩:=h
 have e1:D.size=len:=by rw[h1];simpa using hl
 have e2:(D.extract 0 len).toList=D.toList:=by rw[← e1];simp
 have e3:(L.toArray.extract 0 len).toList=L:=by rw[← hl];simp
 rw[e2,e3]at h3
 exact h3
theorem AbM {α:Type} [Inhabited α] {lt:α→α→Bool} {D:Array α} {len:Nat} (hl:D.size=len) (h:SortedIn lt 0 len D):D.toList.Pairwise (fun x y=>lt y x=false):=by
 rw[List.pairwise_iff_getElem]
 intro i j hi hj hij
 have:=h i j (Nat.zero_le _) hij (by simpa[hl]using hj)
 simp only[Array.length_toList]at hi hj
 rw[getElem!_pos D j hj,getElem!_pos D i hi]at this
 simpa using this
end
section
open Go.Sort
def Iw (a b:Int):Int:=if a=0 then b else a
def cS (x y:List UInt8):Int:=if Op.bytesLess x y=true then -1 else if Op.bytesLess y x=true then 1 else 0
structure PC {α:Type} (c:α→α→Int):Prop where
 anti:∀x y,c y x=-c x y
 trans:∀x y z,c x y≤0→c y z≤0→c x z≤0
theorem PC.lex {α:Type} {c d:α→α→Int} (hc:PC c) (hd:PC d):PC fun x y=>Iw (c x y) (d x y) where
 anti x y:=by
  have h1:=hc.anti x y
  have h2:=hd.anti x y
  unfold Iw;split<;>split<;>omega
 trans x y z h1 h2:=by
  have a1:=hc.trans x y z
  have a2:=hc.trans y z x
  have a3:=hc.trans z x y
  have b1:=hc.anti x y
  have b2:=hc.anti y z
  have b3:=hc.anti x z
  have d1:=hd.trans x y z
  unfold Iw at*
  split at h1<;>split at h2<;>split<;>omega
theorem PC.on {α β:Type} {c:β→β→Int} (h:PC c) (p:α→β):PC fun x y=>c (p x) (p y):=⟨fun x y=>h.anti _ _,fun x y z=>h.trans _ _ _⟩
theorem Ada:PC GK where
 anti x y:=by unfold GK;repeat' split
              all_goals omega
 trans x y z:=by unfold GK;repeat' split
                 all_goals omega
theorem RI:∀(x y:List UInt8),Op.bytesLess x y=decide (x<y)
 |[],[]=>by simp[Op.bytesLess]
 |_::_,[]=>by simp[Op.bytesLess]
 |[],_::_=>by simp[Op.bytesLess]
 |a::x,b::y=>by
  rw[Op.bytesLess,RI x y]
  simp only[List.cons_lt_cons_iff]
  by_cases h1:a<b<;>by_cases h2:a=b<;>by_cases h3:x<y<;>simp[h1,h2,h3]
theorem Ye (x y:List UInt8):Op.bytesLess x y=ltStr x y:=RI x y
theorem ZK {x y:List UInt8} (h1:Op.bytesLess x y=false) (h2:Op.bytesLess y x=false):x=y:=by
 rw[Ye]at h1 h2
 simp only[ltStr,decide_eq_false_iff_not]at h1 h2
 exact List.le_antisymm (List.not_lt.1 h2) (List.not_lt.1 h1)
theorem SI:PC cS where
 anti x y:=by
  have h:Op.bytesLess x y=true→Op.bytesLess y x=true→False:=fun a b=>by
   rw[Ye]at a b
   have:=swo_ltStr.trans x y x a b
   rw[swo_ltStr.irrefl]at this;cases this
  unfold cS
  by_cases a:Op.bytesLess x y=true<;>by_cases b:Op.bytesLess y x=true<;>simp[a,b]
  exact h a b
 trans x y z h1 h2:=by
  have n1:Op.bytesLess y x=false:=by
   unfold cS at h1
   split at h1
   ·rename_i a
    cases hb:Op.bytesLess y x with
    |false=>rfl
    |true=>
     rw[Ye]at a hb
     have:=swo_ltStr.trans x y x a hb
     rw[swo_ltStr.irrefl]at this;cases this
   ·split at h1
    ·omega
    ·rename_i b;simpa using b
  have n2:Op.bytesLess z y=false:=by
   unfold cS at h2
   split at h2
   ·rename_i a
    cases hb:Op.bytesLess z y with
    |false=>rfl
    |true=>
     rw[Ye]at a hb
     have:=swo_ltStr.trans y z y a hb
     rw[swo_ltStr.irrefl]at this;cases this
   ·split at h2
    ·omega
    ·rename_i b;simpa using b
  have n3:Op.bytesLess z x=false:=by rw[Ye]at *;exact swo_ltStr.ntrans z y x n2 n1
  unfold cS
  split
  ·omega
  ·rw[n3];simp
theorem Rx {x y:List UInt8}:cS x y=0↔x=y:=by
 constructor
 ·intro h
  unfold cS at h
  split at h
  ·omega
  ·split at h
   ·omega
   ·rename_i a b;exact ZK (by simpa using a) (by simpa using b)
 ·rintro rfl
  have:=SI.anti x x
  omega
theorem AbF {a b:Int}:Iw a b=0↔a=0∧b=0:=by unfold Iw;split<;>omega
theorem AiA {x:List UInt8}:Ae (Ad tab) 191 [.str x] (· =.bool false):=by
 refine Ac rfl rfl ?_
 (conv=>whnf);repeat' (first|((first|refine kA ?_|(apply Br.mk<;>intro hc))<;>first|exact hc.elim|conv=>whnf)|refine kB ?_)
 all_goals first|rfl|(exfalso;simp_all)
theorem Aik {x y:List UInt8} (h:Op.bytesLess x y=true):AV.int .i64 (-1)=.int .i64 (cS x y):=by unfold cS;rw[if_pos h]
theorem Ail {x y:List UInt8} (h:Op.bytesLess x y=false) (h2:(Op.bytesLess x y||x==y)=true):AV.int .i64 0=.int .i64 (cS x y):=by
 rw[h,Bool.false_or,beq_iff_eq]at h2
 rw[Rx.2 h2]
theorem Aim {x y:List UInt8} (h2:(Op.bytesLess x y||x==y)=false):AV.int .i64 1=.int .i64 (cS x y):=by
 rw[Bool.or_eq_false_iff,beq_eq_false_iff_ne]at h2
 have h3:Op.bytesLess y x=true:=by
  cases h:Op.bytesLess y x with
  |true=>rfl
  |false=>exact absurd (ZK h2.1 h) h2.2
 unfold cS;rw[h2.1,h3];rfl
theorem Xx {x y:List UInt8}:Ae (Ad tab) 123 [.str x,.str y] (· =.int .i64 (cS x y)):=by
 refine Ac rfl rfl ?_
 (conv=>whnf);repeat' (first|((first|refine kE AiA ?_|refine kA ?_|(apply Br.mk<;>intro hc))<;>first|exact hc.elim|conv=>whnf)|refine kB ?_)
 all_goals first|exact Aik hc|exact Ail (by assumption) hc|exact Aim hc
def fnz:List Int→Int
 |[]=>0
 |a::l=>Iw a (fnz l)
theorem Aeq {l:List Int} {i:Nat} (h:i<l.length):fnz (l.drop i)=Iw l[i] (fnz (l.drop (i+1))):=by
 rw[List.drop_eq_getElem_cons h];rfl
theorem orV {l:List Int} {nn:Bool} (hl:l.length<2^62):Ae (Ad tab) 121 [.sl nn (vs (.int .i64) l)] (· =.int .i64 (fnz l)):=by
 refine Ac rfl rfl ?_
 (conv=>whnf);repeat' (first|((first|refine kA ?_|(apply Br.mk<;>intro hc))<;>first|exact hc.elim|conv=>whnf)|refine kB ?_)
 refine Ag (fun m env s=>∃i:Nat,m=l.length-i∧fnz (l.drop i)=fnz l∧env=[(3,.int .i64 0),(6,.sl nn (vs (.int .i64) l)),(7,.int .i64 l.length),(8,.int .i64 i)]∧s=⟨[],0⟩) ?_ _ _ _ ⟨0,rfl,by simp,by first|rfl|(rw [← lV (f:=.int .i64) l];rfl),rfl⟩
 rintro _ _ _ ⟨i,rfl,hx,rfl,rfl⟩
 refine⟨rfl,?_⟩
 by_cases hlt:i<l.length
 ·rw[Aeq hlt]at hx
  unfold Iw at hx
  (conv=>whnf);repeat' (first|((first|refine kA ?_|(apply Br.mk<;>intro hc))<;>first|exact hc.elim|conv=>whnf)|refine kB ?_)
  all_goals first
   |(rw [if_pos (by assumption)]at hx;exact again.mk ⟨_,by omega,i+1,rfl,hx,rfl,rfl⟩)
   |(rw [if_neg (by assumption)]at hx;rw[← hx];rfl)
 ·rw[List.drop_eq_nil_of_le (by omega)]at hx
  (conv=>whnf);repeat' (first|((first|refine kA ?_|(apply Br.mk<;>intro hc))<;>first|exact hc.elim|conv=>whnf)|refine kB ?_)
  all_goals first|(rw [← hx];rfl)
theorem Aer {p t e:Prop} [Decidable p] (h1:p→t) (h2:¬p→e):Jz (decide p) t e:=
 JA (fun h=>h1 (of_decide_eq_true h)) (fun h=>h2 (of_decide_eq_false h))
theorem Aes {p t e:Prop} [Decidable p] (h1:p→e) (h2:¬p→t):Jz (decide (¬ p)) t e:=
 JA (fun h=>h2 (of_decide_eq_true h)) (fun h=>h1 (Decidable.not_not.1 (of_decide_eq_false h)))
end
section
open Go.Sort
def NI (x y:GR):Int:=Iw (GK x.k y.k) (Iw (cS x.name y.name) (Iw (cS x.key y.key) (Iw (GK x.n y.n) (Iw (cS x.fr y.fr) (cS x.to y.to)))))
theorem H7:PC NI:=(Ada.on GR.k).lex ((SI.on GR.name).lex ((SI.on GR.key).lex ((Ada.on GR.n).lex ((SI.on GR.fr).lex (SI.on GR.to)))))
theorem Qs {x y:GR}:NI x y=0↔x=y:=by
 unfold NI
 simp only[AbF,Gj,Rx]
 constructor
 ·rintro⟨h1,h2,h3,h4,h5,h6⟩
  cases x;cases y
  simp only[GR.mk.injEq]
  exact⟨h1,h4,h2,h3,h5,h6⟩
 ·rintro rfl
  exact⟨rfl,rfl,rfl,rfl,rfl,rfl⟩
def BX (x y:GR):Bool:=decide (NI x y<0)
theorem Nq {x y:GR}:BX x y=true↔NI x y<0:=by unfold BX;rw[decide_eq_true_eq]
theorem Ov {x y:GR}:BX x y=false↔0≤NI x y:=by unfold BX;rw[decide_eq_false_iff_not];omega
theorem Es:SWO BX where
 irrefl x:=Ov.2 (by have:=H7.anti x x;omega)
 trans x y z h1 h2:=Nq.2 (by
  have a:=Nq.1 h1
  have b:=Nq.1 h2
  have h3:=H7.trans x y z (by omega) (by omega)
  have h4:=H7.trans z x y
  have h5:=H7.anti x z
  have h6:=H7.anti y z
  omega)
 ntrans x y z h1 h2:=Ov.2 (by
  have a:=Ov.1 h1
  have b:=Ov.1 h2
  have h3:=H7.trans z y x
  have h4:=H7.anti x y
  have h5:=H7.anti y z
  have h6:=H7.anti x z
  omega)
theorem Aas (x y:GR) (h1:BX x y=false) (h2:BX y x=false):x=y:=Qs.1 (by
 have a:=Ov.1 h1
 have b:=Ov.1 h2
 have:=H7.anti x y
 omega)
theorem BQ (x:GR):x.av.cells.length=6:=rfl
instance:Inhabited GR:=⟨⟨0,0,[],[],[],[]⟩⟩
theorem Ajx {x y:List UInt8}:Ae (Ad tab) 86 [.str x,.str y] (· =.int .i64 (cS x y)):=by
 refine Ac rfl rfl ?_
 (conv=>whnf);repeat' (first|((first|refine kA ?_|(apply Br.mk<;>intro hc))<;>first|exact hc.elim|conv=>whnf)|refine kB ?_)
 all_goals first|exact Aik hc|exact Ail (by assumption) hc|exact Aim hc
theorem D6 {x y:GR}:Ae (Ad tab) 56 [x.av,y.av] (· =.int .i64 (NI x y)):=by
 have ho:Ae (Ad tab) 121 [.sl true [.int .i64 (GK x.k y.k),.int .i64 (cS x.name y.name),.int .i64 (cS x.key y.key),.int .i64 (GK x.n y.n),.int .i64 (cS x.fr y.fr),.int .i64 (cS x.to y.to)]] (· =.int .i64 (NI x y)):=by
  have h:=orV (l:=[GK x.k y.k,cS x.name y.name,cS x.key y.key,GK x.n y.n,cS x.fr y.fr,cS x.to y.to]) (nn:=true) (by simp)
  have e:fnz [GK x.k y.k,cS x.name y.name,cS x.key y.key,GK x.n y.n,cS x.fr y.fr,cS x.to y.to]=NI x y:=by
   unfold NI
   simp only[fnz]
   congr 1;congr 1;congr 1;congr 1;congr 1
   unfold Iw;split<;>omega
  rw[e]at h
  exact h
 refine Ac rfl rfl ?_
 (conv=>whnf);repeat' (first|((first|refine kE compare ?_|refine kE Xx ?_|refine kE ho ?_|refine kA ?_|(apply Br.mk<;>intro hc))<;>first|exact hc.elim|conv=>whnf)|refine kB ?_)
 all_goals first|rfl
set_option maxHeartbeats 2000000 in
theorem Agk {x y:GR}:Ae (Ad tab) 38 [x.av,y.av] (· =.int .i64 (NI x y)):=by
 refine Ac rfl rfl ?_
 (conv=>whnf);repeat' (first|((first|refine kE Ajx ?_|refine kA ?_|(apply Br.mk<;>intro hc))<;>first|exact hc.elim|conv=>whnf)|refine kB ?_)
 all_goals
  refine congrArg (AV.int .i64) (?_:_=NI x y)
  unfold NI Iw GK
  first|grind
theorem Hr {x y:GR} {A B:Prop} (h1:BX x y=true→A) (h2:BX x y=false→B):NV (NI x y<0) A B:=
 ⟨fun h=>h1 (decide_eq_true h),fun h=>h2 (decide_eq_false h)⟩
instance:DecidableEq GR:=fun x y=>if h:x.k=y.k∧x.n=y.n∧x.name=y.name∧x.key=y.key∧x.fr=y.fr∧x.to=y.to then .isTrue (by cases x;cases y;simp_all)else .isFalse (by rintro rfl;exact h ⟨rfl,rfl,rfl,rfl,rfl,rfl⟩)
theorem eqR (x y:GR):bin .eql (.flat [.int,.int,.str,.str,.str,.str]) (.agg (List.take 6 x.av.cells)) (.agg (List.take 6 y.av.cells))=some (.bool (decide (x=y))):=by
 obtain⟨k,n,a,b,c,d⟩:=x
 obtain⟨k',n',a',b',c',d'⟩:=y
 have e:∀z z':Int,(z==z')=decide (z=z'):=fun z z'=>by by_cases h:z=z'<;>simp[h]
 have e2:∀z z':List UInt8,(z==z')=decide (z=z'):=fun z z'=>by by_cases h:z=z'<;>simp[h]
 by_cases h1:k=k'<;>by_cases h2:n=n'<;>by_cases h3:a=a'<;>by_cases h4:b=b'<;>by_cases h5:c=c'<;>by_cases h6:d=d'<;>simp[bin,Uy,Jg,Dh,GR.av,AV.cells,e,e2,h1,h2,h3,h4,h5,h6]
theorem neR (x y:GR):bin .neq (.flat [.int,.int,.str,.str,.str,.str]) (.agg (List.take 6 x.av.cells)) (.agg (List.take 6 y.av.cells))=some (.bool (decide (¬ x=y))):=by
 obtain⟨k,n,a,b,c,d⟩:=x
 obtain⟨k',n',a',b',c',d'⟩:=y
 have e:∀z z':Int,(z==z')=decide (z=z'):=fun z z'=>by by_cases h:z=z'<;>simp[h]
 have e2:∀z z':List UInt8,(z==z')=decide (z=z'):=fun z z'=>by by_cases h:z=z'<;>simp[h]
 by_cases h1:k=k'<;>by_cases h2:n=n'<;>by_cases h3:a=a'<;>by_cases h4:b=b'<;>by_cases h5:c=c'<;>by_cases h6:d=d'<;>simp[bin,Uy,Jg,Dh,GR.av,AV.cells,e,e2,h1,h2,h3,h4,h5,h6]
attribute [irreducible] BX NI
end
theorem ZU {a:AV} (h:Like Tryz.prog 26 a):∃nn l,a=.sl nn (vs GR.av l)∧(nn=false→l=[])∧Ln l∧∀y∈l,y.ok:=by
 obtain⟨d,h⟩:=h
 obtain⟨d',_,nn,xs,rfl,h1,h2,h3⟩:=TA Tryz.underlying26 h
 obtain⟨l,rfl,h4⟩:=Ld (f:=GR.av) (Q:=GR.ok) fun x hx=>by
  obtain⟨cs,rfl,h0⟩:=Fq Tryz.underlying44 (h3 x hx)
  obtain⟨r,rfl,hr⟩:=Ue h0
  exact⟨r,rfl,hr⟩
 exact⟨nn,l,rfl,fun h=>by have:=h1 h;simpa using this,Va (by simpa using h2),h4⟩
def okR (l:List GR) (j:Nat):Prop:=∀h:j<l.length,Dt l[j]=0∧(0<j→NI (l[j-1]'(by omega)) l[j]<0)
def Du (l:List GR):Prop:=l.length≤40∧∀j,j<l.length→okR l j
noncomputable instance (l:List GR):Decidable (Du l):=Classical.propDecidable _
theorem Agi {l:List GR} {nn:Bool} (hl:l.length<2^62) (hok:∀r∈l,r.ok):Ae (Ad tab) 51 [.sl nn (vs GR.av l)] (· =.bool (decide (Du l))):=by
 refine Ac rfl rfl ?_
 (conv=>whnf);repeat' (first|((first|refine kA ?_|(apply Br.mk<;>intro hc))<;>first|exact hc.elim|conv=>whnf)|refine kB ?_)
 refine Ag (fun m env s=>∃i c:Nat,m=l.length-i∧env=[(0,.sl nn (vs GR.av l)),(5,.sl nn (vs GR.av l)),(6,.int .i64 l.length),(7,.int .i64 i)]∧s=⟨[],c⟩∧∀j,j<i→okR l j) ?_ _ _ _ ⟨0,0,rfl,rfl,rfl,fun j h=>absurd h (by omega)⟩
 rintro _ _ _ ⟨i,c,rfl,rfl,rfl,hx⟩
 refine⟨rfl,?_⟩
 by_cases hlt:i<l.length
 ·have hr:=NQ (hok _ (List.getElem_mem hlt))
  by_cases h0:i=0
  ·subst h0
   (conv=>whnf);repeat' (first|((first|refine kE hr ?_|refine kA ?_|(apply Br.mk<;>intro hc))<;>first|exact hc.elim|conv=>whnf)|refine kB ?_)
   all_goals first
        |exact again.mk ⟨_,by omega,1,_,rfl,rfl,rfl,fun j hj=>by
          obtain rfl:j=0:=by omega
          exact fun _=>⟨by omega,fun h=>absurd h (by omega)⟩⟩
        |exact Au fun h=>absurd (h.2 0 hlt hlt).1 (by omega)
        |(exfalso;omega)
  ·have ho:=D6 (x:=l[i-1]'(by omega)) (y:=l[i])
   (conv=>whnf);repeat' (first|((first|refine kE hr ?_|refine kE ho ?_|(apply Af;(· exact nVz (i-1) (by omega) (by omega)))|refine kA ?_|(apply Br.mk<;>intro hc))<;>first|exact hc.elim|conv=>whnf)|refine kB ?_)
   all_goals first
        |exact again.mk ⟨_,by omega,i+1,_,rfl,rfl,rfl,fun j hj=>by
          rcases Nat.lt_or_ge j i with h|h
          ·exact hx j h
          ·obtain rfl:j=i:=by omega
           exact fun _=>⟨by omega,fun _=>by omega⟩⟩
        |exact Au fun h=>by have:=h.2 i hlt hlt;omega
        |(exfalso;omega)
 ·(conv=>whnf);repeat' (first|((first|refine kA ?_|(apply Br.mk<;>intro hc))<;>first|exact hc.elim|conv=>whnf)|refine kB ?_)
  all_goals first
   |exact Bd ⟨by omega,fun j hj=>hx j (by omega)⟩
   |exact Au fun h=>absurd h.1 (by omega)
   |exact Agp ⟨fun h=>⟨by omega,fun j hj=>hx j (by omega)⟩,fun h=>by have:=h.1;omega⟩
theorem AlP {l:List GR} {nn:Bool} (hl:l.length<2^62) (hok:∀r∈l,r.ok):Ae (Ad tab) 15 [.sl nn (vs GR.av l)] (· =.bool (decide (Du l))):=by
 refine Ac rfl rfl ?_
 (conv=>whnf);repeat' (first|((first|refine kA ?_|(apply Br.mk<;>intro hc))<;>first|exact hc.elim|conv=>whnf)|refine kB ?_)
 ·exact Au fun h=>by have:=h.1;omega
 refine Ag (fun m env s=>∃i:Nat,m=l.length-i∧env=[(0,.sl nn (vs GR.av l)),(3,.int .i64 i)]∧s=⟨[],0⟩∧∀j,j<i→okR l j) ?_ _ _ _ ⟨0,rfl,rfl,rfl,fun j h=>absurd h (by omega)⟩
 rintro _ _ _ ⟨i,rfl,rfl,rfl,hx⟩
 refine⟨rfl,?_⟩
 by_cases hlt:i<l.length
 ·have hr:=Aih (hok _ (List.getElem_mem hlt))
  by_cases h0:i=0
  ·subst h0
   (conv=>whnf);repeat' (first|((first|refine kE hr ?_|refine kA ?_|(apply Br.mk<;>intro hc))<;>first|exact hc.elim|conv=>whnf)|refine kB ?_)
   all_goals first
        |exact again.mk ⟨_,by omega,1,rfl,rfl,rfl,fun j hj=>by
          obtain rfl:j=0:=by omega
          exact fun _=>⟨by omega,fun h=>absurd h (by omega)⟩⟩
        |exact Au fun h=>absurd (h.2 0 hlt hlt).1 (by omega)
        |(exfalso;omega)
  ·have ho:=Agk (x:=l[i-1]'(by omega)) (y:=l[i])
   (conv=>whnf);repeat' (first|((first|refine kE hr ?_|refine kE ho ?_|(apply Af;(· exact nVz (i-1) (by omega) (by omega)))|refine kA ?_|(apply Br.mk<;>intro hc))<;>first|exact hc.elim|conv=>whnf)|refine kB ?_)
   all_goals first
        |exact again.mk ⟨_,by omega,i+1,rfl,rfl,rfl,fun j hj=>by
          rcases Nat.lt_or_ge j i with h|h
          ·exact hx j h
          ·obtain rfl:j=i:=by omega
           exact fun _=>⟨by omega,fun _=>by omega⟩⟩
        |exact Au fun h=>by have:=h.2 i hlt hlt;omega
        |(exfalso;omega)
 ·(conv=>whnf);repeat' (first|((first|refine kA ?_|(apply Br.mk<;>intro hc))<;>first|exact hc.elim|conv=>whnf)|refine kB ?_)
  all_goals first
   |exact Bd ⟨by omega,fun j hj=>hx j (by omega)⟩
theorem AmZ {l:List GR} (h:Du l) {j:Nat} (h1:j+1<l.length):BX l[j] l[j+1]=true:=Nq.2 ((h.2 (j+1) h1 h1).2 (by omega))
theorem AeY {l:List GR} (h:Du l):l.Pairwise fun x y=>BX x y=true:=by
 rw[List.pairwise_iff_getElem]
 have:∀d i (hd:i+d+1<l.length),BX l[i] l[i+d+1]=true:=by
  intro d
  induction d with
  |zero=>exact fun i hd=>AmZ h hd
  |succ d ih=>exact fun i hd=>Es.trans _ _ _ (ih i (by omega)) (AmZ h (j:=i+d+1) hd)
 intro i j hi hj hij
 obtain⟨d,rfl⟩:∃d,j=i+d+1:=⟨j-i-1,by omega⟩
 exact this d i hj
structure AeZ (l:List GR) (x:GR) (z:Nat):Prop where
 le:z≤l.length
 lo:∀k (h:k<l.length),k<z→BX l[k] x=true
 hi:∀k (h:k<l.length),z≤k→BX l[k] x=false
theorem AeZ.mem {l:List GR} {x:GR} {z:Nat} (h:AeZ l x z) (hs:l.Pairwise fun x y=>BX x y=true):x∈l↔∃h:z<l.length,l[z]=x:=by
 constructor
 ·intro hx
  obtain⟨k,hk,e⟩:=List.getElem_of_mem hx
  have h1:¬k<z:=fun hlt=>by have:=h.lo k hk hlt;rw[e,Es.irrefl]at this;cases this
  have h2:¬z<k:=fun hlt=>by
   have a:=List.pairwise_iff_getElem.1 hs z k (by omega) hk hlt
   rw[e]at a
   have b:=h.hi z (by omega) (by omega)
   rw[a]at b;cases b
  obtain rfl:k=z:=by omega
  exact⟨hk,e⟩
 ·rintro⟨h1,e⟩
  rw[← e];exact List.getElem_mem h1
theorem bsR {l:List GR} {nn:Bool} {x:GR} (hl:l.length<2^61) (hs:l.Pairwise fun x y=>BX x y=true):Ae (Ad tab) 114 [.sl nn (vs GR.av l),x.av,.fn 56 []] (fun v=>∃(z:Nat) (b:Bool),v=.BD [.int .i64 z,.bool b]∧AeZ l x z∧(b=true↔x∈l)):=by
 refine Ac rfl rfl ?_
 (conv=>whnf);repeat' (first|((first|refine kA ?_|(apply Br.mk<;>intro hc))<;>first|exact hc.elim|conv=>whnf)|refine kB ?_)
 refine Ag (fun m env s=>∃(i j:Nat),m=j-i∧i≤j∧j≤l.length∧env=[(0,.sl nn (vs GR.av l)),(2,.fn 56 []),(4,.ref 0 0 0 0),(8,.int .i64 l.length),(9,.int .i64 i),(10,.int .i64 j)]∧s=⟨[.arr 0 6 true true [x.av]],1⟩∧
  (∀ k (h:k<l.length),k<i→BX l[k] x=true)∧(∀ k (h:k<l.length),j≤k→BX l[k] x=false)) ?_ _ _ _ ⟨0,l.length,rfl,by omega,by omega,by simp,rfl,fun k _ h=>absurd h (by omega),fun k h1 h=>absurd h (by omega)⟩
 rintro _ _ _ ⟨i,j,rfl,hij,hj,rfl,rfl,h1,h2⟩
 refine⟨rfl,?_⟩
 by_cases hlt:i<j
 ·have ho:=D6 (x:=l[(i+j) / 2]'(by omega)) (y:=x)
  (conv=>whnf);repeat' (first|((first|refine UQ (i+j) (by omega) (by omega) ?_|(apply Cb;(· exact Abr _))|refine kE ho ?_|refine kA ?_|(apply Br.mk<;>intro hc))<;>first|exact hc.elim|conv=>whnf)|refine kB ?_)
  all_goals first
   |(have hm:=Nq.2 hc
     exact again.mk ⟨_,by omega,(i+j) / 2+1,j,rfl,by omega,hj,rfl,rfl,fun k hk hlt=>by
      rcases Nat.lt_or_ge k ((i+j) / 2)with h|h
      ·exact Es.trans _ _ _ (List.pairwise_iff_getElem.1 hs k ((i+j) / 2) hk (by omega) h) hm
      ·obtain rfl:k=(i+j) / 2:=by omega
       exact hm,h2⟩)
   |(have hm:BX (l[(i+j) / 2]'(by omega)) x=false:=Ov.2 (by omega)
     exact again.mk ⟨_,by omega,i,(i+j) / 2,rfl,by omega,by omega,rfl,rfl,h1,fun k hk hle=>by
      rcases Nat.lt_or_ge ((i+j) / 2) k with h|h
      ·have a:=List.pairwise_iff_getElem.1 hs ((i+j) / 2) k (by omega) hk h
       cases e:BX l[k] x with
       |false=>rfl
       |true=>rw[Es.trans _ _ _ a e]at hm;cases hm
      ·obtain rfl:k=(i+j) / 2:=by omega
       exact hm⟩)
 ·obtain rfl:i=j:=by omega
  have hp:AeZ l x i:=⟨hj,h1,fun k hk h=>h2 k hk h⟩
  by_cases hi:i<l.length
  ·have ho:=D6 (x:=l[i]) (y:=x)
   (conv=>whnf);repeat' (first|((first|refine kE ho ?_|refine kA ?_|(apply Br.mk<;>intro hc))<;>first|exact hc.elim|conv=>whnf)|refine kB ?_)
   all_goals first
        |exact⟨_,_,rfl,hp,fun _=>(hp.mem hs).2 ⟨hi,Qs.1 hc⟩,fun _=>rfl⟩
        |exact⟨_,_,rfl,hp,fun h=>(Bool.noConfusion h),fun h=>absurd (Qs.2 ((hp.mem hs).1 h).2) hc⟩
  ·(conv=>whnf);repeat' (first|((first|refine kA ?_|(apply Br.mk<;>intro hc))<;>first|exact hc.elim|conv=>whnf)|refine kB ?_)
   all_goals first
        |exact⟨_,_,rfl,hp,fun h=>(Bool.noConfusion h),fun h=>absurd ((hp.mem hs).1 h).1 hi⟩
theorem O8 {α:Type} {p:α→Bool} {l:List α} {i:Nat} (hi:i<l.length) (h:∀x∈l.take i,p x=false) (hp:p l[i]=true):l.find? p=some l[i]:=by
 have e:l=l.take i++l[i]::l.drop (i+1):=by rw[← List.drop_eq_getElem_cons hi,List.take_append_drop]
 have h1:(l.take i).find? p=none:=List.find?_eq_none.2 fun x hx=>by simp[h x hx]
 refine(congrArg (List.find? p) e).trans ?_
 rw[List.find?_append,h1,List.find?_cons_of_pos hp]
 rfl
theorem WS {α:Type} {p:α→Bool} {l:List α} (h:∀x∈l,p x=false):l.find? p=none:=List.find?_eq_none.2 fun x hx=>by simp[h x hx]
theorem WT {α:Type} {p:α→Bool} {l:List α} {i:Nat} (hi:i<l.length) (h:∀x∈l.take i,p x=false) (hp:p l[i]=false):∀x∈l.take (i+1),p x=false:=Bl hi h hp
def Gx:Nat→AV→Prop
 |0,_=>False
 |d+1,a=>∃g:GV,a=g.av∧g.ok∧g.s.length≤101000∧g.l.length≤2000∧∀x∈g.l,Gx d x
theorem wei:∀(d:Nat),d≤12→∀{g:GV} (hg:g.ok) {left:Int} (h1:-184467440737095530≤left) (h2:left≤2000),
 Ae (Ad tab) 88 [g.av,.int .i64 left,.int .i64 d] (fun v=>∃r,v=.int .i64 r∧-368934881474191048≤r∧r≤1999∧(0≤r→r+1≤left∧Gx d g.av)):=by
 intro d
 induction d with
 |zero=>
  intro _ g hg left h1 h2
  obtain⟨g1,g2,g3,g4,g5,g6,g7⟩:=hg
  unfold Ln at g4 g5
  refine Ac rfl rfl ?_
  (conv=>whnf);repeat' (first|((first|refine kA ?_|(apply Br.mk<;>intro hc)|refine VD (by omega) ?_)<;>first|exact hc.elim|conv=>whnf)|refine kB ?_)
  all_goals exact⟨_,rfl,by omega,by omega,fun h=>absurd h (by omega)⟩
 |succ d ih=>
  intro hd g hg left h1 h2
  obtain⟨g1,g2,g3,g4,g5,g6,g7⟩:=hg
  unfold Ln at g4 g5
  refine Ac rfl rfl ?_
  (conv=>whnf);repeat' (first|((first|refine kA ?_|(apply Br.mk<;>intro hc)|refine VD (by omega) ?_)<;>first|exact hc.elim|conv=>whnf)|refine kB ?_)
  have hw:∀{g:GV} (hg:g.ok) {left:Int} (h1:-184467440737095530≤left) (h2:left≤2000),
        Ae (Ad tab) 88 [g.av,.int .i64 left,.int .i64 (((d+1:Nat):Int)-1)] (fun v=>∃r,v=.int .i64 r∧-368934881474191048≤r∧r≤1999∧(0≤r→r+1≤left∧Gx d g.av)):=by
   rw[show ((d+1:Nat):Int)-1=(d:Int) by omega]
   exact ih (by omega)
  refine Ag (fun m env s=>∃(i:Nat) (cur:Int),m=g.l.length-i∧env=[(1,.int .i64 cur),(2,.int .i64 (d+1:Nat)),(3,.ref 0 0 0 0),(7,.int .i64 i)]∧s=⟨[.arr 0 5 true true [g.av]],1⟩∧
   -368934881474191048≤cur∧cur≤1999∧(0≤cur→cur+i+g.s.length / 50+1≤left∧∀x∈g.l.take i,Gx d x)) ?_ _ _ _ ⟨0,_,rfl,rfl,rfl,by omega,by omega,fun h=>⟨by omega,by simp⟩⟩
  rintro _ _ _ ⟨i,cur,rfl,rfl,rfl,b1,b2,hx⟩
  refine⟨rfl,?_⟩
  obtain⟨gx,hgx⟩:=DX g7 i
  (conv=>whnf);repeat' (first|((first|refine kA ?_|(apply Br.mk<;>intro hc)|(apply Af;(· exact(hgx (by omega)).1)))<;>first|exact hc.elim|conv=>whnf)|refine kB ?_)
  ·obtain⟨_,ge,gl⟩:=hgx (by omega)
   refine Aa (hw gl (by omega) (by omega)) ?_
   rintro _ ⟨r,rfl,r1,r2,r3⟩
   (conv=>whnf);repeat' (first|((first|refine kA ?_|(apply Br.mk<;>intro hc))<;>first|exact hc.elim|conv=>whnf)|refine kB ?_)
   exact again.mk ⟨_,by omega,i+1,r,rfl,rfl,rfl,by omega,by omega,fun h=>⟨by have:=hx (by omega);have:=r3 h;omega,Bl (by omega) (hx (by omega)).2 (ge▸(r3 h).2)⟩⟩
  ·exact⟨_,rfl,by omega,by omega,fun h=>absurd h (by omega)⟩
  ·refine⟨_,rfl,by omega,by omega,fun h=>?_⟩
   obtain⟨x1,x2⟩:=hx h
   rw[BN hc]at x2
   exact⟨by omega,g,rfl,⟨g1,g2,g3,g4,g5,g6,g7⟩,by omega,by omega,x2⟩
def AiG (ps:List GP):Prop:=ps.length≤2000∧∀p∈ps,p.ok∧Gx 12 p.v.av
theorem Ny {d:Nat} {a:AV} (h:Gx d a):∃g:GV,a=g.av∧g.ok∧g.l.length≤2000∧∃d',d=d'+1∧∀x∈g.l,Gx d' x:=by
 cases d with
 |zero=>cases h
 |succ d=>
  obtain⟨g,e,h1,h2,h3,h4⟩:=h
  exact⟨g,e,h1,h3,d,rfl,h4⟩
theorem Ahd {d:Nat} {l:List AV} (h:∀x∈l,Gx d x) (i:Nat):∃g:GV,∀hi:i<l.length,nth l (Int.toNat (Nat.cast i))=some g.av∧l[i]=g.av∧g.ok∧Gx d g.av:=by
 by_cases hi:i<l.length
 ·obtain⟨g,e,hg,_⟩:=Ny (h _ (List.getElem_mem hi))
  exact⟨g,fun _=>⟨by rw[← e];exact nR hi,e,hg,e▸h _ (List.getElem_mem hi)⟩⟩
 ·exact⟨⟨0,0,0,[],true,[]⟩,fun h=>absurd h hi⟩
theorem Jy {g es:Nat} {ys:List AV} {bytes:Nat} {K:Nat→Bool→Bool→List AV→Prop} (hs:Bc es ys) (hr:ys.length*bytes≤2 ^ 46) (h:K ys.length true true ys):
 IW g g es es 0 true true true [] ys bytes K:=by
 refine⟨⟨rfl,rfl,by simp,hs,?_⟩,?_⟩
 ·rw[Nat.zero_add];exact Jq hr
 ·rw[Nat.zero_add];exact h
theorem AhT:Ar (Ad tab) 240 [.sl false []] ⟨[],0⟩ fun out _=>out=.ok (.sl false []):=by
 refine Ai rfl rfl ?_
 (conv=>whnf);repeat' (first|((first|refine kA ?_|(apply Br.mk<;>intro hc))<;>first|exact hc.elim|conv=>whnf)|refine kB ?_)
 rfl
theorem Ak7 {l:List AV} (hs:Bc 5 l) (hl:l.length≤2000):Ar (Ad tab) 240 [.sl true l] ⟨[],0⟩ fun out s'=>∃o g,out=.ok (.own o g 0 l.length)∧nth s'.σ o=some (.arr g 5 true true l):=by
 refine Ai rfl rfl ?_
 (conv=>whnf);repeat' (first|((first|refine kA ?_|(apply Br.mk<;>intro hc))<;>first|exact hc.elim|conv=>whnf)|refine kB ?_)
 refine Jy hs (by omega) ?_
 (conv=>whnf);repeat' (first|((first|refine kA ?_|(apply Br.mk<;>intro hc))<;>first|exact hc.elim|conv=>whnf)|refine kB ?_)
 exact⟨_,_,rfl,rfl⟩
theorem Acm {d:Nat} {l:List AV} (h:∀x∈l,Gx d x):Bc 5 l:=by
 intro x hx
 obtain⟨g,rfl,_⟩:=Ny (h x hx)
 rfl
theorem UU {l:List AV} {z:Nat} {x:AV} (h:nth l z=some x):l.set z x=l:=by
 rw[AU]at h
 obtain⟨hz,rfl⟩:=List.getElem?_eq_some_iff.1 h
 exact List.set_getElem_self hz
theorem AcX (l:List AV):sub l 0 l.length=l:=by unfold sub;exact List.take_of_length_le (by simp)
theorem Acn {d:Nat} {g:GV} (hg:g.ok) (h2:g.l.length≤2000) (h3:∀x∈g.l,Gx d x) (ih:∀{g:GV},g.ok→Gx d g.av→Ae (Ad tab) 177 [g.av] (· =g.av)):
 Ae (Ad tab) 177 [g.av] (· =g.av):=by
 obtain⟨g1,g2,g3,g4,g5,g6,g7⟩:=hg
 obtain⟨k,n,dd,s,nn,l⟩:=g
 simp only at*
 cases nn with
 |false=>
  obtain rfl:=g6 rfl
  refine Ac rfl rfl ?_
  (conv=>whnf);repeat' (first|((first|refine kA ?_|(apply Br.mk<;>intro hc))<;>first|exact hc.elim|conv=>whnf)|refine kB ?_)
  refine FW rfl AhT ?_
  (conv=>whnf);repeat' (first|((first|refine kA ?_|(apply Br.mk<;>intro hc))<;>first|exact hc.elim|conv=>whnf)|refine kB ?_)
  refine DR ?_ rfl
  (conv=>whnf);repeat' (first|((first|refine kA ?_|(apply Br.mk<;>intro hc))<;>first|exact hc.elim|conv=>whnf)|refine kB ?_)
  rfl
 |true=>
  refine Ac rfl rfl ?_
  (conv=>whnf);repeat' (first|((first|refine kA ?_|(apply Br.mk<;>intro hc))<;>first|exact hc.elim|conv=>whnf)|refine kB ?_)
  refine RY rfl (Ak7 (Acm h3) h2) ?_
  (conv=>whnf);repeat' (first|((first|refine kA ?_|(apply Br.mk<;>intro hc))<;>first|exact hc.elim|conv=>whnf)|refine kB ?_)
  refine Ag (fun m env st=>∃i:Nat,m=l.length-i∧env=[(1,.ref 0 0 0 0),(2,.ref 1 1 0 0),(10,.int .i64 l.length),(11,.int .i64 i)]∧st=⟨[.arr 0 5 true false [.agg [.int .i64 k,.int .i64 n,.int .i64 dd,.str s,.own 2 2 0 l.length]],.arr 1 5 true true [.agg [.int .i64 0,.int .i64 0,.int .i64 0,.str [],.sl false []]],.arr 2 5 true true l],3⟩) ?_ _ _ _ ⟨0,rfl,rfl,rfl⟩
  rintro _ _ _ ⟨i,rfl,rfl,rfl⟩
  refine⟨rfl,?_⟩
  unfold Ln at g5
  obtain⟨gx,hgx⟩:=Ahd h3 i
  (conv=>whnf);repeat' (first|((first|(apply Af;(· exact(hgx (by omega)).1))|refine kE (ih (g:=gx) (hgx (by omega)).2.2.1 (hgx (by omega)).2.2.2) ?_|(apply Cb;(· exact UU (x:=gx.av) (hgx (by omega)).1))|refine kA ?_|(apply Br.mk<;>intro hc))<;>first|exact hc.elim|conv=>whnf)|refine kB ?_)
  ·exact again.mk ⟨_,by omega,i+1,rfl,rfl,rfl⟩
  ·rw[AcX];rfl
theorem RZ:∀(d:Nat) {g:GV},g.ok→Gx d g.av→Ae (Ad tab) 177 [g.av] (· =g.av)
 |0,_,_,h=>by cases h
 |d+1,g,hg,h=>by
  obtain⟨g',e,h1,h2,d',e2,h3⟩:=Ny h
  obtain rfl:d=d':=by omega
  have:g.l=g'.l:=by injection e with e;simp only[List.cons.injEq,AV.sl.injEq]at e;exact e.2.2.2.2.1.2
  exact Acn hg (by rw[this];exact h2) (by rw[this];exact h3) (RZ d)
def V0:GV:=⟨0,0,0,[],false,[]⟩
def isK (k:List UInt8) (p:GP):Bool:=decide (p.key=k)
def Yo (l:List GP) (k:List UInt8):AV:=match l.find? (isK k)with
 |some n=>n.v.av
 |none=>V0.av
theorem Aix:Ae (Ad tab) 99 [] (· =V0.av):=by
 refine Ac rfl rfl ?_
 (conv=>whnf);repeat' (first|((first|refine kA ?_|(apply Br.mk<;>intro hc))<;>first|exact hc.elim|conv=>whnf)|refine kB ?_)
 rfl
theorem Aiw {l:List GP} {nn:Bool} (hl:l.length<2^63) (hg:∀p∈l,p.ok∧Gx 12 p.v.av) {k:List UInt8}:Ae (Ad tab) 113 [.sl nn (vs GP.av l),.str k] (· =Yo l k):=by
 refine Ac rfl rfl ?_
 (conv=>whnf);repeat' (first|((first|refine kA ?_|(apply Br.mk<;>intro hc))<;>first|exact hc.elim|conv=>whnf)|refine kB ?_)
 refine Ag (fun m env s=>∃i c:Nat,m=l.length-i∧(∀ x∈l.take i,isK k x=false)∧env=[(1,.str k),(4,.ref 0 0 0 0),(7,.sl nn (vs GP.av l)),(8,.int .i64 l.length),(9,.int .i64 i)]∧s=⟨[.arr 0 5 true true [.agg [.int .i64 0,.int .i64 0,.int .i64 0,.str [],.sl false []]]],c⟩) ?_ _ _ _ ⟨0,_,rfl,by simp,by rw[← lV (f:=GP.av) l];rfl,rfl⟩
 rintro _ _ _ ⟨i,c,rfl,hx,rfl,rfl⟩
 refine⟨rfl,?_⟩
 have ho:∀h:i<l.length,(l[i]).v.ok∧Gx 12 (l[i]).v.av:=fun h=>⟨(hg _ (List.getElem_mem h)).1.2,(hg _ (List.getElem_mem h)).2⟩
 (conv=>whnf);repeat' (first|((first|refine kA ?_|(apply Br.mk<;>intro hc)|refine kE (RZ 12 (g:=l[i].v) (ho (by omega)).1 (ho (by omega)).2) ?_|refine kE Aix ?_)<;>first|exact hc.elim|conv=>whnf)|refine kB ?_)
 ·rw[Yo,O8 (by omega) hx (decide_eq_true hc)];rfl
 ·exact again.mk ⟨_,by omega,i+1,_,rfl,WT (by omega) hx (decide_eq_false hc),rfl,rfl⟩
 ·rw[BN hc]at hx
  rw[Yo,WS hx];rfl
theorem AoU {l:List (List UInt8)} {x:List UInt8} {nn:Bool} (hl:l.length<2^63):Ae (Ad tab) 173 [.sl nn (vs .str l),.str x] (fun v=>∃z,v=.int .i64 z∧(0≤z↔x∈l)):=by
 refine Ac rfl rfl ?_
 (conv=>whnf);repeat' (first|((first|refine kA ?_|(apply Br.mk<;>intro hc))<;>first|exact hc.elim|conv=>whnf)|refine kB ?_)
 refine Ag (fun m env s=>∃i:Nat,m=l.length-i∧env=[(0,.sl nn (vs .str l)),(1,.str x),(7,.int .i64 l.length),(8,.int .i64 i)]∧s=⟨[],0⟩∧x∉l.take i) ?_ _ _ _ ⟨0,rfl,by simp,rfl,by simp⟩
 rintro _ _ _ ⟨i,rfl,rfl,rfl,hx⟩
 refine⟨rfl,?_⟩
 (conv=>whnf);repeat' (first|((first|refine kA ?_|(apply Br.mk<;>intro hc))<;>first|exact hc.elim|conv=>whnf)|refine kB ?_)
 ·subst hc;exact⟨_,rfl,by simp⟩
 ·exact again.mk ⟨_,by omega,i+1,rfl,rfl,rfl,nms (by omega) hx (fun h=>hc h.symm)⟩
 ·rw[BN hc]at hx;exact⟨_,rfl,by simp[hx]⟩
theorem AeC {l:List (List UInt8)} {x:List UInt8} {nn:Bool} (hl:l.length<2^63):Ae (Ad tab) 105 [.sl nn (vs .str l),.str x] (· =.bool (decide (x∈l))):=by
 refine Ac rfl rfl ?_
 (conv=>whnf);repeat' (first|((first|refine kA ?_|(apply Br.mk<;>intro hc))<;>first|exact hc.elim|conv=>whnf)|refine kB ?_)
 refine Aa (AoU hl) ?_
 rintro _ ⟨z,rfl,hz⟩
 (conv=>whnf);repeat' (first|((first|refine kA ?_|(apply Br.mk<;>intro hc))<;>first|exact hc.elim|conv=>whnf)|refine kB ?_)
 ·exact Bd (hz.1 hc)
 ·exact Au (mt hz.2 hc)
theorem AoI {l:List (List UInt8)} {x:List UInt8} {nn:Bool} (hl:l.length<2^63):Ae (Ad tab) 89 [.sl nn (vs .str l),.str x] (· =.bool (decide (x∈l))):=by
 refine Ac rfl rfl ?_
 (conv=>whnf);repeat' (first|((first|refine kA ?_|(apply Br.mk<;>intro hc))<;>first|exact hc.elim|conv=>whnf)|refine kB ?_)
 refine Ag (fun m env s=>∃i:Nat,m=l.length-i∧env=[(0,.sl nn (vs .str l)),(1,.str x),(5,.int .i64 i)]∧s=⟨[],0⟩∧x∉l.take i) ?_ _ _ _ ⟨0,rfl,rfl,rfl,by simp⟩
 rintro _ _ _ ⟨i,rfl,rfl,rfl,hx⟩
 refine⟨rfl,?_⟩
 (conv=>whnf);repeat' (first|((first|refine kA ?_|(apply Br.mk<;>intro hc))<;>first|exact hc.elim|conv=>whnf)|refine kB ?_)
 ·subst hc;exact Bd (by simp)
 ·exact again.mk ⟨_,by omega,i+1,rfl,rfl,rfl,nms (by omega) hx hc⟩
 ·rw[BN hc]at hx;exact Au hx
theorem Nk {n:GN} {s:List UInt8} (hl:n.labels.length<2^63):Ae (Ad tab) 42 [n.av,.str s] (· =.bool (decide (s∈n.labels))):=by
 refine Ac rfl rfl ?_
 (conv=>whnf);repeat' (first|((first|refine kA ?_|(apply Br.mk<;>intro hc)|refine Aq (AoI hl) (fun hc=>?_) (fun hc=>?_))<;>first|exact hc.elim|conv=>whnf)|refine kB ?_)
 all_goals first|exact Bd (by assumption)|exact Au (by assumption)
theorem I8 {n:GN} {s:List UInt8} (hl:n.labels.length<2^63):Ae (Ad tab) 110 [n.av,.str s] (· =.bool (decide (s∈n.labels))):=by
 refine Ac rfl rfl ?_
 (conv=>whnf);repeat' (first|((first|refine kA ?_|(apply Br.mk<;>intro hc)|refine Aq (AeC hl) (fun hc=>?_) (fun hc=>?_))<;>first|exact hc.elim|conv=>whnf)|refine kB ?_)
 all_goals first|exact Bd (by assumption)|exact Au (by assumption)
end AI
end Go.Proofs.YtjijnamhalgamaaGreatDoor
