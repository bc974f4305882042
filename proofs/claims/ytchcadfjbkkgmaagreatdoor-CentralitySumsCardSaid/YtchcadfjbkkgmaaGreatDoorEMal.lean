/- Valid fractions: the program's. Valid fractions: the reference's. The program's wide numbers: products, sums, signs; fractions compared. The reference's wide numbers: they are reckoned without a panic. The reference's numbers, classes, strings compared. The reference's comparison of a fraction with itself. Numbers by their digits to the base 1000: plain. The reference's wide numbers: what their product and their order are. Fractions compared: the program's way and the reference's. frac.Of, frac.Add of the program. Closeness: the program's. -/
import Derived.Test.YtchcadfjbkkgmaaGreatDoorEMak
import Derived.Test.YtchcadfjbkkgmaaGreatDoorEMai
import Derived.Test.YtchcadfjbkkgmaaGreatDoorEMac
import Derived.Test.YtchcadfjbkkgmaaGreatDoorEMaj
import Derived.Test.YtchcadfjbkkgmaaGreatDoorEMag
import Derived.Test.YtchcadfjbkkgmaaGreatDoorEMaf
set_option linter.unusedVariables false
set_option maxRecDepth 4000
namespace Go.Proofs.YtchcadfjbkkgmaaGreatDoor
namespace AI
theorem XD (x y:Nat):Nat.gcd y (x % y)=Nat.gcd x y:=by
 rw[Nat.gcd_comm x y,Nat.gcd_rec y x,Nat.gcd_comm]
theorem absP {n:Int} (h:KI n):Ah (Ac tab) 107 [.int .i64 n] (· =.int .i64 n.natAbs):=by
 unfold KI at h
 have e:(if 0-n>n then 0-n else n)=(n.natAbs:Int):=by split<;>omega
 refine Ae rfl rfl ?_
 (conv=>whnf);repeat' (first  |(refine kA ?_;conv=>whnf)|(refine Br.mk (fun hc=>?_) fun hc=>?_<;>first|exact hc.elim|conv=>whnf)|(refine kB ?_))
 rw[← e];rfl
theorem Afn {n d:Int} (hn:KI n) (hd:KI d):Ah (Ac tab) 69 [.int .i64 n,.int .i64 d] (· =.int .i64 (Nat.gcd n.natAbs d.natAbs)):=by
 have hn':=hn
 have hd':=hd
 unfold KI at hn' hd'
 refine Ae rfl rfl ?_
 (conv=>whnf);repeat' (first|(refine CU (inP (n:=n)) (fun hr=>?_) (fun hr=>absurd hn hr);conv=>whnf)|(refine CU (inP (n:=d)) (fun hr=>?_) (fun hr=>absurd hd hr);conv=>whnf)|((first|refine Aa (absP hn) ?_|refine Aa (absP hd) ?_);rintro _ rfl;conv=>whnf)|(refine kA ?_;conv=>whnf)|(refine Br.mk (fun hc=>?_) fun hc=>?_<;>first|exact hc.elim|conv=>whnf)|(refine kB ?_))
 refine Aj (fun m env s=>∃(x y:Nat),m=1*y∧x<2^63∧y<2^63∧Nat.gcd x y=Nat.gcd n.natAbs d.natAbs∧env=[(0,.int .i64 x),(1,.int .i64 y)]∧s=⟨[],0⟩) ?_ _ _ _ ⟨n.natAbs,d.natAbs,(Nat.one_mul _).symm,by omega,by omega,rfl,rfl,rfl⟩
 clear hn hd hn' hd'
 rintro m _ _ ⟨x,y,hm,hx,hy,hg,rfl,rfl⟩
 have hm2:y=m:=by omega
 subst hm2
 refine⟨rfl,?_⟩
 (conv=>whnf);repeat' (first  |(refine kA ?_;conv=>whnf)|(refine Br.mk (fun hc=>?_) fun hc=>?_<;>first|exact hc.elim|conv=>whnf)|(refine kB ?_))
 ·have h0:y=0:=by omega
  subst h0
  rw[Nat.gcd_zero_right]at hg
  rw[← hg];rfl
 ·have h0:0<y:=by omega
  have:=Nat.mod_lt x h0
  exact again.mk ⟨_,this,y,x % y,(Nat.one_mul _).symm,hy,by omega,by rw[XD];exact hg,by rw[Int.ofNat_tmod],rfl⟩
theorem Adp {n d:Int} (h:¬(1≤d∧d≤1000000000000000∧KI n)):¬VF n d:=fun hv=>h ⟨hv.1,hv.2.1,hv.2.2.1⟩
theorem fvP {n d:Int}:Ah (Ac tab) 71 [.agg [.int .i64 n,.int .i64 d]] (· =.bool (decide (VF n d))):=by
 by_cases h:1≤d∧d≤1000000000000000∧KI n
 ·obtain⟨h1,h2,h3⟩:=h
  have hg:=Afn h3 (show KI d by unfold KI;omega)
  refine Ae rfl rfl ?_
  (conv=>whnf);repeat' (first|(refine CU (inP (n:=n)) (fun hr=>?_) (fun hr=>absurd h3 hr);conv=>whnf)|(refine Aa hg ?_;rintro _ rfl;conv=>whnf)|(refine kA ?_;conv=>whnf)|(refine Br.mk (fun hc=>?_) fun hc=>?_<;>first|exact hc.elim|conv=>whnf)|(refine kB ?_))
  all_goals first
   |exact BP ⟨h1,h2,h3,by omega⟩
   |exact Bf fun hv=>by have:=hv.2.2.2;omega
   |trace_state
 ·have hno:=Adp h
  have hnr:¬KI n∨¬(1≤d∧d≤1000000000000000):=by
   by_cases h3:KI n
   ·exact .inr fun h12=>h ⟨h12.1,h12.2,h3⟩
   ·exact .inl h3
  refine Ae rfl rfl ?_
  (conv=>whnf);repeat' (first|(refine CU (inP (n:=n)) (fun hr=>?_) (fun hr=>?_)<;>conv=>whnf)|(refine kA ?_;conv=>whnf)|(refine Br.mk (fun hc=>?_) fun hc=>?_<;>first|exact hc.elim|conv=>whnf)|(refine kB ?_))
  all_goals first
   |exact Bf hno
   |(exfalso;rcases hnr with h|h;exact h hr;omega)
   |trace_state
theorem Ahq {a b:Nat} (ha:a<2^63) (hb:b<2^63):Ah (Ac tab) 41 [.int .i64 a,.int .i64 b] (· =.int .i64 (Nat.gcd a b)):=by
 refine Ae rfl rfl ?_
 (conv=>whnf);repeat' (first  |(refine kA ?_;conv=>whnf)|(refine Br.mk (fun hc=>?_) fun hc=>?_<;>first|exact hc.elim|conv=>whnf)|(refine kB ?_))
 refine Aj (fun m env s=>∃(x y:Nat),m=1*y∧x<2^63∧y<2^63∧Nat.gcd x y=Nat.gcd a b∧env=[(0,.int .i64 x),(1,.int .i64 y)]∧s=⟨[],0⟩) ?_ _ _ _ ⟨a,b,(Nat.one_mul _).symm,ha,hb,rfl,rfl,rfl⟩
 clear ha hb
 rintro m _ _ ⟨x,y,hm,hx,hy,hg,rfl,rfl⟩
 have hm2:y=m:=by omega
 subst hm2
 refine⟨rfl,?_⟩
 (conv=>whnf);repeat' (first  |(refine kA ?_;conv=>whnf)|(refine Br.mk (fun hc=>?_) fun hc=>?_<;>first|exact hc.elim|conv=>whnf)|(refine kB ?_))
 ·have h0:0<y:=by omega
  have:=Nat.mod_lt x h0
  exact again.mk ⟨_,this,y,x % y,(Nat.one_mul _).symm,hy,by omega,by rw[XD];exact hg,by rw[Int.ofNat_tmod],rfl⟩
 ·have h0:y=0:=by omega
  subst h0
  rw[Nat.gcd_zero_right]at hg
  rw[← hg];rfl
theorem fvR {n d:Int}:Ah (Ac tab) 40 [.agg [.int .i64 n,.int .i64 d]] (· =.bool (decide (VF n d))):=by
 by_cases h:1≤d∧d≤1000000000000000∧KI n
 ·obtain⟨h1,h2,h3⟩:=h
  have h3':=h3
  unfold KI at h3'
  obtain⟨dn,rfl⟩:∃k:Nat,d=k:=⟨d.toNat,by omega⟩
  obtain⟨_,⟨z,rfl,z0,z1⟩,hz⟩:=(size (n:=n) (by omega) (by omega)).YO
  obtain⟨zn,rfl⟩:∃k:Nat,z=k:=⟨z.toNat,by omega⟩
  have hzn:zn=n.natAbs:=by omega
  have hg:=Ahq (a:=zn) (b:=dn) (by omega) (by omega)
  refine Ae rfl rfl ?_
  (conv=>whnf);repeat' (first|((first|refine Aa hz ?_|refine Aa hg ?_);rintro _ rfl;conv=>whnf)|(refine kA ?_;conv=>whnf)|(refine Br.mk (fun hc=>?_) fun hc=>?_<;>first|exact hc.elim|conv=>whnf)|(refine kB ?_))
  all_goals first
   |exact BP ⟨h1,h2,h3,by rw[← hzn,Int.natAbs_natCast];omega⟩
   |exact Bf fun hv=>by have:=hv.2.2.2;rw[← hzn]at this;simp only[Int.natAbs_natCast]at this;omega
   |trace_state
 ·have hno:=Adp h
  refine Ae rfl rfl ?_
  (conv=>whnf);repeat' (first  |(refine kA ?_;conv=>whnf)|(refine Br.mk (fun hc=>?_) fun hc=>?_<;>first|exact hc.elim|conv=>whnf)|(refine kB ?_))
  all_goals first
   |exact Bf hno
   |(exfalso;refine h ⟨by omega,by omega,?_⟩;unfold KI;omega)
   |trace_state
def wd (b:Bool) (m:Nat):AV:=.agg [.bool b,.int .u64 ((m / 18446744073709551616:Nat):Int),.int .u64 ((m % 18446744073709551616:Nat):Int)]
theorem wU {z:Int} {K:AV→Prop} (y:Int) (h:z % 18446744073709551616=y) (hk:K (.int .u64 y)):Jh .u64 z K:=by
 subst h
 refine CW ?_ hk
 simp[IntKind.wrap,IntKind.bits,IntKind.signed]
theorem Afr (n:Nat):(BitVec.ofInt 64 (n:Int)).toNat=n % 18446744073709551616:=by simp
theorem Ahz (n:Nat):IntKind.u64.wrap (BitVec.ofInt IntKind.u64.bits (n:Int) &&& BitVec.ofInt IntKind.u64.bits 4294967295).toNat=((n % 4294967296:Nat):Int):=by
 show IntKind.u64.wrap (BitVec.ofInt 64 (n:Int) &&& BitVec.ofInt 64 ((4294967295:Nat):Int)).toNat=_
 rw[BitVec.toNat_and,Afr,Afr]
 have:(n % 18446744073709551616) &&& (4294967295 % 18446744073709551616)=n % 4294967296:=by
  rw[show (4294967295 % 18446744073709551616:Nat)=2 ^ 32-1 by rfl,Nat.and_two_pow_sub_one_eq_mod]
  omega
 rw[this]
 simp[IntKind.wrap,IntKind.bits,IntKind.signed]
 omega
theorem or0 {a b:Nat} (ha:a<18446744073709551616) (hb:b<18446744073709551616):IntKind.u64.wrap (BitVec.ofInt IntKind.u64.bits (a:Int) ||| BitVec.ofInt IntKind.u64.bits (b:Int)).toNat=0↔a=0∧b=0:=by
 show IntKind.u64.wrap (BitVec.ofInt 64 (a:Int) ||| BitVec.ofInt 64 (b:Int)).toNat=0↔_
 have h:=(BitVec.ofInt 64 (a:Int) ||| BitVec.ofInt 64 (b:Int)).isLt
 have e:IntKind.u64.wrap (BitVec.ofInt 64 (a:Int) ||| BitVec.ofInt 64 (b:Int)).toNat=((BitVec.ofInt 64 (a:Int) ||| BitVec.ofInt 64 (b:Int)).toNat:Int):=by
  simp only[IntKind.wrap,IntKind.bits,IntKind.signed,Bool.false_and,Bool.false_eq_true,if_false]
  omega
 rw[e,BitVec.toNat_or,Afr,Afr,Nat.mod_eq_of_lt ha,Nat.mod_eq_of_lt hb]
 constructor
 ·intro h
  have h:a ||| b=0:=by omega
  exact Nat.or_eq_zero_iff.1 h
 ·rintro⟨rfl,rfl⟩;rfl
theorem Tf (n:Nat):((n:Int)).fdiv (2 ^ (min (Int.toNat 32) IntKind.u64.bits))=((n / 4294967296:Nat):Int):=by
 rw[show (2:Int) ^ (min (Int.toNat 32) IntKind.u64.bits)=4294967296 by rfl,Int.fdiv_eq_ediv_of_nonneg _ (by omega)]
 rfl
theorem mulN {a b:Nat} {A B:Nat} (ha:a≤A) (hb:b≤B) (h:A*B<18446744073709551616):((a:Int)*(b:Int)) % 18446744073709551616=((a*b:Nat):Int):=by
 have:a*b≤A*B:=Nat.mul_le_mul ha hb
 rw[Int.natCast_mul]
 have h2:((a*b:Nat):Int)<18446744073709551616:=by omega
 rw[← Int.natCast_mul]
 omega
theorem Afs (x0 x1 y0 y1:Nat):(x1*4294967296+x0)*(y1*4294967296+y0)=x1*y1*18446744073709551616+(x1*y0+x0*y1)*4294967296+x0*y0:=by
 rw[Nat.add_mul,Nat.mul_add,Nat.mul_add]
 have e1:x1*4294967296*(y1*4294967296)=x1*y1*18446744073709551616:=by
  rw[Nat.mul_mul_mul_comm]
 have e2:x1*4294967296*y0=x1*y0*4294967296:=by rw[Nat.mul_right_comm]
 have e3:x0*(y1*4294967296)=x0*y1*4294967296:=by rw[Nat.mul_assoc]
 rw[e1,e2,e3]
 omega
theorem AhA {x y:Nat} (hx:x<2^60) (hy:y<2^60):Ah (Ac tab) 108 [.int .u64 x,.int .u64 y] (· =.CP [.int .u64 ((x*y / 18446744073709551616:Nat):Int),.int .u64 ((x*y % 18446744073709551616:Nat):Int)]):=by
 obtain⟨x0,hx0⟩:∃x0,x % 4294967296=x0:=⟨_,rfl⟩
 obtain⟨x1,hx1⟩:∃x1,x / 4294967296=x1:=⟨_,rfl⟩
 obtain⟨y0,hy0⟩:∃y0,y % 4294967296=y0:=⟨_,rfl⟩
 obtain⟨y1,hy1⟩:∃y1,y / 4294967296=y1:=⟨_,rfl⟩
 have bx0:x0≤4294967295:=by omega
 have bx1:x1≤268435455:=by omega
 have by0:y0≤4294967295:=by omega
 have by1:y1≤268435455:=by omega
 have ex:=Afs x0 x1 y0 y1
 rw[show x1*4294967296+x0=x by omega,show y1*4294967296+y0=y by omega]at ex
 have p00:=Nat.mul_le_mul bx0 by0
 have p10:=Nat.mul_le_mul bx1 by0
 have p01:=Nat.mul_le_mul bx0 by1
 have p11:=Nat.mul_le_mul bx1 by1
 refine Ae rfl rfl ?_
 conv=>whnf
 repeat (first|(refine Ap (by first|rfl|omega) ?_;conv=>whnf))
 refine A8 ((Ahz x).trans (congrArg _ hx0)) ?_
 conv=>whnf
 repeat (first|(refine Ap (by first|rfl|omega) ?_;conv=>whnf))
 refine A8 ((Tf x).trans (congrArg _ hx1)) ?_
 conv=>whnf
 repeat (first|(refine Ap (by first|rfl|omega) ?_;conv=>whnf))
 refine A8 ((Ahz y).trans (congrArg _ hy0)) ?_
 conv=>whnf
 repeat (first|(refine Ap (by first|rfl|omega) ?_;conv=>whnf))
 refine A8 ((Tf y).trans (congrArg _ hy1)) ?_
 conv=>whnf
 repeat (first|(refine Ap (by first|rfl|omega) ?_;conv=>whnf))
 refine wU _ (mulN bx0 by0 (by decide)) ?_
 conv=>whnf
 repeat (first|(refine Ap (by first|rfl|omega) ?_;conv=>whnf))
 refine wU _ (mulN bx1 by0 (by decide)) ?_
 conv=>whnf
 repeat (first|(refine Ap (by first|rfl|omega) ?_;conv=>whnf))
 refine A8 (Tf _) ?_
 conv=>whnf
 repeat (first|(refine Ap (by first|rfl|omega) ?_;conv=>whnf))
 refine wU ((x1*y0+x0*y0 / 4294967296:Nat):Int) (by omega) ?_
 conv=>whnf
 repeat (first|(refine Ap (by first|rfl|omega) ?_;conv=>whnf))
 refine A8 (Ahz _) ?_
 conv=>whnf
 repeat (first|(refine Ap (by first|rfl|omega) ?_;conv=>whnf))
 refine A8 (Tf _) ?_
 conv=>whnf
 repeat (first|(refine Ap (by first|rfl|omega) ?_;conv=>whnf))
 refine wU _ (mulN bx0 by1 (by decide)) ?_
 conv=>whnf
 repeat (first|(refine Ap (by first|rfl|omega) ?_;conv=>whnf))
 refine wU (((x1*y0+x0*y0 / 4294967296) % 4294967296+x0*y1:Nat):Int) (by omega) ?_
 conv=>whnf
 repeat (first|(refine Ap (by first|rfl|omega) ?_;conv=>whnf))
 refine wU _ (mulN bx1 by1 (by decide)) ?_
 conv=>whnf
 repeat (first|(refine Ap (by first|rfl|omega) ?_;conv=>whnf))
 refine wU ((x1*y1+(x1*y0+x0*y0 / 4294967296) / 4294967296:Nat):Int) (by omega) ?_
 conv=>whnf
 repeat (first|(refine Ap (by first|rfl|omega) ?_;conv=>whnf))
 refine A8 (Tf _) ?_
 conv=>whnf
 repeat (first|(refine Ap (by first|rfl|omega) ?_;conv=>whnf))
 refine wU ((x1*y1+(x1*y0+x0*y0 / 4294967296) / 4294967296+((x1*y0+x0*y0 / 4294967296) % 4294967296+x0*y1) / 4294967296:Nat):Int) (by omega) ?_
 conv=>whnf
 repeat (first|(refine Ap (by first|rfl|omega) ?_;conv=>whnf))
 refine wU ((x*y % 18446744073709551616:Nat):Int) (by rw[← Int.natCast_mul];omega) ?_
 conv=>whnf
 rw[ex]
 repeat (refine Dl rfl ?_;conv=>whnf)
 have e1:∀z z':Nat,z=z'→∀w:AV,AV.CP [.int .u64 ((z:Nat):Int),w]=.CP [.int .u64 ((z':Nat):Int),w]:=fun z z' h w=>by rw[h]
 exact e1 _ _ (by omega) _
theorem Aav {n:Int} (h:KI n):n.natAbs≤1000000000000000:=by unfold KI at h;omega
theorem Agp {n:Int} (h:KI n):Ah (Ac tab) 109 [.int .i64 n] (· =.int .u64 (n.natAbs:Int)):=by
 unfold KI at h
 refine Ae rfl rfl ?_
 (conv=>whnf);repeat' (first|(refine wU (n+18446744073709551616) (by omega) ?_;conv=>whnf)|(refine wU (n.natAbs:Int) (by omega) ?_;conv=>whnf)|(refine kA ?_;conv=>whnf)|(refine Br.mk (fun hc=>?_) fun hc=>?_<;>first|exact hc.elim|conv=>whnf)|(refine kB ?_))
 all_goals first|rfl
theorem Ti {b:Bool} {m:Nat} {x y:Int} {c:Bool} (h1:b=c) (h2:((m / 18446744073709551616:Nat):Int)=x) (h3:((m % 18446744073709551616:Nat):Int)=y):AV.agg [.bool c,.int .u64 x,.int .u64 y]=wd b m:=by
 subst h1 h2 h3;rfl
theorem XG {a b:Int} (ha:KI a) (hb:KI b):Ah (Ac tab) 72 [.int .i64 a,.int .i64 b] (· =wd (decide (a<0) != decide (b<0)) (a.natAbs*b.natAbs)):=by
 have h1:=Aav ha
 have h2:=Aav hb
 have h3:=AhA (x:=a.natAbs) (y:=b.natAbs) (by omega) (by omega)
 refine Ae rfl rfl ?_
 (conv=>whnf);repeat' (first|((first|refine Aa (Agp ha) ?_|refine Aa (Agp hb) ?_|refine Aa h3 ?_);rintro _ rfl;conv=>whnf)|(refine kA ?_;conv=>whnf)|(refine Br.mk (fun hc=>?_) fun hc=>?_<;>first|exact hc.elim|conv=>whnf)|(refine kB ?_))
 all_goals first
  |exact Ti (by rw[decide_eq_true (show a<0 by omega),decide_eq_true (show b<0 by omega)];rfl) rfl rfl
  |exact Ti (by rw[decide_eq_true (show a<0 by omega),decide_eq_false (show ¬b<0 by omega)];rfl) rfl rfl
  |exact Ti (by rw[decide_eq_false (show ¬a<0 by omega),decide_eq_true (show b<0 by omega)];rfl) rfl rfl
  |exact Ti (by rw[decide_eq_false (show ¬a<0 by omega),decide_eq_false (show ¬b<0 by omega)];rfl) rfl rfl
theorem Ajy {x y c:Nat} (hc:c≤1):Ah (Ac tab) 110 [.int .u64 x,.int .u64 y,.int .u64 c] (· =.CP [.int .u64 (((x+y+c) % 18446744073709551616:Nat):Int),.int .u64 (((x+y+c) / 18446744073709551616:Nat):Int)]):=by
 refine PX (sp:=addSpec) (v:=.CP [.int .u64 (((x+y+c) % 18446744073709551616:Nat):Int),.int .u64 (((x+y+c) / 18446744073709551616:Nat):Int)]) (s:=⟨[],0⟩) rfl ?_ rfl rfl
 show(if 0≤(x:Int)∧0≤(y:Int)∧0≤(c:Int)∧(c:Int)≤1 then _ else _)=_
 rw[if_pos ⟨by omega,by omega,by omega,by omega⟩]
 rfl
theorem Aft {x y c:Nat} (hc:c≤1) (h:y+c≤x+18446744073709551616):Ah (Ac tab) 112 [.int .u64 x,.int .u64 y,.int .u64 c] (· =.CP [.int .u64 (((x+18446744073709551616-y-c) % 18446744073709551616:Nat):Int),.int .u64 ((if x<y+c then 1 else 0:Nat):Int)]):=by
 refine PX (sp:=OH) (v:=.CP [.int .u64 (((x+18446744073709551616-y-c) % 18446744073709551616:Nat):Int),.int .u64 ((if x<y+c then 1 else 0:Nat):Int)]) (s:=⟨[],0⟩) rfl ?_ rfl rfl
 show(if 0≤(x:Int)∧0≤(y:Int)∧0≤(c:Int)∧(c:Int)≤1∧(y:Int)+c≤x+m64 then _ else _)=_
 rw[if_pos ⟨by omega,by omega,by omega,by omega,by unfold m64;omega⟩]
 have e1:((x:Int)+m64-y-c) % m64=(((x+18446744073709551616-y-c) % 18446744073709551616:Nat):Int):=by
  unfold m64;omega
 have e2:(if (x:Int)<y+c then(1:Int)else 0)=((if x<y+c then 1 else 0:Nat):Int):=by
  split<;>split<;>omega
 rw[e1,e2]
theorem Agq {a b:Bool} {m n:Nat}:Ah (Ac tab) 111 [wd a m,wd b n] (· =.bool (decide (m<n))):=by
 refine Ae rfl rfl ?_
 (conv=>whnf);repeat' (first  |(refine kA ?_;conv=>whnf)|(refine Br.mk (fun hc=>?_) fun hc=>?_<;>first|exact hc.elim|conv=>whnf)|(refine kB ?_))
 all_goals first|exact BP (by omega)|exact Bf (by omega)
def Zi (a:Bool) (m:Nat) (b:Bool) (n:Nat):AV:=if a=b then wd a (m+n)else if m<n then wd b (n-m)else wd a (m-n)
theorem Ajz {a b:Bool} {m n:Nat} (hm:m<2^120) (hn:n<2^120):Ah (Ac tab) 73 [wd a m,wd b n] (· =Zi a m b n):=by
 have c1:=Ajy (x:=m % 18446744073709551616) (y:=n % 18446744073709551616) (c:=0) (by omega)
 have c2:=Ajy (x:=m / 18446744073709551616) (y:=n / 18446744073709551616) (c:=(m % 18446744073709551616+n % 18446744073709551616+0) / 18446744073709551616) (by omega)
 have d1:=Aft (x:=m % 18446744073709551616) (y:=n % 18446744073709551616) (c:=0) (by omega) (by omega)
 have d2:=Aft (x:=m / 18446744073709551616) (y:=n / 18446744073709551616) (c:=if m % 18446744073709551616<n % 18446744073709551616+0 then 1 else 0) (by split<;>omega) (by split<;>omega)
 have f1:=Aft (x:=n % 18446744073709551616) (y:=m % 18446744073709551616) (c:=0) (by omega) (by omega)
 have f2:=Aft (x:=n / 18446744073709551616) (y:=m / 18446744073709551616) (c:=if n % 18446744073709551616<m % 18446744073709551616+0 then 1 else 0) (by split<;>omega) (by split<;>omega)
 by_cases hab:a=b
 ·have e:Zi a m b n=wd a (m+n):=if_pos hab
  rw[e]
  subst hab
  cases a
  all_goals
   refine Ae rfl rfl ?_
   (conv=>whnf);repeat' (first|((first|refine Aa c1 ?_|refine Aa c2 ?_);rintro _ rfl;conv=>whnf)|(refine kA ?_;conv=>whnf)|(refine Br.mk (fun hc=>?_) fun hc=>?_<;>first|exact hc.elim|conv=>whnf)|(refine kB ?_))
   all_goals first|(show AV.agg [.bool _,.int .u64 ((_:Nat):Int),.int .u64 ((_:Nat):Int)]=wd _ _;exact Ti rfl (by omega) (by omega))
 by_cases hlt:m<n
 ·have e:Zi a m b n=wd b (n-m):=by unfold Zi;rw[if_neg hab,if_pos hlt]
  have hl:Ah (Ac tab) 111 [wd a m,wd b n] (· =.bool true):=by
   have:=Agq (a:=a) (b:=b) (m:=m) (n:=n);rwa [decide_eq_true hlt]at this
  rw[e]
  cases a<;>cases b<;>(try exact absurd rfl hab)
  all_goals
   refine Ae rfl rfl ?_
   (conv=>whnf);repeat' (first|((first|refine Aa hl ?_|refine Aa f1 ?_|refine Aa f2 ?_);rintro _ rfl;conv=>whnf)|(refine kA ?_;conv=>whnf)|(refine Br.mk (fun hc=>?_) fun hc=>?_<;>first|exact hc.elim|conv=>whnf)|(refine kB ?_))
   all_goals first|(show AV.agg [.bool _,.int .u64 ((_:Nat):Int),.int .u64 ((_:Nat):Int)]=wd _ _;exact Ti rfl (by split<;>omega) (by omega))
 ·have e:Zi a m b n=wd a (m-n):=by unfold Zi;rw[if_neg hab,if_neg hlt]
  have hl:Ah (Ac tab) 111 [wd a m,wd b n] (· =.bool false):=by
   have:=Agq (a:=a) (b:=b) (m:=m) (n:=n);rwa [decide_eq_false hlt]at this
  rw[e]
  cases a<;>cases b<;>(try exact absurd rfl hab)
  all_goals
   refine Ae rfl rfl ?_
   (conv=>whnf);repeat' (first|((first|refine Aa hl ?_|refine Aa d1 ?_|refine Aa d2 ?_);rintro _ rfl;conv=>whnf)|(refine kA ?_;conv=>whnf)|(refine Br.mk (fun hc=>?_) fun hc=>?_<;>first|exact hc.elim|conv=>whnf)|(refine kB ?_))
   all_goals first|(show AV.agg [.bool _,.int .u64 ((_:Nat):Int),.int .u64 ((_:Nat):Int)]=wd _ _;exact Ti rfl (by split<;>omega) (by omega))
def sgW (a:Bool) (m:Nat):Int:=if m=0 then 0 else if a=true then -1 else 1
theorem AjA {a:Bool} {m:Nat} (hm:m<2^127):Ah (Ac tab) 74 [wd a m] (· =.int .i64 (sgW a m)):=by
 obtain⟨z,hz,hz0⟩:∃z,IntKind.u64.wrap (BitVec.ofInt IntKind.u64.bits ((m / 18446744073709551616:Nat):Int) ||| BitVec.ofInt IntKind.u64.bits ((m % 18446744073709551616:Nat):Int)).toNat=z∧(z=0↔m=0):=⟨_,rfl,by
  rw[or0 (by omega) (by omega)];omega⟩
 refine Ae rfl rfl ?_
 (conv=>whnf);repeat' (first|(refine A8 hz ?_;conv=>whnf)|(refine kA ?_;conv=>whnf)|(refine Br.mk (fun hc=>?_) fun hc=>?_<;>first|exact hc.elim|conv=>whnf)|(refine kB ?_))
 all_goals first
  |exact congrArg (AV.int .i64) (by unfold sgW;rw[if_pos (by omega)])
  |exact congrArg (AV.int .i64) (by unfold sgW;rw[if_neg (by omega),if_pos (by assumption)])
  |exact congrArg (AV.int .i64) (by unfold sgW;rw[if_neg (by omega)];simp_all)
def Qm (l:List Int):Prop:=l.length=14∧∀x∈l,0≤x∧x≤999
theorem Qm.set {l:List Int} (h:Qm l) {k:Nat} {y:Int} (hy:0≤y∧y≤999):Qm (l.set k y):=by
 refine⟨by rw[List.length_set];exact h.1,fun x hx=>?_⟩
 rcases List.mem_or_eq_of_mem_set hx with hx|rfl
 ·exact h.2 x hx
 ·exact hy
theorem UR {d e:Int} (h1:0≤d) (h2:d≤999) (h3:0≤e) (h4:e≤999):0≤d*e∧d*e≤998001:=
 ⟨Int.mul_nonneg h1 h3,by
  have:=Int.mul_le_mul h2 h4 h3 (by omega:(0:Int)≤999)
  omega⟩
theorem tmE {c:Int} (h:0≤c):c.tmod 1000=c % 1000:=Int.tmod_eq_emod_of_nonneg h
theorem tdE {c:Int} (h:0≤c):c.tdiv 1000=c / 1000:=Int.tdiv_eq_ediv_of_nonneg h
def Left (j:Nat) (c:Int):Prop:=0≤c∧((j=0∧c<1000000000000000000)∨(j=1∧c<1000000000000000)∨(j=2∧c<1000000000000)∨(j=3∧c<1000000000)∨(j=4∧c<1000000)∨(j=5∧c<1000)∨(6≤j∧c=0))
def Carry (j:Nat) (y:Int):Prop:=0≤y∧((j≤6∧y≤999)∨(j=7∧y≤1)∨(j=8∧y=0))
theorem UU {j:Nat} {c:Int} (h:Left j c):Left (j+1) (c.tdiv 1000):=by
 have e:=tdE h.1
 unfold Left at *;omega
theorem Y1 {j:Nat} {c y x d:Int} (h:Left j c) (hy:Carry j y) (hj:0<c∨0<y) (hx:0≤x∧x≤999∧(j=7→x=0)) (hd:0≤d∧d≤999):Carry (j+1) ((y+x+d*c.tmod 1000).tdiv 1000):=by
 have e1:=tmE h.1
 have hm:=h.1
 obtain⟨m1,m2⟩:=UR hd.1 hd.2 (e:=c.tmod 1000) (by omega) (by omega)
 have hy0:=hy.1
 have e2:=tdE (c:=y+x+d*c.tmod 1000) (by omega)
 have hc:c.tmod 1000=0∨j≤5:=by unfold Left at h;omega
 rw[e2]
 rcases hc with h0|h0
 ·have hm0:d*c.tmod 1000=0:=by rw[h0];exact Int.mul_zero _
  rw[hm0]
  unfold Carry Left at *;omega
 ·unfold Carry Left at *;omega
theorem number {g:GV} (hg:g.ok):Ah (Ac tab) 183 [g.av] (fun v=>∃n d b,v=.CP [.agg [.int .i64 n,.int .i64 d],.bool b]):=by
 refine Ae rfl rfl ?_
 (conv=>whnf);repeat' (first|(refine kA ?_;conv=>whnf)|(refine Br.mk (fun hc=>?_) fun hc=>?_<;>first|exact hc.elim|conv=>whnf)|(refine Aa (Valid hg) ?_;rintro _ ⟨b,rfl⟩;conv=>whnf)|(refine kB ?_))
 all_goals exact⟨_,_,_,rfl⟩
def sgn (n:Int):Int:=if n<0 then -1 else if 0<n then 1 else 0
theorem sign {n:Int}:Ah (Ac tab) 43 [.int .i64 n] (· =.int .i64 (sgn n)):=by
 refine Ae rfl rfl ?_
 (conv=>whnf);repeat' (first|(refine kA ?_;conv=>whnf)|(refine Br.mk (fun hc=>?_) fun hc=>?_<;>first|exact hc.elim|conv=>whnf)  |(refine kB ?_))
 all_goals unfold sgn;first|(rw [if_pos (by omega)];rfl)|(rw [if_neg (by omega),if_pos (by omega)];rfl)|(rw [if_neg (by omega),if_neg (by omega)];rfl)
def val:List Int→Int
 |[]=>0
 |x::l=>x+1000*val l
def pw:Nat→Int
 |0=>1
 |k+1=>1000*pw k
theorem VX:∀{l:List Int} {k:Nat} {y:Int} (h:k<l.length),val (l.set k y)=val l+(y-l[k])*pw k
 |[],k,y,h=>by simp at h
 |x::l,0,y,h=>by
  show y+1000*val l=x+1000*val l+(y-x)*1
  omega
 |x::l,k+1,y,h=>by
  have h':k<l.length:=by simpa using h
  have ih:=VX (l:=l) (k:=k) (y:=y) h'
  show x+1000*val (l.set k y)=x+1000*val l+(y-l[k])*(1000*pw k)
  rw[ih,←Int.mul_assoc,Int.mul_comm (y-l[k]) 1000,Int.mul_assoc]
  omega
theorem val_zero:∀n,val (List.replicate n 0)=0
 |0=>rfl
 |n+1=>by
  show 0+1000*val (List.replicate n 0)=0
  rw[val_zero n];rfl
theorem row_step {v x y dd c r y1 c1 m p:Int} (h1:r+1000*y1=y+x+dd*m) (h2:c=1000*c1+m):v+(r-x)*p+y1*(1000*p)+dd*c1*(1000*p)=v+y*p+dd*c*p:=by
 have e1:y1*(1000*p)=(1000*y1)*p:=by rw[← Int.mul_assoc,Int.mul_comm y1 1000]
 have e2:dd*c1*(1000*p)=(1000*(dd*c1))*p:=by rw[← Int.mul_assoc,Int.mul_comm (dd*c1) 1000]
 have e3:dd*c=1000*(dd*c1)+dd*m:=by rw[h2,Int.mul_add,←Int.mul_assoc,Int.mul_comm dd 1000,Int.mul_assoc]
 rw[e1,e2,e3]
 have e4:v+(r-x)*p+1000*y1*p+1000*(dd*c1)*p=v+((r-x)+1000*y1+1000*(dd*c1))*p:=by rw[Int.add_mul,Int.add_mul];omega
 have e5:v+y*p+(1000*(dd*c1)+dd*m)*p=v+(y+(1000*(dd*c1)+dd*m))*p:=by rw[Int.add_mul y];omega
 rw[e4,e5,show(r-x)+1000*y1+1000*(dd*c1)=y+(1000*(dd*c1)+dd*m) by omega]
theorem Ac7 {v a b p m a1 v1:Int} (h:a=1000*a1+m) (hv:v1=v+m*b*p):v1+a1*b*(1000*p)=v+a*b*p:=by
 have e1:a1*b*(1000*p)=(1000*a1)*b*p:=by rw[← Int.mul_assoc,Int.mul_comm (a1*b) 1000,←Int.mul_assoc 1000 a1 b]
 rw[hv,e1,h,Int.add_mul,Int.add_mul]
 omega
theorem Afd {i:Nat} {dd:Int} {A:Int} {l0:List Int} {Q:AL→Env→Ai→Prop} (hi:i≤5) (hl:Qm l0) (hz:∀q (h:q<l0.length),i+7≤q→l0[q]=0) (hd:0≤dd∧dd≤999) {B C:Int} (hB:0≤C∧C≤1000000000000000)
 (hQ:∀(l':List Int) (c k y:Int),Qm l'→(∀ q (h:q<l'.length),i+8≤q→l'[q]=0)→val l'=val l0+dd*C*pw i→Q (.exit 2) [(0,.int .i64 A),(1,.int .i64 B),(5,.own 0 0 0 14),(6,.int .i64 i),(7,.int .i64 dd),(8,.int .i64 c),(9,.int .i64 y),(10,.int .i64 k),(27,.bool false)] ⟨[.arr 0 1 true true (ints l')],1⟩):
 Run (Ac tab) (.loop l44_0_h l44_0_b) [(0,.int .i64 A),(1,.int .i64 B),(5,.own 0 0 0 14),(6,.int .i64 i),(7,.int .i64 dd),(8,.int .i64 C),(9,.int .i64 0),(10,.int .i64 i)] ⟨[.arr 0 1 true true (ints l0)],1⟩ Q:=by
 obtain⟨V,hV⟩:∃V,val l0+dd*C*pw i=V:=⟨_,rfl⟩
 rw[hV]at hQ
 refine Aj (fun m env s=>∃(j k:Nat) (c y:Int) (l:List Int),m=8-j∧k=i+j∧Left j c∧Carry j y∧Qm l∧(∀ q (h:q<l.length),i+7≤q→k≤q→l[q]=0)∧val l+y*pw k+dd*c*pw k=V∧
  env=[(0,.int .i64 A),(1,.int .i64 B),(5,.own 0 0 0 14),(6,.int .i64 i),(7,.int .i64 dd),(8,.int .i64 c),(9,.int .i64 y),(10,.int .i64 k)]∧s=⟨[.arr 0 1 true true (ints l)],1⟩) ?_ _ _ _ ⟨0,i,C,0,l0,rfl,rfl,by unfold Left;omega,by unfold Carry;omega,hl,fun q h h1 h2=>hz q h h1,by rw[Int.zero_mul];omega,rfl,rfl⟩
 clear hl hz hB hV
 rintro _ _ _ ⟨j,k,c,y,l,rfl,hk,hc0,hy,hl,hz,hv,rfl,rfl⟩
 refine⟨rfl,?_⟩
 have hll:=hl.1
 have hj7:0<c∨0<y→j≤7:=by unfold Left Carry at *;omega
 have hk8:k≤i+8:=by unfold Carry at hy;omega
 have c0:=hc0.1
 have y0:=hy.1
 have c1:c<1000000000000000000:=by unfold Left at hc0;omega
 have y1:y≤999:=by unfold Carry at hy;omega
 have e2:=tdE c0
 obtain⟨m0,m1,m2⟩:∃m,dd*c.tmod 1000=m∧0≤m∧m≤998001:=⟨_,rfl,by have:=tmE c0;exact UR hd.1 hd.2 (by omega) (by omega)⟩
 obtain⟨x,hx⟩:∃x:Int,∀h:k<l.length,l[k]=x∧0≤x∧x≤999∧(j=7→x=0):=by
  by_cases h:k<l.length
  ·exact⟨l[k],fun _=>⟨rfl,(hl.2 _ (List.getElem_mem h)).1,(hl.2 _ (List.getElem_mem h)).2,fun h7=>hz k h (by omega) (by omega)⟩⟩
  ·exact⟨0,fun h'=>absurd h' h⟩
 have hkl:0<c∨0<y→k<l.length:=by intro h;have:=hj7 h;omega
 have hq:∀h:k<l.length,(y+x+dd*c.tmod 1000).tdiv 1000=(y+x+dd*c.tmod 1000) / 1000∧0≤y+x+dd*c.tmod 1000∧y+x+dd*c.tmod 1000≤2000000:=by
  intro h
  have h1:=hx h
  have h2:0≤y+x+dd*c.tmod 1000:=by omega
  exact⟨tdE h2,h2,by omega⟩
 clear hj7
 by_cases hstop:0<c∨0<y
 ·have hk1:=hkl hstop
  obtain⟨q1,q2,q3⟩:=hq hk1
  obtain⟨x0,x1,x2,x3⟩:=hx hk1
  have hv2:val (l.set k ((y+x+dd*c.tmod 1000).tmod 1000))+(y+x+dd*c.tmod 1000).tdiv 1000*pw (k+1)+dd*c.tdiv 1000*pw (k+1)=V:=by
   have e3:=tmE q2
   have e4:=tmE c0
   rw[VX hk1,←hv,x0]
   exact row_step (m:=c.tmod 1000) (by omega) (by omega)
  have fin:∀k',k'=(k:Int)+1→again (fun m env s=>∃(j k:Nat) (c y:Int) (l:List Int),m=8-j∧k=i+j∧Left j c∧Carry j y∧Qm l∧(∀ q (h:q<l.length),i+7≤q→k≤q→l[q]=0)∧val l+y*pw k+dd*c*pw k=V∧
        env=[(0,.int .i64 A),(1,.int .i64 B),(5,.own 0 0 0 14),(6,.int .i64 i),(7,.int .i64 dd),(8,.int .i64 c),(9,.int .i64 y),(10,.int .i64 k)]∧s=⟨[.arr 0 1 true true (ints l)],1⟩) (8-j)
        [(0,.int .i64 A),(1,.int .i64 B),(5,.own 0 0 0 14),(6,.int .i64 i),(7,.int .i64 dd),(8,.int .i64 (c.tdiv 1000)),(9,.int .i64 ((y+x+dd*c.tmod 1000).tdiv 1000)),(10,.int .i64 k')] ⟨[.arr 0 1 true true (ints (l.set k ((y+x+dd*c.tmod 1000).tmod 1000)))],1⟩:=by
   intro k' hk'
   have e3:=tmE q2
   refine again.mk ⟨_,?_,j+1,k+1,_,_,_,rfl,by omega,UU hc0,Y1 hc0 hy hstop ⟨x1,x2,x3⟩ hd,hl.set (by rw[e3];omega),fun q h h1 h2=>?_,hv2,by rw[hk'];rfl,rfl⟩
   ·have:j≤7:=by unfold Left Carry at *;omega
    omega
   ·rw[List.length_set]at h
    rw[List.getElem_set_ne (by omega)]
    exact hz q h h1 (by omega)
  clear hx hq hkl hz hl hc0 hy m2 hv hv2
  (conv=>whnf);repeat' (first|(refine kA ?_;conv=>whnf)|(refine Br.mk (fun hc=>?_) fun hc=>?_<;>first|exact hc.elim|conv=>whnf)|(rw [x0];conv=>whnf)|(refine kB ?_))
  all_goals exact fin _ rfl
 ·clear hx hq hkl
  have hv2:val l=V:=by
   obtain rfl:c=0:=by omega
   obtain rfl:y=0:=by omega
   rw[Int.mul_zero,Int.zero_mul]at hv
   omega
  clear hv
  (conv=>whnf);repeat' (first|(refine kA ?_;conv=>whnf)|(refine Br.mk (fun hc=>?_) fun hc=>?_<;>first|exact hc.elim|conv=>whnf)  |(refine kB ?_))
  exact hQ l _ _ _ hl (fun q h h1=>hz q h (by omega) (by omega)) hv2
theorem Ahg {a b:Int} (ha:0≤a∧a≤1000000000000000) (hb:0≤b∧b≤1000000000000000):Ah (Ac tab) 44 [.int .i64 a,.int .i64 b] (fun v=>∃l,v=WV true l∧Qm l∧val l=a*b):=by
 obtain⟨V,hV⟩:∃V,a*b=V:=⟨_,rfl⟩
 rw[hV]
 refine Ae rfl rfl ?_
 (conv=>whnf);repeat' (first|(refine kA ?_;conv=>whnf)|(refine Br.mk (fun hc=>?_) fun hc=>?_<;>first|exact hc.elim|conv=>whnf)  |(refine kB ?_))
 refine Aj (fun m env s=>∃(i:Nat) (a:Int) (l:List Int),m=7-i∧i≤6∧Left i a∧Qm l∧(∀ q (h:q<l.length),i+7≤q→l[q]=0)∧val l+a*b*pw i=V∧env=[(0,.int .i64 a),(1,.int .i64 b),(5,.own 0 0 0 14),(6,.int .i64 i)]∧s=⟨[.arr 0 1 true true (ints l)],1⟩) ?_ _ _ _ ⟨0,a,List.replicate 14 0,rfl,by omega,by unfold Left;omega,⟨by simp,by intro x hx;have:=List.eq_of_mem_replicate hx;omega⟩,fun q h _=>List.getElem_replicate _,by rw[val_zero];show 0+a*b*1=V;omega,rfl,rfl⟩
 clear ha hV a
 rintro _ _ _ ⟨i,a,l,rfl,hi,hL,hl,hz,hv,rfl,rfl⟩
 refine⟨rfl,?_⟩
 have a0:=hL.1
 have e1:=tmE a0
 have e2:=tdE a0
 have a1:a<1000000000000000000:=by unfold Left at hL;omega
 have hst:∀v1,v1=val l+a.tmod 1000*b*pw i→v1+a.tdiv 1000*b*pw (i+1)=V:=fun v1 h=>by
  rw[← hv]
  exact Ac7 (by omega) h
 have hend:¬0<a→val l=V:=fun h=>by
  obtain rfl:a=0:=by omega
  rw[Int.zero_mul,Int.zero_mul]at hv
  omega
 clear hv
 (conv=>whnf);repeat' (first|(refine kA ?_;conv=>whnf)|(refine Br.mk (fun hc=>?_) fun hc=>?_<;>first|exact hc.elim|conv=>whnf)  |(refine kB ?_))
 ·have hi5:i≤5:=by unfold Left at hL;omega
  refine Afd (dd:=a.tmod 1000) hi5 hl hz (by omega) hb ?_
  intro l' c k y hl' hz' hv'
  have hv':=hst _ hv'
  (conv=>whnf);repeat' (first|(refine kA ?_;conv=>whnf)|(refine Br.mk (fun hc=>?_) fun hc=>?_<;>first|exact hc.elim|conv=>whnf)  |(refine kB ?_))
  exact again.mk ⟨_,by omega,i+1,_,l',rfl,by omega,UU hL,hl',hz',hv',rfl,rfl⟩
 ·refine need.mk ⟨rfl,by rw[lI,hl.1];omega⟩ (A8 (b:=ints l) ?_ ⟨l,rfl,hl,hend (by assumption)⟩)
  have:=@uI l
  rw[hl.1]at this
  exact this
theorem FC:∀{l:List Int},(∀ x∈l,0≤x∧x≤999)→0≤val l
 |[],_=>Int.le_refl 0
 |x::l,h=>by
  have h1:=h x (List.mem_cons_self ..)
  have h2:=FC (l:=l) fun y hy=>h y (List.mem_cons_of_mem _ hy)
  show 0≤x+1000*val l
  omega
theorem Aak {n:Int} (h:0<n):sgn n=1:=by unfold sgn;rw[if_neg (by omega),if_pos h]
theorem AcD {n:Int} (h:KI n):Ah (Ac tab) 45 [.int .i64 n] (· =.int .i64 (n.natAbs:Int)):=by
 unfold KI at h
 obtain⟨v,⟨z,rfl,z0,z1⟩,hz⟩:=(size (n:=n) (by omega) (by omega)).YO
 rwa [show z=(n.natAbs:Int) by omega]at hz
def fv (x:Nat×Nat):AV:=.agg [.int .i64 x.1,.int .i64 x.2]
theorem vnF {x:Nat×Nat} (h:Q9 x):VF (x.1:Int) (x.2:Int):=by
 obtain⟨h1,h2,h3,h4⟩:=h
 unfold Hg at*
 exact⟨by omega,by omega,by unfold KI;omega,h4⟩
theorem IL {a:Nat} (h:a≤Hg):KI (a:Int):=by unfold Hg at h;unfold KI;omega
theorem Wx {a:Nat} (h:a≤Hg):Ah (Ac tab) 68 [.int .i64 (a:Int)] (· =.bool true):=by
 have:=inP (n:=(a:Int));rwa [decide_eq_true (IL h)]at this
theorem ofP {a b:Nat} (ha:a≤Hg) (hb:b≤Hg) (h0:0<b):Ah (Ac tab) 31 [.int .i64 a,.int .i64 b] (· =.CP [fv (QL a b),.bool true]):=by
 have i1:=Wx ha
 have i2:=Wx hb
 have hg:=Afn (IL ha) (IL hb)
 simp only[Int.natAbs_natCast]at hg
 have hgp:0<Nat.gcd a b:=Nat.gcd_pos_of_pos_right a h0
 have hgl:Nat.gcd a b≤b:=Nat.gcd_le_right a h0
 unfold QL fv
 unfold Hg at ha hb
 have q1:a / Nat.gcd a b≤a:=Nat.div_le_self _ _
 have q2:b / Nat.gcd a b≤b:=Nat.div_le_self _ _
 have e1:((a:Int)).tdiv (Nat.gcd a b:Nat)=((a / Nat.gcd a b:Nat):Int):=by rw[Int.ofNat_tdiv]
 have e2:((b:Int)).tdiv (Nat.gcd a b:Nat)=((b / Nat.gcd a b:Nat):Int):=by rw[Int.ofNat_tdiv]
 generalize a / Nat.gcd a b=A at*
 generalize b / Nat.gcd a b=B at*
 generalize Nat.gcd a b=g at*
 refine Ae rfl rfl ?_
 (conv=>whnf);repeat' (first|((first|refine Aa i1 ?_|refine Aa i2 ?_|refine Aa hg ?_);rintro _ rfl;conv=>whnf)|(refine A8 e1 ?_;conv=>whnf)|(refine A8 e2 ?_;conv=>whnf)|(rw [e1];conv=>whnf)|(rw [e2];conv=>whnf)|(refine kA ?_;conv=>whnf)|(refine Br.mk (fun hc=>?_) fun hc=>?_<;>first|exact hc.elim|conv=>whnf)|(refine kB ?_))
 all_goals first|rfl|(exfalso;omega)
theorem Xz (x y:Nat):((x:Int)).tdiv (y:Int)=((x / y:Nat):Int):=by rw[Int.ofNat_tdiv]
theorem AjV (x y:Nat):((x:Int)).tmod (y:Int)=((x % y:Nat):Int):=by rw[Int.ofNat_tmod]
theorem AdO {lo y:Nat} (hl:lo<18446744073709551616) (hy:0<y) (hy2:y<18446744073709551616):Ah (Ac tab) 113 [.int .u64 0,.int .u64 lo,.int .u64 y] (· =.CP [.int .u64 ((lo / y:Nat):Int),.int .u64 ((lo % y:Nat):Int)]):=by
 have e1:=Xz lo y
 have e2:=AjV lo y
 have q1:lo / y≤lo:=Nat.div_le_self _ _
 generalize lo / y=A at*
 generalize lo % y=B at*
 refine Ae rfl rfl ?_
 (conv=>whnf);repeat' (first|(refine wU (A:Int) (by omega) ?_;conv=>whnf)|(rw [e1];conv=>whnf)|(rw [e2];conv=>whnf)|(refine kA ?_;conv=>whnf)|(refine Br.mk (fun hc=>?_) fun hc=>?_<;>first|exact hc.elim|conv=>whnf)|(refine kB ?_))
 all_goals first|rfl|(exfalso;omega)
theorem AjW {b:Bool} {m d:Nat} (hm:m<18446744073709551616) (hd:0<d) (hd2:d<18446744073709551616):Ah (Ac tab) 75 [wd b m,.int .u64 d] (· =.int .u64 ((m % d:Nat):Int)):=by
 have h:=AdO hm hd hd2
 have e0:m / 18446744073709551616=0:=Nat.div_eq_of_lt hm
 have e1:m % 18446744073709551616=m:=Nat.mod_eq_of_lt hm
 unfold wd
 rw[e0,e1]
 have e2:((0:Nat):Int).tmod (d:Int)=0:=by rw[AjV,Nat.zero_mod];rfl
 generalize m / d=A at*
 generalize m % d=B at*
 refine Ae rfl rfl ?_
 (conv=>whnf);repeat' (first|(rw [e2];conv=>whnf)|(refine Aa h ?_;rintro _ rfl;conv=>whnf)|(refine kA ?_;conv=>whnf)|(refine Br.mk (fun hc=>?_) fun hc=>?_<;>first|exact hc.elim|conv=>whnf)|(refine kB ?_))
 all_goals first|rfl|(exfalso;omega)
theorem AjX {m d:Nat} (hm:m<18446744073709551616) (hd:0<d) (hd2:d<18446744073709551616):Ah (Ac tab) 76 [wd false m,.int .u64 d] (· =if m / d≤Hg then .CP [.int .i64 ((m / d:Nat):Int),.bool true]else .CP [.int .i64 0,.bool false]):=by
 have h:=AdO hm hd hd2
 have e0:m / 18446744073709551616=0:=Nat.div_eq_of_lt hm
 have e1:m % 18446744073709551616=m:=Nat.mod_eq_of_lt hm
 unfold wd
 rw[e0,e1]
 have q1:m / d≤m:=Nat.div_le_self _ _
 generalize m / d=A at*
 generalize m % d=B at*
 unfold Hg
 by_cases hA:A≤1000000000000000
 ·rw[if_pos hA]
  refine Ae rfl rfl ?_
  (conv=>whnf);repeat' (first|(refine Aa h ?_;rintro _ rfl;conv=>whnf)|(refine kA ?_;conv=>whnf)|(refine Br.mk (fun hc=>?_) fun hc=>?_<;>first|exact hc.elim|conv=>whnf)|(refine kB ?_))
  all_goals first|rfl|(exfalso;omega)
 ·rw[if_neg hA]
  refine Ae rfl rfl ?_
  (conv=>whnf);repeat' (first|(refine Aa h ?_;rintro _ rfl;conv=>whnf)|(refine kA ?_;conv=>whnf)|(refine Br.mk (fun hc=>?_) fun hc=>?_<;>first|exact hc.elim|conv=>whnf)|(refine kB ?_))
  all_goals first|rfl|(exfalso;omega)
theorem AfM {a b:Nat} (ha:a≤Hg) (hb:b≤Hg) (h0:0<a):Ah (Ac tab) 77 [.int .i64 a,.int .i64 b] (· =if a*b≤Hg then .CP [.int .i64 ((a*b:Nat):Int),.bool true]else .CP [.int .i64 0,.bool false]):=by
 have i1:=Wx ha
 have i2:=Wx hb
 have a1:=absP (IL ha)
 have a2:=absP (IL hb)
 simp only[Int.natAbs_natCast]at a1 a2
 have hd:=Xz 1000000000000000 a
 have key:a*b≤1000000000000000↔b≤1000000000000000 / a:=by
  rw[Nat.le_div_iff_mul_le h0,Nat.mul_comm]
 unfold Hg at*
 have e1:((a:Int)*(b:Int))=((a*b:Nat):Int):=(Int.natCast_mul a b).symm
 generalize a*b=P at*
 have q1:1000000000000000 / a≤1000000000000000:=Nat.div_le_self _ _
 generalize hD:1000000000000000 / a=D at*
 have hd:(1000000000000000:Int).tdiv (a:Int)=(D:Int):=hd
 by_cases hP:P≤1000000000000000
 ·rw[if_pos hP]
  have:=key.1 hP
  refine Ae rfl rfl ?_
  (conv=>whnf);repeat' (first|((first|refine Aa i1 ?_|refine Aa i2 ?_|refine Aa a1 ?_|refine Aa a2 ?_);rintro _ rfl;conv=>whnf)|(rw [hd];conv=>whnf)|(rw [e1];conv=>whnf)|(refine kA ?_;conv=>whnf)|(refine Br.mk (fun hc=>?_) fun hc=>?_<;>first|exact hc.elim|conv=>whnf)|(refine kB ?_))
  all_goals first|rfl|(exfalso;omega)
 ·rw[if_neg hP]
  have:¬b≤D:=fun h=>hP (key.2 h)
  refine Ae rfl rfl ?_
  (conv=>whnf);repeat' (first|((first|refine Aa i1 ?_|refine Aa i2 ?_|refine Aa a1 ?_|refine Aa a2 ?_);rintro _ rfl;conv=>whnf)|(rw [hd];conv=>whnf)|(rw [e1];conv=>whnf)|(refine kA ?_;conv=>whnf)|(refine Br.mk (fun hc=>?_) fun hc=>?_<;>first|exact hc.elim|conv=>whnf)|(refine kB ?_))
  all_goals first|rfl|(exfalso;omega)
def UQ (o:Option (Nat×Nat)):AV:=match o with|some z=>.CP [fv z,.bool true]|none=>.CP [fv (0,0),.bool false]
theorem AaG {k:IntKind} {x:Int}:Bc (.int k x) (.int k x)=true:=by simp[Bc]
set_option maxHeartbeats 4000000 in
theorem AjY {x y:Nat×Nat} (hx:Q9 x) (hy:Q9 y) (h1:0<y.1) (h2:y.1≤4096) (h3:y.2≤4096):Ah (Ac tab) 36 [fv x,fv y] (· =UQ (addN x y)):=by
 obtain⟨a,b⟩:=x
 obtain⟨c,d⟩:=y
 have v1:Ah (Ac tab) 71 [fv (a,b)] (· =.bool true):=by have:=fvP (n:=(a:Int)) (d:=(b:Int));rwa [decide_eq_true (vnF hx)]at this
 have v2:Ah (Ac tab) 71 [fv (c,d)] (· =.bool true):=by have:=fvP (n:=(c:Int)) (d:=(d:Int));rwa [decide_eq_true (vnF hy)]at this
 obtain⟨hb1,hb2,ha,_⟩:=hx
 obtain⟨hd1,hd2,hc,_⟩:=hy
 dsimp only at*
 have gP:=Afn (IL hb2) (IL hd2)
 simp only[Int.natAbs_natCast]at gP
 have hg:0<Nat.gcd b d:=Nat.gcd_pos_of_pos_right b hd1
 have hgl:Nat.gcd b d≤d:=Nat.gcd_le_right b hd1
 have hgb:Nat.gcd b d≤b:=Nat.gcd_le_left d hb1
 unfold addN Y6 Xy
 dsimp only
 generalize Nat.gcd b d=g at*
 have k1:=Xz b g
 have k2:=Xz d g
 have hb':b / g≤b:=Nat.div_le_self _ _
 have hd':d / g≤d:=Nat.div_le_self _ _
 generalize hB:b / g=B at*
 generalize hD:d / g=D at*
 have hBM:B≤Hg:=by omega
 have hDM:D≤Hg:=by omega
 have p1:=XG (IL ha) (IL hDM)
 have p2:=XG (IL hc) (IL hBM)
 simp only[Int.natAbs_natCast,decide_eq_false (show ¬((a:Int)<0) by omega),decide_eq_false (show ¬((c:Int)<0) by omega),decide_eq_false (show ¬((B:Int)<0) by omega),decide_eq_false (show ¬((D:Int)<0) by omega)]at p1 p2
 have m1:a*D≤1000000000000000*4096:=Nat.mul_le_mul ha (by omega)
 have m2:c*B≤4096*1000000000000000:=Nat.mul_le_mul h2 (by unfold Hg at *;omega)
 have hB0:0<B:=by rw[← hB];exact Nat.div_pos hgb hg
 have m3:0<c*B:=Nat.mul_pos h1 hB0
 generalize a*D=X at*
 generalize c*B=Y at*
 have p3:=Ajz (a:=false) (b:=false) (m:=X) (n:=Y) (by omega) (by omega)
 rw[show Zi false X false Y=wd false (X+Y) from if_pos rfl]at p3
 obtain⟨t,ht⟩:∃t,X+Y=t:=⟨_,rfl⟩
 rw[ht]at p3 ⊢
 rw[if_neg (show ¬t=0 by omega)]
 have s1:=AjA (a:=false) (m:=t) (by omega)
 rw[show sgW false t=1 by unfold sgW;rw[if_neg (by omega),if_neg (by decide)]]at s1
 have md:=AjW (b:=false) (m:=t) (d:=g) (by omega) hg (by unfold Hg at *;omega)
 have hr:=Nat.mod_lt t hg
 have g2:=Afn (IL (show t % g≤Hg by unfold Hg at *;omega)) (IL (show g≤Hg by unfold Hg at *;omega))
 simp only[Int.natAbs_natCast]at g2
 rw[← Nat.gcd_rec,Nat.gcd_comm]at g2
 generalize t % g=r at*
 have hh:0<Nat.gcd t g:=Nat.gcd_pos_of_pos_right t hg
 have hhl:Nat.gcd t g≤g:=Nat.gcd_le_right t hg
 generalize Nat.gcd t g=h at*
 have ov:=AjX (m:=t) (d:=h) (by omega) hh (by unfold Hg at *;omega)
 have k3:=Xz d h
 have hE:d / h≤d:=Nat.div_le_self _ _
 generalize d / h=E at*
 have nm:=AfM (a:=B) (b:=E) hBM (by omega) hB0
 generalize t / h=n at*
 generalize B*E=q at*
 have pp:∀k:Bool,(k != k)=false:=by decide
 simp only[pp]at p1 p2
 unfold Hg at*
 obtain⟨R,hR⟩:∃R,R=(if n≤1000000000000000∧q≤1000000000000000 then some (n,q)else none):=⟨_,rfl⟩
 rw[← hR]
 by_cases c1:n≤1000000000000000<;>by_cases c2:q≤1000000000000000
 all_goals (
  simp only[c1,c2,and_self,and_true,and_false,if_true,if_false]at hR ov nm
  subst hR
  refine Ae rfl rfl ?_
  (conv=>whnf);repeat' (first|(refine Ap AaG ?_;conv=>whnf)|(refine wU (g:Int) (by omega) ?_;conv=>whnf)|(refine wU (h:Int) (by omega) ?_;conv=>whnf)|((first|refine Aa v1 ?_|refine Aa v2 ?_|refine Aa gP ?_);rintro _ rfl;conv=>whnf)|(rw [k1];conv=>whnf)|(rw [k2];conv=>whnf)|(rw [k3];conv=>whnf)|((first|refine Aa p1 ?_|refine Aa p2 ?_|refine Aa p3 ?_|refine Aa s1 ?_|refine Aa md ?_|refine Aa g2 ?_|refine Aa ov ?_|refine Aa nm ?_);rintro _ rfl;conv=>whnf)|(refine kA ?_;conv=>whnf)|(refine Br.mk (fun hc=>?_) fun hc=>?_<;>first|exact hc.elim|conv=>whnf)|(refine kB ?_)))
 all_goals first|rfl|(exfalso;omega)
end AI
end Go.Proofs.YtchcadfjbkkgmaaGreatDoor
