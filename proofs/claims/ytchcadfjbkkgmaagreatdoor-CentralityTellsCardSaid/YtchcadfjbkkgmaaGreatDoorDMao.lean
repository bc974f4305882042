/- The program's wide numbers: products, sums, signs; fractions compared. The reference's wide numbers: they are reckoned without a panic. The reference's numbers, classes, strings compared. The reference's comparison of a fraction with itself. Numbers by their digits to the base 1000: plain. The reference's wide numbers: what their product and their order are. Fractions compared: the program's way and the reference's. frac.Of, frac.Add of the program. -/
import Derived.Test.YtchcadfjbkkgmaaGreatDoorDMan
import Derived.Test.YtchcadfjbkkgmaaGreatDoorDMab
import Derived.Test.YtchcadfjbkkgmaaGreatDoorDMai
set_option linter.unusedVariables false
set_option maxRecDepth 4000
namespace Go.Proofs.YtchcadfjbkkgmaaGreatDoor
namespace AI
def wd (b:Bool) (m:Nat):AV:=.agg [.bool b,.int .u64 ((m / 18446744073709551616:Nat):Int),.int .u64 ((m % 18446744073709551616:Nat):Int)]
theorem wU {z:Int} {K:AV→Prop} (y:Int) (h:z % 18446744073709551616=y) (hk:K (.int .u64 y)):Ji .u64 z K:=by
 subst h
 refine CW ?_ hk
 simp[IntKind.wrap,IntKind.bits,IntKind.signed]
theorem AfX (n:Nat):(BitVec.ofInt 64 (n:Int)).toNat=n % 18446744073709551616:=by simp
theorem Aii (n:Nat):IntKind.u64.wrap (BitVec.ofInt IntKind.u64.bits (n:Int) &&& BitVec.ofInt IntKind.u64.bits 4294967295).toNat=((n % 4294967296:Nat):Int):=by
 show IntKind.u64.wrap (BitVec.ofInt 64 (n:Int) &&& BitVec.ofInt 64 ((4294967295:Nat):Int)).toNat=_
 rw[BitVec.toNat_and,AfX,AfX]
 have:(n % 18446744073709551616) &&& (4294967295 % 18446744073709551616)=n % 4294967296:=by
  rw[show (4294967295 % 18446744073709551616:Nat)=2 ^ 32-1 by rfl,Nat.and_two_pow_sub_one_eq_mod]
  omega
 rw[this]
 simp[IntKind.wrap,IntKind.bits,IntKind.signed]
 omega
theorem or0 {a b:Nat} (ha:a<18446744073709551616) (hb:b<18446744073709551616):IntKind.u64.wrap (BitVec.ofInt IntKind.u64.bits (a:Int) ||| BitVec.ofInt IntKind.u64.bits (b:Int)).toNat=0↔a=0∧b=0:=by
 show IntKind.u64.wrap (BitVec.ofInt 64 (a:Int) ||| BitVec.ofInt 64 (b:Int)).toNat=0↔_
 have h:=(BitVec.ofInt 64 (a:Int) ||| BitVec.ofInt 64 (b:Int)).isLt
 have e:IntKind.u64.wrap (BitVec.ofInt 64 (a:Int) ||| BitVec.ofInt 64 (b:Int)).toNat=((BitVec.ofInt 64 (a:Int) ||| BitVec.ofInt 64 (b:Int)).toNat:Int):=by
  simp only[IntKind.wrap,IntKind.bits,IntKind.signed,Bool.false_and,Bool.false_eq_true,if_false]
  omega
 rw[e,BitVec.toNat_or,AfX,AfX,Nat.mod_eq_of_lt ha,Nat.mod_eq_of_lt hb]
 constructor
 ·intro h
  have h:a ||| b=0:=by omega
  exact Nat.or_eq_zero_iff.1 h
 ·rintro⟨rfl,rfl⟩;rfl
theorem Ub (n:Nat):((n:Int)).fdiv (2 ^ (min (Int.toNat 32) IntKind.u64.bits))=((n / 4294967296:Nat):Int):=by
 rw[show (2:Int) ^ (min (Int.toNat 32) IntKind.u64.bits)=4294967296 by rfl,Int.fdiv_eq_ediv_of_nonneg _ (by omega)]
 rfl
theorem mulN {a b:Nat} {A B:Nat} (ha:a≤A) (hb:b≤B) (h:A*B<18446744073709551616):((a:Int)*(b:Int)) % 18446744073709551616=((a*b:Nat):Int):=by
 have:a*b≤A*B:=Nat.mul_le_mul ha hb
 rw[Int.natCast_mul]
 have h2:((a*b:Nat):Int)<18446744073709551616:=by omega
 rw[← Int.natCast_mul]
 omega
theorem AfY (x0 x1 y0 y1:Nat):(x1*4294967296+x0)*(y1*4294967296+y0)=x1*y1*18446744073709551616+(x1*y0+x0*y1)*4294967296+x0*y0:=by
 rw[Nat.add_mul,Nat.mul_add,Nat.mul_add]
 have e1:x1*4294967296*(y1*4294967296)=x1*y1*18446744073709551616:=by
  rw[Nat.mul_mul_mul_comm]
 have e2:x1*4294967296*y0=x1*y0*4294967296:=by rw[Nat.mul_right_comm]
 have e3:x0*(y1*4294967296)=x0*y1*4294967296:=by rw[Nat.mul_assoc]
 rw[e1,e2,e3]
 omega
theorem Aij {x y:Nat} (hx:x<2^60) (hy:y<2^60):Ah (Ac tab) 108 [.int .u64 x,.int .u64 y] (· =.Ce [.int .u64 ((x*y / 18446744073709551616:Nat):Int),.int .u64 ((x*y % 18446744073709551616:Nat):Int)]):=by
 obtain⟨x0,hx0⟩:∃x0,x % 4294967296=x0:=⟨_,rfl⟩
 obtain⟨x1,hx1⟩:∃x1,x / 4294967296=x1:=⟨_,rfl⟩
 obtain⟨y0,hy0⟩:∃y0,y % 4294967296=y0:=⟨_,rfl⟩
 obtain⟨y1,hy1⟩:∃y1,y / 4294967296=y1:=⟨_,rfl⟩
 have bx0:x0≤4294967295:=by omega
 have bx1:x1≤268435455:=by omega
 have by0:y0≤4294967295:=by omega
 have by1:y1≤268435455:=by omega
 have ex:=AfY x0 x1 y0 y1
 rw[show x1*4294967296+x0=x by omega,show y1*4294967296+y0=y by omega]at ex
 have p00:=Nat.mul_le_mul bx0 by0
 have p10:=Nat.mul_le_mul bx1 by0
 have p01:=Nat.mul_le_mul bx0 by1
 have p11:=Nat.mul_le_mul bx1 by1
 refine Ad rfl rfl ?_
 conv=>whnf
 repeat (first|(refine Ak (by first|rfl|omega) ?_;conv=>whnf))
 refine AU ((Aii x).trans (congrArg _ hx0)) ?_
 conv=>whnf
 repeat (first|(refine Ak (by first|rfl|omega) ?_;conv=>whnf))
 refine AU ((Ub x).trans (congrArg _ hx1)) ?_
 conv=>whnf
 repeat (first|(refine Ak (by first|rfl|omega) ?_;conv=>whnf))
 refine AU ((Aii y).trans (congrArg _ hy0)) ?_
 conv=>whnf
 repeat (first|(refine Ak (by first|rfl|omega) ?_;conv=>whnf))
 refine AU ((Ub y).trans (congrArg _ hy1)) ?_
 conv=>whnf
 repeat (first|(refine Ak (by first|rfl|omega) ?_;conv=>whnf))
 refine wU _ (mulN bx0 by0 (by decide)) ?_
 conv=>whnf
 repeat (first|(refine Ak (by first|rfl|omega) ?_;conv=>whnf))
 refine wU _ (mulN bx1 by0 (by decide)) ?_
 conv=>whnf
 repeat (first|(refine Ak (by first|rfl|omega) ?_;conv=>whnf))
 refine AU (Ub _) ?_
 conv=>whnf
 repeat (first|(refine Ak (by first|rfl|omega) ?_;conv=>whnf))
 refine wU ((x1*y0+x0*y0 / 4294967296:Nat):Int) (by omega) ?_
 conv=>whnf
 repeat (first|(refine Ak (by first|rfl|omega) ?_;conv=>whnf))
 refine AU (Aii _) ?_
 conv=>whnf
 repeat (first|(refine Ak (by first|rfl|omega) ?_;conv=>whnf))
 refine AU (Ub _) ?_
 conv=>whnf
 repeat (first|(refine Ak (by first|rfl|omega) ?_;conv=>whnf))
 refine wU _ (mulN bx0 by1 (by decide)) ?_
 conv=>whnf
 repeat (first|(refine Ak (by first|rfl|omega) ?_;conv=>whnf))
 refine wU (((x1*y0+x0*y0 / 4294967296) % 4294967296+x0*y1:Nat):Int) (by omega) ?_
 conv=>whnf
 repeat (first|(refine Ak (by first|rfl|omega) ?_;conv=>whnf))
 refine wU _ (mulN bx1 by1 (by decide)) ?_
 conv=>whnf
 repeat (first|(refine Ak (by first|rfl|omega) ?_;conv=>whnf))
 refine wU ((x1*y1+(x1*y0+x0*y0 / 4294967296) / 4294967296:Nat):Int) (by omega) ?_
 conv=>whnf
 repeat (first|(refine Ak (by first|rfl|omega) ?_;conv=>whnf))
 refine AU (Ub _) ?_
 conv=>whnf
 repeat (first|(refine Ak (by first|rfl|omega) ?_;conv=>whnf))
 refine wU ((x1*y1+(x1*y0+x0*y0 / 4294967296) / 4294967296+((x1*y0+x0*y0 / 4294967296) % 4294967296+x0*y1) / 4294967296:Nat):Int) (by omega) ?_
 conv=>whnf
 repeat (first|(refine Ak (by first|rfl|omega) ?_;conv=>whnf))
 refine wU ((x*y % 18446744073709551616:Nat):Int) (by rw[← Int.natCast_mul];omega) ?_
 conv=>whnf
 rw[ex]
 repeat (refine Df rfl ?_;conv=>whnf)
 have e1:∀z z':Nat,z=z'→∀w:AV,AV.Ce [.int .u64 ((z:Nat):Int),w]=.Ce [.int .u64 ((z':Nat):Int),w]:=fun z z' h w=>by rw[h]
 exact e1 _ _ (by omega) _
theorem AaS {n:Int} (h:KL n):n.natAbs≤1000000000000000:=by unfold KL at h;omega
theorem AgT {n:Int} (h:KL n):Ah (Ac tab) 109 [.int .i64 n] (· =.int .u64 (n.natAbs:Int)):=by
 unfold KL at h
 refine Ad rfl rfl ?_
 (conv=>whnf);repeat' (first|(refine wU (n+18446744073709551616) (by omega) ?_;conv=>whnf)|(refine wU (n.natAbs:Int) (by omega) ?_;conv=>whnf)|(refine kA ?_;conv=>whnf)|(refine Br.mk (fun hc=>?_) fun hc=>?_<;>first|exact hc.elim|conv=>whnf)|(refine kB ?_))
 all_goals first|rfl
theorem Uc {b:Bool} {m:Nat} {x y:Int} {c:Bool} (h1:b=c) (h2:((m / 18446744073709551616:Nat):Int)=x) (h3:((m % 18446744073709551616:Nat):Int)=y):AV.agg [.bool c,.int .u64 x,.int .u64 y]=wd b m:=by
 subst h1 h2 h3;rfl
theorem Yc {a b:Int} (ha:KL a) (hb:KL b):Ah (Ac tab) 72 [.int .i64 a,.int .i64 b] (· =wd (decide (a<0) != decide (b<0)) (a.natAbs*b.natAbs)):=by
 have h1:=AaS ha
 have h2:=AaS hb
 have h3:=Aij (x:=a.natAbs) (y:=b.natAbs) (by omega) (by omega)
 refine Ad rfl rfl ?_
 (conv=>whnf);repeat' (first|((first|refine Aa (AgT ha) ?_|refine Aa (AgT hb) ?_|refine Aa h3 ?_);rintro _ rfl;conv=>whnf)|(refine kA ?_;conv=>whnf)|(refine Br.mk (fun hc=>?_) fun hc=>?_<;>first|exact hc.elim|conv=>whnf)|(refine kB ?_))
 all_goals first
  |exact Uc (by rw[decide_eq_true (show a<0 by omega),decide_eq_true (show b<0 by omega)];rfl) rfl rfl
  |exact Uc (by rw[decide_eq_true (show a<0 by omega),decide_eq_false (show ¬b<0 by omega)];rfl) rfl rfl
  |exact Uc (by rw[decide_eq_false (show ¬a<0 by omega),decide_eq_true (show b<0 by omega)];rfl) rfl rfl
  |exact Uc (by rw[decide_eq_false (show ¬a<0 by omega),decide_eq_false (show ¬b<0 by omega)];rfl) rfl rfl
theorem Aj8 {x y c:Nat} (hc:c≤1):Ah (Ac tab) 110 [.int .u64 x,.int .u64 y,.int .u64 c] (· =.Ce [.int .u64 (((x+y+c) % 18446744073709551616:Nat):Int),.int .u64 (((x+y+c) / 18446744073709551616:Nat):Int)]):=by
 refine Qd (sp:=addSpec) (v:=.Ce [.int .u64 (((x+y+c) % 18446744073709551616:Nat):Int),.int .u64 (((x+y+c) / 18446744073709551616:Nat):Int)]) (s:=⟨[],0⟩) rfl ?_ rfl rfl
 show(if 0≤(x:Int)∧0≤(y:Int)∧0≤(c:Int)∧(c:Int)≤1 then _ else _)=_
 rw[if_pos ⟨by omega,by omega,by omega,by omega⟩]
 rfl
theorem AfZ {x y c:Nat} (hc:c≤1) (h:y+c≤x+18446744073709551616):Ah (Ac tab) 112 [.int .u64 x,.int .u64 y,.int .u64 c] (· =.Ce [.int .u64 (((x+18446744073709551616-y-c) % 18446744073709551616:Nat):Int),.int .u64 ((if x<y+c then 1 else 0:Nat):Int)]):=by
 refine Qd (sp:=Pg) (v:=.Ce [.int .u64 (((x+18446744073709551616-y-c) % 18446744073709551616:Nat):Int),.int .u64 ((if x<y+c then 1 else 0:Nat):Int)]) (s:=⟨[],0⟩) rfl ?_ rfl rfl
 show(if 0≤(x:Int)∧0≤(y:Int)∧0≤(c:Int)∧(c:Int)≤1∧(y:Int)+c≤x+m64 then _ else _)=_
 rw[if_pos ⟨by omega,by omega,by omega,by omega,by unfold m64;omega⟩]
 have e1:((x:Int)+m64-y-c) % m64=(((x+18446744073709551616-y-c) % 18446744073709551616:Nat):Int):=by
  unfold m64;omega
 have e2:(if (x:Int)<y+c then(1:Int)else 0)=((if x<y+c then 1 else 0:Nat):Int):=by
  split<;>split<;>omega
 rw[e1,e2]
theorem AgU {a b:Bool} {m n:Nat}:Ah (Ac tab) 111 [wd a m,wd b n] (· =.bool (decide (m<n))):=by
 refine Ad rfl rfl ?_
 (conv=>whnf);repeat' (first  |(refine kA ?_;conv=>whnf)|(refine Br.mk (fun hc=>?_) fun hc=>?_<;>first|exact hc.elim|conv=>whnf)|(refine kB ?_))
 all_goals first|exact BN (by omega)|exact Bf (by omega)
def ZJ (a:Bool) (m:Nat) (b:Bool) (n:Nat):AV:=if a=b then wd a (m+n)else if m<n then wd b (n-m)else wd a (m-n)
theorem Aj9 {a b:Bool} {m n:Nat} (hm:m<2^120) (hn:n<2^120):Ah (Ac tab) 73 [wd a m,wd b n] (· =ZJ a m b n):=by
 have c1:=Aj8 (x:=m % 18446744073709551616) (y:=n % 18446744073709551616) (c:=0) (by omega)
 have c2:=Aj8 (x:=m / 18446744073709551616) (y:=n / 18446744073709551616) (c:=(m % 18446744073709551616+n % 18446744073709551616+0) / 18446744073709551616) (by omega)
 have d1:=AfZ (x:=m % 18446744073709551616) (y:=n % 18446744073709551616) (c:=0) (by omega) (by omega)
 have d2:=AfZ (x:=m / 18446744073709551616) (y:=n / 18446744073709551616) (c:=if m % 18446744073709551616<n % 18446744073709551616+0 then 1 else 0) (by split<;>omega) (by split<;>omega)
 have f1:=AfZ (x:=n % 18446744073709551616) (y:=m % 18446744073709551616) (c:=0) (by omega) (by omega)
 have f2:=AfZ (x:=n / 18446744073709551616) (y:=m / 18446744073709551616) (c:=if n % 18446744073709551616<m % 18446744073709551616+0 then 1 else 0) (by split<;>omega) (by split<;>omega)
 by_cases hab:a=b
 ·have e:ZJ a m b n=wd a (m+n):=if_pos hab
  rw[e]
  subst hab
  cases a
  all_goals
   refine Ad rfl rfl ?_
   (conv=>whnf);repeat' (first|((first|refine Aa c1 ?_|refine Aa c2 ?_);rintro _ rfl;conv=>whnf)|(refine kA ?_;conv=>whnf)|(refine Br.mk (fun hc=>?_) fun hc=>?_<;>first|exact hc.elim|conv=>whnf)|(refine kB ?_))
   all_goals first|(show AV.agg [.bool _,.int .u64 ((_:Nat):Int),.int .u64 ((_:Nat):Int)]=wd _ _;exact Uc rfl (by omega) (by omega))
 by_cases hlt:m<n
 ·have e:ZJ a m b n=wd b (n-m):=by unfold ZJ;rw[if_neg hab,if_pos hlt]
  have hl:Ah (Ac tab) 111 [wd a m,wd b n] (· =.bool true):=by
   have:=AgU (a:=a) (b:=b) (m:=m) (n:=n);rwa [decide_eq_true hlt]at this
  rw[e]
  cases a<;>cases b<;>(try exact absurd rfl hab)
  all_goals
   refine Ad rfl rfl ?_
   (conv=>whnf);repeat' (first|((first|refine Aa hl ?_|refine Aa f1 ?_|refine Aa f2 ?_);rintro _ rfl;conv=>whnf)|(refine kA ?_;conv=>whnf)|(refine Br.mk (fun hc=>?_) fun hc=>?_<;>first|exact hc.elim|conv=>whnf)|(refine kB ?_))
   all_goals first|(show AV.agg [.bool _,.int .u64 ((_:Nat):Int),.int .u64 ((_:Nat):Int)]=wd _ _;exact Uc rfl (by split<;>omega) (by omega))
 ·have e:ZJ a m b n=wd a (m-n):=by unfold ZJ;rw[if_neg hab,if_neg hlt]
  have hl:Ah (Ac tab) 111 [wd a m,wd b n] (· =.bool false):=by
   have:=AgU (a:=a) (b:=b) (m:=m) (n:=n);rwa [decide_eq_false hlt]at this
  rw[e]
  cases a<;>cases b<;>(try exact absurd rfl hab)
  all_goals
   refine Ad rfl rfl ?_
   (conv=>whnf);repeat' (first|((first|refine Aa hl ?_|refine Aa d1 ?_|refine Aa d2 ?_);rintro _ rfl;conv=>whnf)|(refine kA ?_;conv=>whnf)|(refine Br.mk (fun hc=>?_) fun hc=>?_<;>first|exact hc.elim|conv=>whnf)|(refine kB ?_))
   all_goals first|(show AV.agg [.bool _,.int .u64 ((_:Nat):Int),.int .u64 ((_:Nat):Int)]=wd _ _;exact Uc rfl (by split<;>omega) (by omega))
def sgW (a:Bool) (m:Nat):Int:=if m=0 then 0 else if a=true then -1 else 1
theorem Aka {a:Bool} {m:Nat} (hm:m<2^127):Ah (Ac tab) 74 [wd a m] (· =.int .i64 (sgW a m)):=by
 obtain⟨z,hz,hz0⟩:∃z,IntKind.u64.wrap (BitVec.ofInt IntKind.u64.bits ((m / 18446744073709551616:Nat):Int) ||| BitVec.ofInt IntKind.u64.bits ((m % 18446744073709551616:Nat):Int)).toNat=z∧(z=0↔m=0):=⟨_,rfl,by
  rw[or0 (by omega) (by omega)];omega⟩
 refine Ad rfl rfl ?_
 (conv=>whnf);repeat' (first|(refine AU hz ?_;conv=>whnf)|(refine kA ?_;conv=>whnf)|(refine Br.mk (fun hc=>?_) fun hc=>?_<;>first|exact hc.elim|conv=>whnf)|(refine kB ?_))
 all_goals first
  |exact congrArg (AV.int .i64) (by unfold sgW;rw[if_pos (by omega)])
  |exact congrArg (AV.int .i64) (by unfold sgW;rw[if_neg (by omega),if_pos (by assumption)])
  |exact congrArg (AV.int .i64) (by unfold sgW;rw[if_neg (by omega)];simp_all)
def QB (l:List Int):Prop:=l.length=14∧∀x∈l,0≤x∧x≤999
theorem QB.set {l:List Int} (h:QB l) {k:Nat} {y:Int} (hy:0≤y∧y≤999):QB (l.set k y):=by
 refine⟨by rw[List.length_set];exact h.1,fun x hx=>?_⟩
 rcases List.mem_or_eq_of_mem_set hx with hx|rfl
 ·exact h.2 x hx
 ·exact hy
theorem Vp {d e:Int} (h1:0≤d) (h2:d≤999) (h3:0≤e) (h4:e≤999):0≤d*e∧d*e≤998001:=
 ⟨Int.mul_nonneg h1 h3,by
  have:=Int.mul_le_mul h2 h4 h3 (by omega:(0:Int)≤999)
  omega⟩
theorem tmE {c:Int} (h:0≤c):c.tmod 1000=c % 1000:=Int.tmod_eq_emod_of_nonneg h
theorem tdE {c:Int} (h:0≤c):c.tdiv 1000=c / 1000:=Int.tdiv_eq_ediv_of_nonneg h
def Left (j:Nat) (c:Int):Prop:=0≤c∧((j=0∧c<1000000000000000000)∨(j=1∧c<1000000000000000)∨(j=2∧c<1000000000000)∨(j=3∧c<1000000000)∨(j=4∧c<1000000)∨(j=5∧c<1000)∨(6≤j∧c=0))
def Carry (j:Nat) (y:Int):Prop:=0≤y∧((j≤6∧y≤999)∨(j=7∧y≤1)∨(j=8∧y=0))
theorem Vq {j:Nat} {c:Int} (h:Left j c):Left (j+1) (c.tdiv 1000):=by
 have e:=tdE h.1
 unfold Left at *;omega
theorem ZI {j:Nat} {c y x d:Int} (h:Left j c) (hy:Carry j y) (hj:0<c∨0<y) (hx:0≤x∧x≤999∧(j=7→x=0)) (hd:0≤d∧d≤999):Carry (j+1) ((y+x+d*c.tmod 1000).tdiv 1000):=by
 have e1:=tmE h.1
 have hm:=h.1
 obtain⟨m1,m2⟩:=Vp hd.1 hd.2 (e:=c.tmod 1000) (by omega) (by omega)
 have hy0:=hy.1
 have e2:=tdE (c:=y+x+d*c.tmod 1000) (by omega)
 have hc:c.tmod 1000=0∨j≤5:=by unfold Left at h;omega
 rw[e2]
 rcases hc with h0|h0
 ·have hm0:d*c.tmod 1000=0:=by rw[h0];exact Int.mul_zero _
  rw[hm0]
  unfold Carry Left at *;omega
 ·unfold Carry Left at *;omega
def sgn (n:Int):Int:=if n<0 then -1 else if 0<n then 1 else 0
theorem sign {n:Int}:Ah (Ac tab) 43 [.int .i64 n] (· =.int .i64 (sgn n)):=by
 refine Ad rfl rfl ?_
 (conv=>whnf);repeat' (first|(refine kA ?_;conv=>whnf)|(refine Br.mk (fun hc=>?_) fun hc=>?_<;>first|exact hc.elim|conv=>whnf)  |(refine kB ?_))
 all_goals unfold sgn;first|(rw [if_pos (by omega)];rfl)|(rw [if_neg (by omega),if_pos (by omega)];rfl)|(rw [if_neg (by omega),if_neg (by omega)];rfl)
def val:List Int→Int
 |[]=>0
 |x::l=>x+1000*val l
def pw:Nat→Int
 |0=>1
 |k+1=>1000*pw k
theorem WO:∀{l:List Int} {k:Nat} {y:Int} (h:k<l.length),val (l.set k y)=val l+(y-l[k])*pw k
 |[],k,y,h=>by simp at h
 |x::l,0,y,h=>by
  show y+1000*val l=x+1000*val l+(y-x)*1
  omega
 |x::l,k+1,y,h=>by
  have h':k<l.length:=by simpa using h
  have ih:=WO (l:=l) (k:=k) (y:=y) h'
  show x+1000*val (l.set k y)=x+1000*val l+(y-l[k])*(1000*pw k)
  rw[ih,←Int.mul_assoc,Int.mul_comm (y-l[k]) 1000,Int.mul_assoc]
  omega
theorem val_zero:∀n,val (List.replicate n 0)=0
 |0=>rfl
 |n+1=>by
  show 0+1000*val (List.replicate n 0)=0
  rw[val_zero n];rfl
theorem row_step {v x y dd c r y1 c1 m p:Int} (h1:r+1000*y1=y+x+dd*m) (h2:c=1000*c1+m):v+(r-x)*p+y1*(1000*p)+dd*c1*(1000*p)=v+y*p+dd*c*p:=by
 have e1:y1*(1000*p)=(1000*y1)*p:=by rw[← Int.mul_assoc,Int.mul_comm y1 1000]
 have e2:dd*c1*(1000*p)=(1000*(dd*c1))*p:=by rw[← Int.mul_assoc,Int.mul_comm (dd*c1) 1000]
 have e3:dd*c=1000*(dd*c1)+dd*m:=by rw[h2,Int.mul_add,←Int.mul_assoc,Int.mul_comm dd 1000,Int.mul_assoc]
 rw[e1,e2,e3]
 have e4:v+(r-x)*p+1000*y1*p+1000*(dd*c1)*p=v+((r-x)+1000*y1+1000*(dd*c1))*p:=by rw[Int.add_mul,Int.add_mul];omega
 have e5:v+y*p+(1000*(dd*c1)+dd*m)*p=v+(y+(1000*(dd*c1)+dd*m))*p:=by rw[Int.add_mul y];omega
 rw[e4,e5,show(r-x)+1000*y1+1000*(dd*c1)=y+(1000*(dd*c1)+dd*m) by omega]
theorem Aeg {v a b p m a1 v1:Int} (h:a=1000*a1+m) (hv:v1=v+m*b*p):v1+a1*b*(1000*p)=v+a*b*p:=by
 have e1:a1*b*(1000*p)=(1000*a1)*b*p:=by rw[← Int.mul_assoc,Int.mul_comm (a1*b) 1000,←Int.mul_assoc 1000 a1 b]
 rw[hv,e1,h,Int.add_mul,Int.add_mul]
 omega
theorem AfV {i:Nat} {dd:Int} {A:Int} {l0:List Int} {Q:AB→Env→Aj→Prop} (hi:i≤5) (hl:QB l0) (hz:∀q (h:q<l0.length),i+7≤q→l0[q]=0) (hd:0≤dd∧dd≤999) {B C:Int} (hB:0≤C∧C≤1000000000000000)
 (hQ:∀(l':List Int) (c k y:Int),QB l'→(∀ q (h:q<l'.length),i+8≤q→l'[q]=0)→val l'=val l0+dd*C*pw i→Q (.exit 2) [(0,.int .i64 A),(1,.int .i64 B),(5,.own 0 0 0 14),(6,.int .i64 i),(7,.int .i64 dd),(8,.int .i64 c),(9,.int .i64 y),(10,.int .i64 k),(27,.bool false)] ⟨[.arr 0 1 true true (ints l')],1⟩):
 Run (Ac tab) (.loop l44_0_h l44_0_b) [(0,.int .i64 A),(1,.int .i64 B),(5,.own 0 0 0 14),(6,.int .i64 i),(7,.int .i64 dd),(8,.int .i64 C),(9,.int .i64 0),(10,.int .i64 i)] ⟨[.arr 0 1 true true (ints l0)],1⟩ Q:=by
 obtain⟨V,hV⟩:∃V,val l0+dd*C*pw i=V:=⟨_,rfl⟩
 rw[hV]at hQ
 refine Ai (fun m env s=>∃(j k:Nat) (c y:Int) (l:List Int),m=8-j∧k=i+j∧Left j c∧Carry j y∧QB l∧(∀ q (h:q<l.length),i+7≤q→k≤q→l[q]=0)∧val l+y*pw k+dd*c*pw k=V∧
  env=[(0,.int .i64 A),(1,.int .i64 B),(5,.own 0 0 0 14),(6,.int .i64 i),(7,.int .i64 dd),(8,.int .i64 c),(9,.int .i64 y),(10,.int .i64 k)]∧s=⟨[.arr 0 1 true true (ints l)],1⟩) ?_ _ _ _ ⟨0,i,C,0,l0,rfl,rfl,by unfold Left;omega,by unfold Carry;omega,hl,fun q h h1 h2=>hz q h h1,by rw[Int.zero_mul];omega,rfl,rfl⟩
 clear hl hz hB hV
 rintro _ _ _ ⟨j,k,c,y,l,rfl,hk,hc0,hy,hl,hz,hv,rfl,rfl⟩
 refine⟨rfl,?_⟩
 have hll:=hl.1
 have hj7:0<c∨0<y→j≤7:=by unfold Left Carry at *;omega
 have hk8:k≤i+8:=by unfold Carry at hy;omega
 have c0:=hc0.1
 have y0:=hy.1
 have c1:c<1000000000000000000:=by unfold Left at hc0;omega
 have y1:y≤999:=by unfold Carry at hy;omega
 have e2:=tdE c0
 obtain⟨m0,m1,m2⟩:∃m,dd*c.tmod 1000=m∧0≤m∧m≤998001:=⟨_,rfl,by have:=tmE c0;exact Vp hd.1 hd.2 (by omega) (by omega)⟩
 obtain⟨x,hx⟩:∃x:Int,∀h:k<l.length,l[k]=x∧0≤x∧x≤999∧(j=7→x=0):=by
  by_cases h:k<l.length
  ·exact⟨l[k],fun _=>⟨rfl,(hl.2 _ (List.getElem_mem h)).1,(hl.2 _ (List.getElem_mem h)).2,fun h7=>hz k h (by omega) (by omega)⟩⟩
  ·exact⟨0,fun h'=>absurd h' h⟩
 have hkl:0<c∨0<y→k<l.length:=by intro h;have:=hj7 h;omega
 have hq:∀h:k<l.length,(y+x+dd*c.tmod 1000).tdiv 1000=(y+x+dd*c.tmod 1000) / 1000∧0≤y+x+dd*c.tmod 1000∧y+x+dd*c.tmod 1000≤2000000:=by
  intro h
  have h1:=hx h
  have h2:0≤y+x+dd*c.tmod 1000:=by omega
  exact⟨tdE h2,h2,by omega⟩
 clear hj7
 by_cases hstop:0<c∨0<y
 ·have hk1:=hkl hstop
  obtain⟨q1,q2,q3⟩:=hq hk1
  obtain⟨x0,x1,x2,x3⟩:=hx hk1
  have hv2:val (l.set k ((y+x+dd*c.tmod 1000).tmod 1000))+(y+x+dd*c.tmod 1000).tdiv 1000*pw (k+1)+dd*c.tdiv 1000*pw (k+1)=V:=by
   have e3:=tmE q2
   have e4:=tmE c0
   rw[WO hk1,←hv,x0]
   exact row_step (m:=c.tmod 1000) (by omega) (by omega)
  have fin:∀k',k'=(k:Int)+1→again (fun m env s=>∃(j k:Nat) (c y:Int) (l:List Int),m=8-j∧k=i+j∧Left j c∧Carry j y∧QB l∧(∀ q (h:q<l.length),i+7≤q→k≤q→l[q]=0)∧val l+y*pw k+dd*c*pw k=V∧
        env=[(0,.int .i64 A),(1,.int .i64 B),(5,.own 0 0 0 14),(6,.int .i64 i),(7,.int .i64 dd),(8,.int .i64 c),(9,.int .i64 y),(10,.int .i64 k)]∧s=⟨[.arr 0 1 true true (ints l)],1⟩) (8-j)
        [(0,.int .i64 A),(1,.int .i64 B),(5,.own 0 0 0 14),(6,.int .i64 i),(7,.int .i64 dd),(8,.int .i64 (c.tdiv 1000)),(9,.int .i64 ((y+x+dd*c.tmod 1000).tdiv 1000)),(10,.int .i64 k')] ⟨[.arr 0 1 true true (ints (l.set k ((y+x+dd*c.tmod 1000).tmod 1000)))],1⟩:=by
   intro k' hk'
   have e3:=tmE q2
   refine again.mk ⟨_,?_,j+1,k+1,_,_,_,rfl,by omega,Vq hc0,ZI hc0 hy hstop ⟨x1,x2,x3⟩ hd,hl.set (by rw[e3];omega),fun q h h1 h2=>?_,hv2,by rw[hk'];rfl,rfl⟩
   ·have:j≤7:=by unfold Left Carry at *;omega
    omega
   ·rw[List.length_set]at h
    rw[List.getElem_set_ne (by omega)]
    exact hz q h h1 (by omega)
  clear hx hq hkl hz hl hc0 hy m2 hv hv2
  (conv=>whnf);repeat' (first|(refine kA ?_;conv=>whnf)|(refine Br.mk (fun hc=>?_) fun hc=>?_<;>first|exact hc.elim|conv=>whnf)|(rw [x0];conv=>whnf)|(refine kB ?_))
  all_goals exact fin _ rfl
 ·clear hx hq hkl
  have hv2:val l=V:=by
   obtain rfl:c=0:=by omega
   obtain rfl:y=0:=by omega
   rw[Int.mul_zero,Int.zero_mul]at hv
   omega
  clear hv
  (conv=>whnf);repeat' (first|(refine kA ?_;conv=>whnf)|(refine Br.mk (fun hc=>?_) fun hc=>?_<;>first|exact hc.elim|conv=>whnf)  |(refine kB ?_))
  exact hQ l _ _ _ hl (fun q h h1=>hz q h (by omega) (by omega)) hv2
theorem Aig {a b:Int} (ha:0≤a∧a≤1000000000000000) (hb:0≤b∧b≤1000000000000000):Ah (Ac tab) 44 [.int .i64 a,.int .i64 b] (fun v=>∃l,v=Xj true l∧QB l∧val l=a*b):=by
 obtain⟨V,hV⟩:∃V,a*b=V:=⟨_,rfl⟩
 rw[hV]
 refine Ad rfl rfl ?_
 (conv=>whnf);repeat' (first|(refine kA ?_;conv=>whnf)|(refine Br.mk (fun hc=>?_) fun hc=>?_<;>first|exact hc.elim|conv=>whnf)  |(refine kB ?_))
 refine Ai (fun m env s=>∃(i:Nat) (a:Int) (l:List Int),m=7-i∧i≤6∧Left i a∧QB l∧(∀ q (h:q<l.length),i+7≤q→l[q]=0)∧val l+a*b*pw i=V∧env=[(0,.int .i64 a),(1,.int .i64 b),(5,.own 0 0 0 14),(6,.int .i64 i)]∧s=⟨[.arr 0 1 true true (ints l)],1⟩) ?_ _ _ _ ⟨0,a,List.replicate 14 0,rfl,by omega,by unfold Left;omega,⟨by simp,by intro x hx;have:=List.eq_of_mem_replicate hx;omega⟩,fun q h _=>List.getElem_replicate _,by rw[val_zero];show 0+a*b*1=V;omega,rfl,rfl⟩
 clear ha hV a
 rintro _ _ _ ⟨i,a,l,rfl,hi,hL,hl,hz,hv,rfl,rfl⟩
 refine⟨rfl,?_⟩
 have a0:=hL.1
 have e1:=tmE a0
 have e2:=tdE a0
 have a1:a<1000000000000000000:=by unfold Left at hL;omega
 have hst:∀v1,v1=val l+a.tmod 1000*b*pw i→v1+a.tdiv 1000*b*pw (i+1)=V:=fun v1 h=>by
  rw[← hv]
  exact Aeg (by omega) h
 have hend:¬0<a→val l=V:=fun h=>by
  obtain rfl:a=0:=by omega
  rw[Int.zero_mul,Int.zero_mul]at hv
  omega
 clear hv
 (conv=>whnf);repeat' (first|(refine kA ?_;conv=>whnf)|(refine Br.mk (fun hc=>?_) fun hc=>?_<;>first|exact hc.elim|conv=>whnf)  |(refine kB ?_))
 ·have hi5:i≤5:=by unfold Left at hL;omega
  refine AfV (dd:=a.tmod 1000) hi5 hl hz (by omega) hb ?_
  intro l' c k y hl' hz' hv'
  have hv':=hst _ hv'
  (conv=>whnf);repeat' (first|(refine kA ?_;conv=>whnf)|(refine Br.mk (fun hc=>?_) fun hc=>?_<;>first|exact hc.elim|conv=>whnf)  |(refine kB ?_))
  exact again.mk ⟨_,by omega,i+1,_,l',rfl,by omega,Vq hL,hl',hz',hv',rfl,rfl⟩
 ·refine need.mk ⟨rfl,by rw[lI,hl.1];omega⟩ (AU (b:=ints l) ?_ ⟨l,rfl,hl,hend (by assumption)⟩)
  have:=@uI l
  rw[hl.1]at this
  exact this
theorem FP:∀{l:List Int},(∀ x∈l,0≤x∧x≤999)→0≤val l
 |[],_=>Int.le_refl 0
 |x::l,h=>by
  have h1:=h x (List.mem_cons_self ..)
  have h2:=FP (l:=l) fun y hy=>h y (List.mem_cons_of_mem _ hy)
  show 0≤x+1000*val l
  omega
theorem AaP {n:Int} (h:0<n):sgn n=1:=by unfold sgn;rw[if_neg (by omega),if_pos h]
theorem WU {n:Int} (h:KL n):Ah (Ac tab) 45 [.int .i64 n] (· =.int .i64 (n.natAbs:Int)):=by
 unfold KL at h
 obtain⟨v,⟨z,rfl,z0,z1⟩,hz⟩:=(size (n:=n) (by omega) (by omega)).YI
 rwa [show z=(n.natAbs:Int) by omega]at hz
def fv (x:Nat×Nat):AV:=.agg [.int .i64 x.1,.int .i64 x.2]
theorem vnF {x:Nat×Nat} (h:Uw x):VF (x.1:Int) (x.2:Int):=by
 obtain⟨h1,h2,h3,h4⟩:=h
 unfold F9 at*
 exact⟨by omega,by omega,by unfold KL;omega,h4⟩
theorem Hl {a:Nat} (h:a≤F9):KL (a:Int):=by unfold F9 at h;unfold KL;omega
theorem Xc {a:Nat} (h:a≤F9):Ah (Ac tab) 68 [.int .i64 (a:Int)] (· =.bool true):=by
 have:=inP (n:=(a:Int));rwa [decide_eq_true (Hl h)]at this
theorem ofP {a b:Nat} (ha:a≤F9) (hb:b≤F9) (h0:0<b):Ah (Ac tab) 31 [.int .i64 a,.int .i64 b] (· =.Ce [fv (KN a b),.bool true]):=by
 have i1:=Xc ha
 have i2:=Xc hb
 have hg:=AfR (Hl ha) (Hl hb)
 simp only[Int.natAbs_natCast]at hg
 have hgp:0<Nat.gcd a b:=Nat.gcd_pos_of_pos_right a h0
 have hgl:Nat.gcd a b≤b:=Nat.gcd_le_right a h0
 unfold KN fv
 unfold F9 at ha hb
 have q1:a / Nat.gcd a b≤a:=Nat.div_le_self _ _
 have q2:b / Nat.gcd a b≤b:=Nat.div_le_self _ _
 have e1:((a:Int)).tdiv (Nat.gcd a b:Nat)=((a / Nat.gcd a b:Nat):Int):=by rw[Int.ofNat_tdiv]
 have e2:((b:Int)).tdiv (Nat.gcd a b:Nat)=((b / Nat.gcd a b:Nat):Int):=by rw[Int.ofNat_tdiv]
 generalize a / Nat.gcd a b=A at*
 generalize b / Nat.gcd a b=B at*
 generalize Nat.gcd a b=g at*
 refine Ad rfl rfl ?_
 (conv=>whnf);repeat' (first|((first|refine Aa i1 ?_|refine Aa i2 ?_|refine Aa hg ?_);rintro _ rfl;conv=>whnf)|(refine AU e1 ?_;conv=>whnf)|(refine AU e2 ?_;conv=>whnf)|(rw [e1];conv=>whnf)|(rw [e2];conv=>whnf)|(refine kA ?_;conv=>whnf)|(refine Br.mk (fun hc=>?_) fun hc=>?_<;>first|exact hc.elim|conv=>whnf)|(refine kB ?_))
 all_goals first|rfl|(exfalso;omega)
theorem UG (x y:Nat):((x:Int)).tdiv (y:Int)=((x / y:Nat):Int):=by rw[Int.ofNat_tdiv]
theorem AkE (x y:Nat):((x:Int)).tmod (y:Int)=((x % y:Nat):Int):=by rw[Int.ofNat_tmod]
theorem AeL {lo y:Nat} (hl:lo<18446744073709551616) (hy:0<y) (hy2:y<18446744073709551616):Ah (Ac tab) 113 [.int .u64 0,.int .u64 lo,.int .u64 y] (· =.Ce [.int .u64 ((lo / y:Nat):Int),.int .u64 ((lo % y:Nat):Int)]):=by
 have e1:=UG lo y
 have e2:=AkE lo y
 have q1:lo / y≤lo:=Nat.div_le_self _ _
 generalize lo / y=A at*
 generalize lo % y=B at*
 refine Ad rfl rfl ?_
 (conv=>whnf);repeat' (first|(refine wU (A:Int) (by omega) ?_;conv=>whnf)|(rw [e1];conv=>whnf)|(rw [e2];conv=>whnf)|(refine kA ?_;conv=>whnf)|(refine Br.mk (fun hc=>?_) fun hc=>?_<;>first|exact hc.elim|conv=>whnf)|(refine kB ?_))
 all_goals first|rfl|(exfalso;omega)
theorem AkF {b:Bool} {m d:Nat} (hm:m<18446744073709551616) (hd:0<d) (hd2:d<18446744073709551616):Ah (Ac tab) 75 [wd b m,.int .u64 d] (· =.int .u64 ((m % d:Nat):Int)):=by
 have h:=AeL hm hd hd2
 have e0:m / 18446744073709551616=0:=Nat.div_eq_of_lt hm
 have e1:m % 18446744073709551616=m:=Nat.mod_eq_of_lt hm
 unfold wd
 rw[e0,e1]
 have e2:((0:Nat):Int).tmod (d:Int)=0:=by rw[AkE,Nat.zero_mod];rfl
 generalize m / d=A at*
 generalize m % d=B at*
 refine Ad rfl rfl ?_
 (conv=>whnf);repeat' (first|(rw [e2];conv=>whnf)|(refine Aa h ?_;rintro _ rfl;conv=>whnf)|(refine kA ?_;conv=>whnf)|(refine Br.mk (fun hc=>?_) fun hc=>?_<;>first|exact hc.elim|conv=>whnf)|(refine kB ?_))
 all_goals first|rfl|(exfalso;omega)
theorem AkG {m d:Nat} (hm:m<18446744073709551616) (hd:0<d) (hd2:d<18446744073709551616):Ah (Ac tab) 76 [wd false m,.int .u64 d] (· =if m / d≤F9 then .Ce [.int .i64 ((m / d:Nat):Int),.bool true]else .Ce [.int .i64 0,.bool false]):=by
 have h:=AeL hm hd hd2
 have e0:m / 18446744073709551616=0:=Nat.div_eq_of_lt hm
 have e1:m % 18446744073709551616=m:=Nat.mod_eq_of_lt hm
 unfold wd
 rw[e0,e1]
 have q1:m / d≤m:=Nat.div_le_self _ _
 generalize m / d=A at*
 generalize m % d=B at*
 unfold F9
 by_cases hA:A≤1000000000000000
 ·rw[if_pos hA]
  refine Ad rfl rfl ?_
  (conv=>whnf);repeat' (first|(refine Aa h ?_;rintro _ rfl;conv=>whnf)|(refine kA ?_;conv=>whnf)|(refine Br.mk (fun hc=>?_) fun hc=>?_<;>first|exact hc.elim|conv=>whnf)|(refine kB ?_))
  all_goals first|rfl|(exfalso;omega)
 ·rw[if_neg hA]
  refine Ad rfl rfl ?_
  (conv=>whnf);repeat' (first|(refine Aa h ?_;rintro _ rfl;conv=>whnf)|(refine kA ?_;conv=>whnf)|(refine Br.mk (fun hc=>?_) fun hc=>?_<;>first|exact hc.elim|conv=>whnf)|(refine kB ?_))
  all_goals first|rfl|(exfalso;omega)
theorem Agn {a b:Nat} (ha:a≤F9) (hb:b≤F9) (h0:0<a):Ah (Ac tab) 77 [.int .i64 a,.int .i64 b] (· =if a*b≤F9 then .Ce [.int .i64 ((a*b:Nat):Int),.bool true]else .Ce [.int .i64 0,.bool false]):=by
 have i1:=Xc ha
 have i2:=Xc hb
 have a1:=absP (Hl ha)
 have a2:=absP (Hl hb)
 simp only[Int.natAbs_natCast]at a1 a2
 have hd:=UG 1000000000000000 a
 have key:a*b≤1000000000000000↔b≤1000000000000000 / a:=by
  rw[Nat.le_div_iff_mul_le h0,Nat.mul_comm]
 unfold F9 at*
 have e1:((a:Int)*(b:Int))=((a*b:Nat):Int):=(Int.natCast_mul a b).symm
 generalize a*b=P at*
 have q1:1000000000000000 / a≤1000000000000000:=Nat.div_le_self _ _
 generalize hD:1000000000000000 / a=D at*
 have hd:(1000000000000000:Int).tdiv (a:Int)=(D:Int):=hd
 by_cases hP:P≤1000000000000000
 ·rw[if_pos hP]
  have:=key.1 hP
  refine Ad rfl rfl ?_
  (conv=>whnf);repeat' (first|((first|refine Aa i1 ?_|refine Aa i2 ?_|refine Aa a1 ?_|refine Aa a2 ?_);rintro _ rfl;conv=>whnf)|(rw [hd];conv=>whnf)|(rw [e1];conv=>whnf)|(refine kA ?_;conv=>whnf)|(refine Br.mk (fun hc=>?_) fun hc=>?_<;>first|exact hc.elim|conv=>whnf)|(refine kB ?_))
  all_goals first|rfl|(exfalso;omega)
 ·rw[if_neg hP]
  have:¬b≤D:=fun h=>hP (key.2 h)
  refine Ad rfl rfl ?_
  (conv=>whnf);repeat' (first|((first|refine Aa i1 ?_|refine Aa i2 ?_|refine Aa a1 ?_|refine Aa a2 ?_);rintro _ rfl;conv=>whnf)|(rw [hd];conv=>whnf)|(rw [e1];conv=>whnf)|(refine kA ?_;conv=>whnf)|(refine Br.mk (fun hc=>?_) fun hc=>?_<;>first|exact hc.elim|conv=>whnf)|(refine kB ?_))
  all_goals first|rfl|(exfalso;omega)
def Vh (o:Option (Nat×Nat)):AV:=match o with|some z=>.Ce [fv z,.bool true]|none=>.Ce [fv (0,0),.bool false]
theorem X8 {k:IntKind} {x:Int}:AL (.int k x) (.int k x)=true:=by simp[AL]
set_option maxHeartbeats 4000000 in
theorem AkH {x y:Nat×Nat} (hx:Uw x) (hy:Uw y) (h1:0<y.1) (h2:y.1≤4096) (h3:y.2≤4096):Ah (Ac tab) 36 [fv x,fv y] (· =Vh (addN x y)):=by
 obtain⟨a,b⟩:=x
 obtain⟨c,d⟩:=y
 have v1:Ah (Ac tab) 71 [fv (a,b)] (· =.bool true):=by have:=fvP (n:=(a:Int)) (d:=(b:Int));rwa [decide_eq_true (vnF hx)]at this
 have v2:Ah (Ac tab) 71 [fv (c,d)] (· =.bool true):=by have:=fvP (n:=(c:Int)) (d:=(d:Int));rwa [decide_eq_true (vnF hy)]at this
 obtain⟨hb1,hb2,ha,_⟩:=hx
 obtain⟨hd1,hd2,hc,_⟩:=hy
 dsimp only at*
 have gP:=AfR (Hl hb2) (Hl hd2)
 simp only[Int.natAbs_natCast]at gP
 have hg:0<Nat.gcd b d:=Nat.gcd_pos_of_pos_right b hd1
 have hgl:Nat.gcd b d≤d:=Nat.gcd_le_right b hd1
 have hgb:Nat.gcd b d≤b:=Nat.gcd_le_left d hb1
 unfold addN Xl VK
 dsimp only
 generalize Nat.gcd b d=g at*
 have k1:=UG b g
 have k2:=UG d g
 have hb':b / g≤b:=Nat.div_le_self _ _
 have hd':d / g≤d:=Nat.div_le_self _ _
 generalize hB:b / g=B at*
 generalize hD:d / g=D at*
 have hBM:B≤F9:=by omega
 have hDM:D≤F9:=by omega
 have p1:=Yc (Hl ha) (Hl hDM)
 have p2:=Yc (Hl hc) (Hl hBM)
 simp only[Int.natAbs_natCast,decide_eq_false (show ¬((a:Int)<0) by omega),decide_eq_false (show ¬((c:Int)<0) by omega),decide_eq_false (show ¬((B:Int)<0) by omega),decide_eq_false (show ¬((D:Int)<0) by omega)]at p1 p2
 have m1:a*D≤1000000000000000*4096:=Nat.mul_le_mul ha (by omega)
 have m2:c*B≤4096*1000000000000000:=Nat.mul_le_mul h2 (by unfold F9 at *;omega)
 have hB0:0<B:=by rw[← hB];exact Nat.div_pos hgb hg
 have m3:0<c*B:=Nat.mul_pos h1 hB0
 generalize a*D=X at*
 generalize c*B=Y at*
 have p3:=Aj9 (a:=false) (b:=false) (m:=X) (n:=Y) (by omega) (by omega)
 rw[show ZJ false X false Y=wd false (X+Y) from if_pos rfl]at p3
 obtain⟨t,ht⟩:∃t,X+Y=t:=⟨_,rfl⟩
 rw[ht]at p3 ⊢
 rw[if_neg (show ¬t=0 by omega)]
 have s1:=Aka (a:=false) (m:=t) (by omega)
 rw[show sgW false t=1 by unfold sgW;rw[if_neg (by omega),if_neg (by decide)]]at s1
 have md:=AkF (b:=false) (m:=t) (d:=g) (by omega) hg (by unfold F9 at *;omega)
 have hr:=Nat.mod_lt t hg
 have g2:=AfR (Hl (show t % g≤F9 by unfold F9 at *;omega)) (Hl (show g≤F9 by unfold F9 at *;omega))
 simp only[Int.natAbs_natCast]at g2
 rw[← Nat.gcd_rec,Nat.gcd_comm]at g2
 generalize t % g=r at*
 have hh:0<Nat.gcd t g:=Nat.gcd_pos_of_pos_right t hg
 have hhl:Nat.gcd t g≤g:=Nat.gcd_le_right t hg
 generalize Nat.gcd t g=h at*
 have ov:=AkG (m:=t) (d:=h) (by omega) hh (by unfold F9 at *;omega)
 have k3:=UG d h
 have hE:d / h≤d:=Nat.div_le_self _ _
 generalize d / h=E at*
 have nm:=Agn (a:=B) (b:=E) hBM (by omega) hB0
 generalize t / h=n at*
 generalize B*E=q at*
 have pp:∀k:Bool,(k != k)=false:=by decide
 simp only[pp]at p1 p2
 unfold F9 at*
 obtain⟨R,hR⟩:∃R,R=(if n≤1000000000000000∧q≤1000000000000000 then some (n,q)else none):=⟨_,rfl⟩
 rw[← hR]
 by_cases c1:n≤1000000000000000<;>by_cases c2:q≤1000000000000000
 all_goals (
  simp only[c1,c2,and_self,and_true,and_false,if_true,if_false]at hR ov nm
  subst hR
  refine Ad rfl rfl ?_
  (conv=>whnf);repeat' (first|(refine Ak X8 ?_;conv=>whnf)|(refine wU (g:Int) (by omega) ?_;conv=>whnf)|(refine wU (h:Int) (by omega) ?_;conv=>whnf)|((first|refine Aa v1 ?_|refine Aa v2 ?_|refine Aa gP ?_);rintro _ rfl;conv=>whnf)|(rw [k1];conv=>whnf)|(rw [k2];conv=>whnf)|(rw [k3];conv=>whnf)|((first|refine Aa p1 ?_|refine Aa p2 ?_|refine Aa p3 ?_|refine Aa s1 ?_|refine Aa md ?_|refine Aa g2 ?_|refine Aa ov ?_|refine Aa nm ?_);rintro _ rfl;conv=>whnf)|(refine kA ?_;conv=>whnf)|(refine Br.mk (fun hc=>?_) fun hc=>?_<;>first|exact hc.elim|conv=>whnf)|(refine kB ?_)))
 all_goals first|rfl|(exfalso;omega)
end AI
end Go.Proofs.YtchcadfjbkkgmaaGreatDoor
