/- The program's wide numbers: products, sums, signs; fractions compared. The reference's wide numbers: they are reckoned without a panic. The reference's numbers, classes, strings compared. The reference's comparison of a fraction with itself. Numbers by their digits to the base 1000: plain. The reference's wide numbers: what their product and their order are. Fractions compared: the program's way and the reference's. frac.Of, frac.Add of the program. Closeness: the program's. Betweenness: the program's. -/
import Derived.Test.YtiimoiecghmebaaDoorFMaj
import Derived.Test.YtiimoiecghmebaaDoorFMaa
import Derived.Test.YtiimoiecghmebaaDoorFMah
import Derived.Test.YtiimoiecghmebaaDoorFMae
import Derived.Test.YtiimoiecghmebaaDoorFMag
set_option linter.unusedVariables false
namespace Go.Proofs.YtiimoiecghmebaaDoor
namespace AI
def wd (b:Bool) (m:Nat):AV:=.agg [.bool b,.int .u64 ((m / 18446744073709551616:Nat):Int),.int .u64 ((m % 18446744073709551616:Nat):Int)]
theorem wU {z:Int} {K:AV→Prop} (y:Int) (h:z % 18446744073709551616=y) (hk:K (.int .u64 y)):IU .u64 z K:=by
 subst h
 refine CP ?_ hk
 simp[IntKind.wrap,IntKind.bits,IntKind.signed]
theorem AeV (n:Nat):(BitVec.ofInt 64 (n:Int)).toNat=n % 18446744073709551616:=by simp
theorem AgX (n:Nat):IntKind.u64.wrap (BitVec.ofInt IntKind.u64.bits (n:Int) &&& BitVec.ofInt IntKind.u64.bits 4294967295).toNat=((n % 4294967296:Nat):Int):=by
 show IntKind.u64.wrap (BitVec.ofInt 64 (n:Int) &&& BitVec.ofInt 64 ((4294967295:Nat):Int)).toNat=_
 rw[BitVec.toNat_and,AeV,AeV]
 have:(n % 18446744073709551616) &&& (4294967295 % 18446744073709551616)=n % 4294967296:=by
  rw[show (4294967295 % 18446744073709551616:Nat)=2 ^ 32-1 by rfl,Nat.and_two_pow_sub_one_eq_mod]
  omega
 rw[this]
 simp[IntKind.wrap,IntKind.bits,IntKind.signed]
 omega
theorem or0 {a b:Nat} (ha:a<18446744073709551616) (hb:b<18446744073709551616):IntKind.u64.wrap (BitVec.ofInt IntKind.u64.bits (a:Int) ||| BitVec.ofInt IntKind.u64.bits (b:Int)).toNat=0↔a=0∧b=0:=by
 show IntKind.u64.wrap (BitVec.ofInt 64 (a:Int) ||| BitVec.ofInt 64 (b:Int)).toNat=0↔_
 have h:=(BitVec.ofInt 64 (a:Int) ||| BitVec.ofInt 64 (b:Int)).isLt
 have e:IntKind.u64.wrap (BitVec.ofInt 64 (a:Int) ||| BitVec.ofInt 64 (b:Int)).toNat=((BitVec.ofInt 64 (a:Int) ||| BitVec.ofInt 64 (b:Int)).toNat:Int):=by
  simp only[IntKind.wrap,IntKind.bits,IntKind.signed,Bool.false_and,Bool.false_eq_true,if_false]
  omega
 rw[e,BitVec.toNat_or,AeV,AeV,Nat.mod_eq_of_lt ha,Nat.mod_eq_of_lt hb]
 constructor
 ·intro h
  have h:a ||| b=0:=by omega
  exact Nat.or_eq_zero_iff.1 h
 ·rintro⟨rfl,rfl⟩;rfl
theorem TS (n:Nat):((n:Int)).fdiv (2 ^ (min (Int.toNat 32) IntKind.u64.bits))=((n / 4294967296:Nat):Int):=by
 rw[show (2:Int) ^ (min (Int.toNat 32) IntKind.u64.bits)=4294967296 by rfl,Int.fdiv_eq_ediv_of_nonneg _ (by omega)]
 rfl
theorem mulN {a b:Nat} {A B:Nat} (ha:a≤A) (hb:b≤B) (h:A*B<18446744073709551616):((a:Int)*(b:Int)) % 18446744073709551616=((a*b:Nat):Int):=by
 have:a*b≤A*B:=Nat.mul_le_mul ha hb
 rw[Int.natCast_mul]
 have h2:((a*b:Nat):Int)<18446744073709551616:=by omega
 rw[← Int.natCast_mul]
 omega
theorem AeW (x0 x1 y0 y1:Nat):(x1*4294967296+x0)*(y1*4294967296+y0)=x1*y1*18446744073709551616+(x1*y0+x0*y1)*4294967296+x0*y0:=by
 rw[Nat.add_mul,Nat.mul_add,Nat.mul_add]
 have e1:x1*4294967296*(y1*4294967296)=x1*y1*18446744073709551616:=by
  rw[Nat.mul_mul_mul_comm]
 have e2:x1*4294967296*y0=x1*y0*4294967296:=by rw[Nat.mul_right_comm]
 have e3:x0*(y1*4294967296)=x0*y1*4294967296:=by rw[Nat.mul_assoc]
 rw[e1,e2,e3]
 omega
theorem AgY {x y:Nat} (hx:x<2^60) (hy:y<2^60):Aw (Ad tab) 56 [.int .u64 x,.int .u64 y] (· =.Dy [.int .u64 ((x*y / 18446744073709551616:Nat):Int),.int .u64 ((x*y % 18446744073709551616:Nat):Int)]):=by
 obtain⟨x0,hx0⟩:∃x0,x % 4294967296=x0:=⟨_,rfl⟩
 obtain⟨x1,hx1⟩:∃x1,x / 4294967296=x1:=⟨_,rfl⟩
 obtain⟨y0,hy0⟩:∃y0,y % 4294967296=y0:=⟨_,rfl⟩
 obtain⟨y1,hy1⟩:∃y1,y / 4294967296=y1:=⟨_,rfl⟩
 have bx0:x0≤4294967295:=by omega
 have bx1:x1≤268435455:=by omega
 have by0:y0≤4294967295:=by omega
 have by1:y1≤268435455:=by omega
 have ex:=AeW x0 x1 y0 y1
 rw[show x1*4294967296+x0=x by omega,show y1*4294967296+y0=y by omega]at ex
 have p00:=Nat.mul_le_mul bx0 by0
 have p10:=Nat.mul_le_mul bx1 by0
 have p01:=Nat.mul_le_mul bx0 by1
 have p11:=Nat.mul_le_mul bx1 by1
 refine Ah rfl rfl ?_
 conv=>whnf
 repeat (first|(refine Am (by first|rfl|omega) ?_;conv=>whnf))
 refine BI ((AgX x).trans (congrArg _ hx0)) ?_
 conv=>whnf
 repeat (first|(refine Am (by first|rfl|omega) ?_;conv=>whnf))
 refine BI ((TS x).trans (congrArg _ hx1)) ?_
 conv=>whnf
 repeat (first|(refine Am (by first|rfl|omega) ?_;conv=>whnf))
 refine BI ((AgX y).trans (congrArg _ hy0)) ?_
 conv=>whnf
 repeat (first|(refine Am (by first|rfl|omega) ?_;conv=>whnf))
 refine BI ((TS y).trans (congrArg _ hy1)) ?_
 conv=>whnf
 repeat (first|(refine Am (by first|rfl|omega) ?_;conv=>whnf))
 refine wU _ (mulN bx0 by0 (by decide)) ?_
 conv=>whnf
 repeat (first|(refine Am (by first|rfl|omega) ?_;conv=>whnf))
 refine wU _ (mulN bx1 by0 (by decide)) ?_
 conv=>whnf
 repeat (first|(refine Am (by first|rfl|omega) ?_;conv=>whnf))
 refine BI (TS _) ?_
 conv=>whnf
 repeat (first|(refine Am (by first|rfl|omega) ?_;conv=>whnf))
 refine wU ((x1*y0+x0*y0 / 4294967296:Nat):Int) (by omega) ?_
 conv=>whnf
 repeat (first|(refine Am (by first|rfl|omega) ?_;conv=>whnf))
 refine BI (AgX _) ?_
 conv=>whnf
 repeat (first|(refine Am (by first|rfl|omega) ?_;conv=>whnf))
 refine BI (TS _) ?_
 conv=>whnf
 repeat (first|(refine Am (by first|rfl|omega) ?_;conv=>whnf))
 refine wU _ (mulN bx0 by1 (by decide)) ?_
 conv=>whnf
 repeat (first|(refine Am (by first|rfl|omega) ?_;conv=>whnf))
 refine wU (((x1*y0+x0*y0 / 4294967296) % 4294967296+x0*y1:Nat):Int) (by omega) ?_
 conv=>whnf
 repeat (first|(refine Am (by first|rfl|omega) ?_;conv=>whnf))
 refine wU _ (mulN bx1 by1 (by decide)) ?_
 conv=>whnf
 repeat (first|(refine Am (by first|rfl|omega) ?_;conv=>whnf))
 refine wU ((x1*y1+(x1*y0+x0*y0 / 4294967296) / 4294967296:Nat):Int) (by omega) ?_
 conv=>whnf
 repeat (first|(refine Am (by first|rfl|omega) ?_;conv=>whnf))
 refine BI (TS _) ?_
 conv=>whnf
 repeat (first|(refine Am (by first|rfl|omega) ?_;conv=>whnf))
 refine wU ((x1*y1+(x1*y0+x0*y0 / 4294967296) / 4294967296+((x1*y0+x0*y0 / 4294967296) % 4294967296+x0*y1) / 4294967296:Nat):Int) (by omega) ?_
 conv=>whnf
 repeat (first|(refine Am (by first|rfl|omega) ?_;conv=>whnf))
 refine wU ((x*y % 18446744073709551616:Nat):Int) (by rw[← Int.natCast_mul];omega) ?_
 conv=>whnf
 rw[ex]
 repeat (refine Bv rfl ?_;conv=>whnf)
 have e1:∀z z':Nat,z=z'→∀w:AV,AV.Dy [.int .u64 ((z:Nat):Int),w]=.Dy [.int .u64 ((z':Nat):Int),w]:=fun z z' h w=>by rw[h]
 exact e1 _ _ (by omega) _
theorem Aaj {n:Int} (h:O6 n):n.natAbs≤1000000000000000:=by unfold O6 at h;omega
theorem AfM {n:Int} (h:O6 n):Aw (Ad tab) 57 [.int .i64 n] (· =.int .u64 (n.natAbs:Int)):=by
 unfold O6 at h
 refine Ah rfl rfl ?_
 (conv=>whnf);repeat' (first|(refine wU (n+18446744073709551616) (by omega) ?_;conv=>whnf)|(refine wU (n.natAbs:Int) (by omega) ?_;conv=>whnf)|(refine kA ?_;conv=>whnf)|(refine Br.mk (fun hc=>?_) fun hc=>?_<;>first|exact hc.elim|conv=>whnf)|(refine kB ?_))
 all_goals first|rfl
theorem TT {b:Bool} {m:Nat} {x y:Int} {c:Bool} (h1:b=c) (h2:((m / 18446744073709551616:Nat):Int)=x) (h3:((m % 18446744073709551616:Nat):Int)=y):AV.agg [.bool c,.int .u64 x,.int .u64 y]=wd b m:=by
 subst h1 h2 h3;rfl
theorem XR {a b:Int} (ha:O6 a) (hb:O6 b):Aw (Ad tab) 34 [.int .i64 a,.int .i64 b] (· =wd (decide (a<0) != decide (b<0)) (a.natAbs*b.natAbs)):=by
 have h1:=Aaj ha
 have h2:=Aaj hb
 have h3:=AgY (x:=a.natAbs) (y:=b.natAbs) (by omega) (by omega)
 refine Ah rfl rfl ?_
 (conv=>whnf);repeat' (first|((first|refine Ac (AfM ha) ?_|refine Ac (AfM hb) ?_|refine Ac h3 ?_);rintro _ rfl;conv=>whnf)|(refine kA ?_;conv=>whnf)|(refine Br.mk (fun hc=>?_) fun hc=>?_<;>first|exact hc.elim|conv=>whnf)|(refine kB ?_))
 all_goals first
  |exact TT (by rw[decide_eq_true (show a<0 by omega),decide_eq_true (show b<0 by omega)];rfl) rfl rfl
  |exact TT (by rw[decide_eq_true (show a<0 by omega),decide_eq_false (show ¬b<0 by omega)];rfl) rfl rfl
  |exact TT (by rw[decide_eq_false (show ¬a<0 by omega),decide_eq_true (show b<0 by omega)];rfl) rfl rfl
  |exact TT (by rw[decide_eq_false (show ¬a<0 by omega),decide_eq_false (show ¬b<0 by omega)];rfl) rfl rfl
theorem AiV {x y c:Nat} (hc:c≤1):Aw (Ad tab) 58 [.int .u64 x,.int .u64 y,.int .u64 c] (· =.Dy [.int .u64 (((x+y+c) % 18446744073709551616:Nat):Int),.int .u64 (((x+y+c) / 18446744073709551616:Nat):Int)]):=by
 refine PX (sp:=addSpec) (v:=.Dy [.int .u64 (((x+y+c) % 18446744073709551616:Nat):Int),.int .u64 (((x+y+c) / 18446744073709551616:Nat):Int)]) (s:=⟨[],0⟩) rfl ?_ rfl rfl
 show(if 0≤(x:Int)∧0≤(y:Int)∧0≤(c:Int)∧(c:Int)≤1 then _ else _)=_
 rw[if_pos ⟨by omega,by omega,by omega,by omega⟩]
 rfl
theorem AeX {x y c:Nat} (hc:c≤1) (h:y+c≤x+18446744073709551616):Aw (Ad tab) 60 [.int .u64 x,.int .u64 y,.int .u64 c] (· =.Dy [.int .u64 (((x+18446744073709551616-y-c) % 18446744073709551616:Nat):Int),.int .u64 ((if x<y+c then 1 else 0:Nat):Int)]):=by
 refine PX (sp:=NW) (v:=.Dy [.int .u64 (((x+18446744073709551616-y-c) % 18446744073709551616:Nat):Int),.int .u64 ((if x<y+c then 1 else 0:Nat):Int)]) (s:=⟨[],0⟩) rfl ?_ rfl rfl
 show(if 0≤(x:Int)∧0≤(y:Int)∧0≤(c:Int)∧(c:Int)≤1∧(y:Int)+c≤x+m64 then _ else _)=_
 rw[if_pos ⟨by omega,by omega,by omega,by omega,by unfold m64;omega⟩]
 have e1:((x:Int)+m64-y-c) % m64=(((x+18446744073709551616-y-c) % 18446744073709551616:Nat):Int):=by
  unfold m64;omega
 have e2:(if (x:Int)<y+c then(1:Int)else 0)=((if x<y+c then 1 else 0:Nat):Int):=by
  split<;>split<;>omega
 rw[e1,e2]
theorem AfN {a b:Bool} {m n:Nat}:Aw (Ad tab) 59 [wd a m,wd b n] (· =.bool (decide (m<n))):=by
 refine Ah rfl rfl ?_
 (conv=>whnf);repeat' (first  |(refine kA ?_;conv=>whnf)|(refine Br.mk (fun hc=>?_) fun hc=>?_<;>first|exact hc.elim|conv=>whnf)|(refine kB ?_))
 all_goals first|exact Fg (by omega)|exact Dn (by omega)
def Y4 (a:Bool) (m:Nat) (b:Bool) (n:Nat):AV:=if a=b then wd a (m+n)else if m<n then wd b (n-m)else wd a (m-n)
theorem AiE {a b:Bool} {m n:Nat} (hm:m<2^120) (hn:n<2^120):Aw (Ad tab) 35 [wd a m,wd b n] (· =Y4 a m b n):=by
 have c1:=AiV (x:=m % 18446744073709551616) (y:=n % 18446744073709551616) (c:=0) (by omega)
 have c2:=AiV (x:=m / 18446744073709551616) (y:=n / 18446744073709551616) (c:=(m % 18446744073709551616+n % 18446744073709551616+0) / 18446744073709551616) (by omega)
 have d1:=AeX (x:=m % 18446744073709551616) (y:=n % 18446744073709551616) (c:=0) (by omega) (by omega)
 have d2:=AeX (x:=m / 18446744073709551616) (y:=n / 18446744073709551616) (c:=if m % 18446744073709551616<n % 18446744073709551616+0 then 1 else 0) (by split<;>omega) (by split<;>omega)
 have f1:=AeX (x:=n % 18446744073709551616) (y:=m % 18446744073709551616) (c:=0) (by omega) (by omega)
 have f2:=AeX (x:=n / 18446744073709551616) (y:=m / 18446744073709551616) (c:=if n % 18446744073709551616<m % 18446744073709551616+0 then 1 else 0) (by split<;>omega) (by split<;>omega)
 by_cases hab:a=b
 ·have e:Y4 a m b n=wd a (m+n):=if_pos hab
  rw[e]
  subst hab
  cases a
  all_goals
   refine Ah rfl rfl ?_
   (conv=>whnf);repeat' (first|((first|refine Ac c1 ?_|refine Ac c2 ?_);rintro _ rfl;conv=>whnf)|(refine kA ?_;conv=>whnf)|(refine Br.mk (fun hc=>?_) fun hc=>?_<;>first|exact hc.elim|conv=>whnf)|(refine kB ?_))
   all_goals first|(show AV.agg [.bool _,.int .u64 ((_:Nat):Int),.int .u64 ((_:Nat):Int)]=wd _ _;exact TT rfl (by omega) (by omega))
 by_cases hlt:m<n
 ·have e:Y4 a m b n=wd b (n-m):=by unfold Y4;rw[if_neg hab,if_pos hlt]
  have hl:Aw (Ad tab) 59 [wd a m,wd b n] (· =.bool true):=by
   have:=AfN (a:=a) (b:=b) (m:=m) (n:=n);rwa [decide_eq_true hlt]at this
  rw[e]
  cases a<;>cases b<;>(try exact absurd rfl hab)
  all_goals
   refine Ah rfl rfl ?_
   (conv=>whnf);repeat' (first|((first|refine Ac hl ?_|refine Ac f1 ?_|refine Ac f2 ?_);rintro _ rfl;conv=>whnf)|(refine kA ?_;conv=>whnf)|(refine Br.mk (fun hc=>?_) fun hc=>?_<;>first|exact hc.elim|conv=>whnf)|(refine kB ?_))
   all_goals first|(show AV.agg [.bool _,.int .u64 ((_:Nat):Int),.int .u64 ((_:Nat):Int)]=wd _ _;exact TT rfl (by split<;>omega) (by omega))
 ·have e:Y4 a m b n=wd a (m-n):=by unfold Y4;rw[if_neg hab,if_neg hlt]
  have hl:Aw (Ad tab) 59 [wd a m,wd b n] (· =.bool false):=by
   have:=AfN (a:=a) (b:=b) (m:=m) (n:=n);rwa [decide_eq_false hlt]at this
  rw[e]
  cases a<;>cases b<;>(try exact absurd rfl hab)
  all_goals
   refine Ah rfl rfl ?_
   (conv=>whnf);repeat' (first|((first|refine Ac hl ?_|refine Ac d1 ?_|refine Ac d2 ?_);rintro _ rfl;conv=>whnf)|(refine kA ?_;conv=>whnf)|(refine Br.mk (fun hc=>?_) fun hc=>?_<;>first|exact hc.elim|conv=>whnf)|(refine kB ?_))
   all_goals first|(show AV.agg [.bool _,.int .u64 ((_:Nat):Int),.int .u64 ((_:Nat):Int)]=wd _ _;exact TT rfl (by split<;>omega) (by omega))
def sgW (a:Bool) (m:Nat):Int:=if m=0 then 0 else if a=true then -1 else 1
theorem AiF {a:Bool} {m:Nat} (hm:m<2^127):Aw (Ad tab) 36 [wd a m] (· =.int .i64 (sgW a m)):=by
 obtain⟨z,hz,hz0⟩:∃z,IntKind.u64.wrap (BitVec.ofInt IntKind.u64.bits ((m / 18446744073709551616:Nat):Int) ||| BitVec.ofInt IntKind.u64.bits ((m % 18446744073709551616:Nat):Int)).toNat=z∧(z=0↔m=0):=⟨_,rfl,by
  rw[or0 (by omega) (by omega)];omega⟩
 refine Ah rfl rfl ?_
 (conv=>whnf);repeat' (first|(refine BI hz ?_;conv=>whnf)|(refine kA ?_;conv=>whnf)|(refine Br.mk (fun hc=>?_) fun hc=>?_<;>first|exact hc.elim|conv=>whnf)|(refine kB ?_))
 all_goals first
  |exact congrArg (AV.int .i64) (by unfold sgW;rw[if_pos (by omega)])
  |exact congrArg (AV.int .i64) (by unfold sgW;rw[if_neg (by omega),if_pos (by assumption)])
  |exact congrArg (AV.int .i64) (by unfold sgW;rw[if_neg (by omega)];simp_all)
def Dig (l:List Int):Prop:=l.length=14∧∀x∈l,0≤x∧x≤999
theorem Dig.set {l:List Int} (h:Dig l) {k:Nat} {y:Int} (hy:0≤y∧y≤999):Dig (l.set k y):=by
 refine⟨by rw[List.length_set];exact h.1,fun x hx=>?_⟩
 rcases List.mem_or_eq_of_mem_set hx with hx|rfl
 ·exact h.2 x hx
 ·exact hy
def Carry (j:Nat) (y:Int):Prop:=0≤y∧((j≤6∧y≤999)∨(j=7∧y≤1)∨(j=8∧y=0))
def sgn (n:Int):Int:=if n<0 then -1 else if 0<n then 1 else 0
def val:List Int→Int
 |[]=>0
 |x::l=>x+1000*val l
def fv (x:Nat×Nat):AV:=.agg [.int .i64 x.1,.int .i64 x.2]
theorem vnF {x:Nat×Nat} (h:Vk x):VF (x.1:Int) (x.2:Int):=by
 obtain⟨h1,h2,h3,h4⟩:=h
 unfold NK at*
 exact⟨by omega,by omega,by unfold O6;omega,h4⟩
theorem Ju {a:Nat} (h:a≤NK):O6 (a:Int):=by unfold NK at h;unfold O6;omega
theorem V8 {a:Nat} (h:a≤NK):Aw (Ad tab) 31 [.int .i64 (a:Int)] (· =.bool true):=by
 have:=inP (n:=(a:Int));rwa [decide_eq_true (Ju h)]at this
theorem ofP {a b:Nat} (ha:a≤NK) (hb:b≤NK) (h0:0<b):Aw (Ad tab) 20 [.int .i64 a,.int .i64 b] (· =.Dy [fv (Qy a b),.bool true]):=by
 have i1:=V8 ha
 have i2:=V8 hb
 have hg:=Ad1 (Ju ha) (Ju hb)
 simp only[Int.natAbs_natCast]at hg
 have hgp:0<Nat.gcd a b:=Nat.gcd_pos_of_pos_right a h0
 have hgl:Nat.gcd a b≤b:=Nat.gcd_le_right a h0
 unfold Qy fv
 unfold NK at ha hb
 have q1:a / Nat.gcd a b≤a:=Nat.div_le_self _ _
 have q2:b / Nat.gcd a b≤b:=Nat.div_le_self _ _
 have e1:((a:Int)).tdiv (Nat.gcd a b:Nat)=((a / Nat.gcd a b:Nat):Int):=by rw[Int.ofNat_tdiv]
 have e2:((b:Int)).tdiv (Nat.gcd a b:Nat)=((b / Nat.gcd a b:Nat):Int):=by rw[Int.ofNat_tdiv]
 generalize a / Nat.gcd a b=A at*
 generalize b / Nat.gcd a b=B at*
 generalize Nat.gcd a b=g at*
 refine Ah rfl rfl ?_
 (conv=>whnf);repeat' (first|((first|refine Ac i1 ?_|refine Ac i2 ?_|refine Ac hg ?_);rintro _ rfl;conv=>whnf)|(refine BI e1 ?_;conv=>whnf)|(refine BI e2 ?_;conv=>whnf)|(rw [e1];conv=>whnf)|(rw [e2];conv=>whnf)|(refine kA ?_;conv=>whnf)|(refine Br.mk (fun hc=>?_) fun hc=>?_<;>first|exact hc.elim|conv=>whnf)|(refine kB ?_))
 all_goals first|rfl|(exfalso;omega)
theorem AcW (x y:Nat):((x:Int)).tdiv (y:Int)=((x / y:Nat):Int):=by rw[Int.ofNat_tdiv]
theorem AiB (x y:Nat):((x:Int)).tmod (y:Int)=((x % y:Nat):Int):=by rw[Int.ofNat_tmod]
theorem AcX {lo y:Nat} (hl:lo<18446744073709551616) (hy:0<y) (hy2:y<18446744073709551616):Aw (Ad tab) 61 [.int .u64 0,.int .u64 lo,.int .u64 y] (· =.Dy [.int .u64 ((lo / y:Nat):Int),.int .u64 ((lo % y:Nat):Int)]):=by
 have e1:=AcW lo y
 have e2:=AiB lo y
 have q1:lo / y≤lo:=Nat.div_le_self _ _
 generalize lo / y=A at*
 generalize lo % y=B at*
 refine Ah rfl rfl ?_
 (conv=>whnf);repeat' (first|(refine wU (A:Int) (by omega) ?_;conv=>whnf)|(rw [e1];conv=>whnf)|(rw [e2];conv=>whnf)|(refine kA ?_;conv=>whnf)|(refine Br.mk (fun hc=>?_) fun hc=>?_<;>first|exact hc.elim|conv=>whnf)|(refine kB ?_))
 all_goals first|rfl|(exfalso;omega)
theorem AiC {b:Bool} {m d:Nat} (hm:m<18446744073709551616) (hd:0<d) (hd2:d<18446744073709551616):Aw (Ad tab) 37 [wd b m,.int .u64 d] (· =.int .u64 ((m % d:Nat):Int)):=by
 have h:=AcX hm hd hd2
 have e0:m / 18446744073709551616=0:=Nat.div_eq_of_lt hm
 have e1:m % 18446744073709551616=m:=Nat.mod_eq_of_lt hm
 unfold wd
 rw[e0,e1]
 have e2:((0:Nat):Int).tmod (d:Int)=0:=by rw[AiB,Nat.zero_mod];rfl
 generalize m / d=A at*
 generalize m % d=B at*
 refine Ah rfl rfl ?_
 (conv=>whnf);repeat' (first|(rw [e2];conv=>whnf)|(refine Ac h ?_;rintro _ rfl;conv=>whnf)|(refine kA ?_;conv=>whnf)|(refine Br.mk (fun hc=>?_) fun hc=>?_<;>first|exact hc.elim|conv=>whnf)|(refine kB ?_))
 all_goals first|rfl|(exfalso;omega)
theorem AiD {m d:Nat} (hm:m<18446744073709551616) (hd:0<d) (hd2:d<18446744073709551616):Aw (Ad tab) 38 [wd false m,.int .u64 d] (· =if m / d≤NK then .Dy [.int .i64 ((m / d:Nat):Int),.bool true]else .Dy [.int .i64 0,.bool false]):=by
 have h:=AcX hm hd hd2
 have e0:m / 18446744073709551616=0:=Nat.div_eq_of_lt hm
 have e1:m % 18446744073709551616=m:=Nat.mod_eq_of_lt hm
 unfold wd
 rw[e0,e1]
 have q1:m / d≤m:=Nat.div_le_self _ _
 generalize m / d=A at*
 generalize m % d=B at*
 unfold NK
 by_cases hA:A≤1000000000000000
 ·rw[if_pos hA]
  refine Ah rfl rfl ?_
  (conv=>whnf);repeat' (first|(refine Ac h ?_;rintro _ rfl;conv=>whnf)|(refine kA ?_;conv=>whnf)|(refine Br.mk (fun hc=>?_) fun hc=>?_<;>first|exact hc.elim|conv=>whnf)|(refine kB ?_))
  all_goals first|rfl|(exfalso;omega)
 ·rw[if_neg hA]
  refine Ah rfl rfl ?_
  (conv=>whnf);repeat' (first|(refine Ac h ?_;rintro _ rfl;conv=>whnf)|(refine kA ?_;conv=>whnf)|(refine Br.mk (fun hc=>?_) fun hc=>?_<;>first|exact hc.elim|conv=>whnf)|(refine kB ?_))
  all_goals first|rfl|(exfalso;omega)
theorem AeJ {a b:Nat} (ha:a≤NK) (hb:b≤NK) (h0:0<a):Aw (Ad tab) 39 [.int .i64 a,.int .i64 b] (· =if a*b≤NK then .Dy [.int .i64 ((a*b:Nat):Int),.bool true]else .Dy [.int .i64 0,.bool false]):=by
 have i1:=V8 ha
 have i2:=V8 hb
 have a1:=absP (Ju ha)
 have a2:=absP (Ju hb)
 simp only[Int.natAbs_natCast]at a1 a2
 have hd:=AcW 1000000000000000 a
 have key:a*b≤1000000000000000↔b≤1000000000000000 / a:=by
  rw[Nat.le_div_iff_mul_le h0,Nat.mul_comm]
 unfold NK at*
 have e1:((a:Int)*(b:Int))=((a*b:Nat):Int):=(Int.natCast_mul a b).symm
 generalize a*b=P at*
 have q1:1000000000000000 / a≤1000000000000000:=Nat.div_le_self _ _
 generalize hD:1000000000000000 / a=D at*
 have hd:(1000000000000000:Int).tdiv (a:Int)=(D:Int):=hd
 by_cases hP:P≤1000000000000000
 ·rw[if_pos hP]
  have:=key.1 hP
  refine Ah rfl rfl ?_
  (conv=>whnf);repeat' (first|((first|refine Ac i1 ?_|refine Ac i2 ?_|refine Ac a1 ?_|refine Ac a2 ?_);rintro _ rfl;conv=>whnf)|(rw [hd];conv=>whnf)|(rw [e1];conv=>whnf)|(refine kA ?_;conv=>whnf)|(refine Br.mk (fun hc=>?_) fun hc=>?_<;>first|exact hc.elim|conv=>whnf)|(refine kB ?_))
  all_goals first|rfl|(exfalso;omega)
 ·rw[if_neg hP]
  have:¬b≤D:=fun h=>hP (key.2 h)
  refine Ah rfl rfl ?_
  (conv=>whnf);repeat' (first|((first|refine Ac i1 ?_|refine Ac i2 ?_|refine Ac a1 ?_|refine Ac a2 ?_);rintro _ rfl;conv=>whnf)|(rw [hd];conv=>whnf)|(rw [e1];conv=>whnf)|(refine kA ?_;conv=>whnf)|(refine Br.mk (fun hc=>?_) fun hc=>?_<;>first|exact hc.elim|conv=>whnf)|(refine kB ?_))
  all_goals first|rfl|(exfalso;omega)
def AbT (o:Option (Nat×Nat)):AV:=match o with|some z=>.Dy [fv z,.bool true]|none=>.Dy [fv (0,0),.bool false]
theorem Zq {k:IntKind} {x:Int}:A8 (.int k x) (.int k x)=true:=by simp[A8]
set_option maxHeartbeats 4000000 in
theorem AhQ {x y:Nat×Nat} (hx:Vk x) (hy:Vk y) (h1:0<y.1) (h2:y.1≤4096) (h3:y.2≤4096):Aw (Ad tab) 21 [fv x,fv y] (· =AbT (addN x y)):=by
 obtain⟨a,b⟩:=x
 obtain⟨c,d⟩:=y
 have v1:Aw (Ad tab) 33 [fv (a,b)] (· =.bool true):=by have:=fvP (n:=(a:Int)) (d:=(b:Int));rwa [decide_eq_true (vnF hx)]at this
 have v2:Aw (Ad tab) 33 [fv (c,d)] (· =.bool true):=by have:=fvP (n:=(c:Int)) (d:=(d:Int));rwa [decide_eq_true (vnF hy)]at this
 obtain⟨hb1,hb2,ha,_⟩:=hx
 obtain⟨hd1,hd2,hc,_⟩:=hy
 dsimp only at*
 have gP:=Ad1 (Ju hb2) (Ju hd2)
 simp only[Int.natAbs_natCast]at gP
 have hg:0<Nat.gcd b d:=Nat.gcd_pos_of_pos_right b hd1
 have hgl:Nat.gcd b d≤d:=Nat.gcd_le_right b hd1
 have hgb:Nat.gcd b d≤b:=Nat.gcd_le_left d hb1
 unfold addN Aaz Yp
 dsimp only
 generalize Nat.gcd b d=g at*
 have k1:=AcW b g
 have k2:=AcW d g
 have hb':b / g≤b:=Nat.div_le_self _ _
 have hd':d / g≤d:=Nat.div_le_self _ _
 generalize hB:b / g=B at*
 generalize hD:d / g=D at*
 have hBM:B≤NK:=by omega
 have hDM:D≤NK:=by omega
 have p1:=XR (Ju ha) (Ju hDM)
 have p2:=XR (Ju hc) (Ju hBM)
 simp only[Int.natAbs_natCast,decide_eq_false (show ¬((a:Int)<0) by omega),decide_eq_false (show ¬((c:Int)<0) by omega),decide_eq_false (show ¬((B:Int)<0) by omega),decide_eq_false (show ¬((D:Int)<0) by omega)]at p1 p2
 have m1:a*D≤1000000000000000*4096:=Nat.mul_le_mul ha (by omega)
 have m2:c*B≤4096*1000000000000000:=Nat.mul_le_mul h2 (by unfold NK at *;omega)
 have hB0:0<B:=by rw[← hB];exact Nat.div_pos hgb hg
 have m3:0<c*B:=Nat.mul_pos h1 hB0
 generalize a*D=X at*
 generalize c*B=Y at*
 have p3:=AiE (a:=false) (b:=false) (m:=X) (n:=Y) (by omega) (by omega)
 rw[show Y4 false X false Y=wd false (X+Y) from if_pos rfl]at p3
 obtain⟨t,ht⟩:∃t,X+Y=t:=⟨_,rfl⟩
 rw[ht]at p3 ⊢
 rw[if_neg (show ¬t=0 by omega)]
 have s1:=AiF (a:=false) (m:=t) (by omega)
 rw[show sgW false t=1 by unfold sgW;rw[if_neg (by omega),if_neg (by decide)]]at s1
 have md:=AiC (b:=false) (m:=t) (d:=g) (by omega) hg (by unfold NK at *;omega)
 have hr:=Nat.mod_lt t hg
 have g2:=Ad1 (Ju (show t % g≤NK by unfold NK at *;omega)) (Ju (show g≤NK by unfold NK at *;omega))
 simp only[Int.natAbs_natCast]at g2
 rw[← Nat.gcd_rec,Nat.gcd_comm]at g2
 generalize t % g=r at*
 have hh:0<Nat.gcd t g:=Nat.gcd_pos_of_pos_right t hg
 have hhl:Nat.gcd t g≤g:=Nat.gcd_le_right t hg
 generalize Nat.gcd t g=h at*
 have ov:=AiD (m:=t) (d:=h) (by omega) hh (by unfold NK at *;omega)
 have k3:=AcW d h
 have hE:d / h≤d:=Nat.div_le_self _ _
 generalize d / h=E at*
 have nm:=AeJ (a:=B) (b:=E) hBM (by omega) hB0
 generalize t / h=n at*
 generalize B*E=q at*
 have pp:∀k:Bool,(k != k)=false:=by decide
 simp only[pp]at p1 p2
 unfold NK at*
 obtain⟨R,hR⟩:∃R,R=(if n≤1000000000000000∧q≤1000000000000000 then some (n,q)else none):=⟨_,rfl⟩
 rw[← hR]
 by_cases c1:n≤1000000000000000<;>by_cases c2:q≤1000000000000000
 all_goals (
  simp only[c1,c2,and_self,and_true,and_false,if_true,if_false]at hR ov nm
  subst hR
  refine Ah rfl rfl ?_
  (conv=>whnf);repeat' (first|(refine Am Zq ?_;conv=>whnf)|(refine wU (g:Int) (by omega) ?_;conv=>whnf)|(refine wU (h:Int) (by omega) ?_;conv=>whnf)|((first|refine Ac v1 ?_|refine Ac v2 ?_|refine Ac gP ?_);rintro _ rfl;conv=>whnf)|(rw [k1];conv=>whnf)|(rw [k2];conv=>whnf)|(rw [k3];conv=>whnf)|((first|refine Ac p1 ?_|refine Ac p2 ?_|refine Ac p3 ?_|refine Ac s1 ?_|refine Ac md ?_|refine Ac g2 ?_|refine Ac ov ?_|refine Ac nm ?_);rintro _ rfl;conv=>whnf)|(refine kA ?_;conv=>whnf)|(refine Br.mk (fun hc=>?_) fun hc=>?_<;>first|exact hc.elim|conv=>whnf)|(refine kB ?_)))
 all_goals first|rfl|(exfalso;omega)
section
variable {D:Nat→Nat→Int} {P:Nat→Nat→Nat} {n v s:Nat}
theorem Xa {a:Nat×Nat} (h:∀t,WC D v s t=false):∀k,rowB D P v s (some a) k=some a
 |0=>rfl
 |k+1=>by
  show(rowB D P v s (some a) k).bind _=_
  rw[Xa h k]
  show stB D P v s k a=some a
  unfold stB
  rw[h k];rfl
theorem Af3 {a0:Option (Nat×Nat)} {a:Nat×Nat} {t:Nat} (h:rowB D P v s a0 t=some a) (ho:WC D v s t=true):rowB D P v s a0 (t+1)=addN a (shr P v s t):=by
 show(rowB D P v s a0 t).bind _=_
 rw[h]
 show stB D P v s t a=_
 unfold stB
 rw[if_pos ho]
theorem Ad2 {a0:Option (Nat×Nat)} {a:Nat×Nat} {t:Nat} (h:rowB D P v s a0 t=some a) (ho:WC D v s t=false):rowB D P v s a0 (t+1)=some a:=by
 show(rowB D P v s a0 t).bind _=_
 rw[h]
 show stB D P v s t a=_
 unfold stB
 rw[ho];rfl
theorem Ad3 {l:List (Nat×Nat)} {t:Nat} (hv:v<n) (hs:s<n) (ht:t≤n) (hl:Uf D P n v=some l) (h:rowB D P v s (allB D P n v s) t=none):Uf D P n n=none:=by
 have h1:allB D P n v (s+1)=none:=Uu h ht
 have h2:allB D P n v n=none:=Uw h1 (by omega)
 refine WY (k:=v+1) ?_ (by omega)
 show(Uf D P n v).bind _=none
 rw[hl]
 show(allB D P n v n).map _=none
 rw[h2];rfl
theorem Ad4 {l:List (Nat×Nat)} {a:Nat×Nat} (hl:Uf D P n v=some l) (h:allB D P n v n=some a):Uf D P n (v+1)=some (l++[a]):=by
 show(Uf D P n v).bind _=_
 rw[hl]
 show(allB D P n v n).map _=_
 rw[h];rfl
end
theorem Af4 {A:Nat→Nat→Bool} {n v s t:Nat} {z:Nat×Nat} (hn:n≤12) (hv:v<n) (hs:s<n) (ht:t≤n) (h:rowB (Ho A n) (GZ A n) v s (allB (Ho A n) (GZ A n) n v s) t=some z):Vk z:=by
 obtain⟨N,hN,hd⟩:=JH 4096
 have hG:=JJ (A:=A) hN hd hn
 cases ha:allB (Ho A n) (GZ A n) n v s with
 |none=>rw[ha,LJ]at h;cases h
 |some a=>
  rw[ha]at h
  obtain⟨k1,k2⟩:=QI hG hv (by omega) ha
  exact(Vl hG hv hs k1 k2 ht h).1
theorem AbP {A:Nat→Nat→Bool} {n v s t:Nat} (hn:n≤12) (hv:v<n) (hs:s<n) (ht:t<n) (ho:WC (Ho A n) v s t=true):Vk (shr (GZ A n) v s t)∧0<(shr (GZ A n) v s t).1∧(shr (GZ A n) v s t).1≤4096∧(shr (GZ A n) v s t).2≤4096∧0<GZ A n s t∧GZ A n s t≤4096∧GZ A n s v*GZ A n v t≤4096:=by
 obtain⟨N,hN,hd⟩:=JH 4096
 have hG:=JJ (A:=A) hN hd hn
 obtain⟨h1,h2,h3,h4⟩:=hG.shr hv hs ht ho
 obtain⟨k1,k2,_,k4⟩:=hG.div v s t hv hs ht ho
 obtain⟨a,b,d1,d2,d3⟩:=Afl hv hs ht ho
 have hp:0<GZ A n s v*GZ A n v t:=Nat.mul_pos (Vm hs hv d1) (Vm hv ht d2)
 obtain⟨q1,q2,_⟩:=Ut (a:=GZ A n s v*GZ A n v t) k1
 refine⟨h1,?_,h2,h3,k1,k2,by omega⟩
 have:0<(Qy (GZ A n s v*GZ A n v t) (GZ A n s t)).2*(GZ A n s v*GZ A n v t):=Nat.mul_pos q2 hp
 rw[← q1]at this
 exact Nat.pos_of_mul_pos_right this
def Kw (n:Nat) (F:Nat→AV):List AV:=(List.range n).map F
theorem QL {n:Nat} {F:Nat→AV}:(Kw n F).length=n:=by simp[Kw]
theorem LM {n:Nat} {F:Nat→AV} {k:Nat} (h:k<n):nth (Kw n F) (Int.toNat (Nat.cast k))=some (F k):=by
 rw[show Int.toNat (Nat.cast k)=k from rfl,Aj]
 simp[Kw,h]
theorem Zp {n:Nat} {F:Nat→AV} {k:Nat} {x:AV}:(Kw n F).set (Int.toNat (Nat.cast k)) x=Kw n (QM F k x):=by
 apply List.ext_getElem
 ·simp[Kw]
 ·intro i h1 h2
  show((Kw n F).set k x)[i]'h1=_
  rw[List.getElem_set]
  simp only[Kw,List.getElem_map,List.getElem_range]
  unfold QM
  by_cases e:k=i
  ·rw[if_pos e,if_pos e.symm]
  ·rw[if_neg e,if_neg fun h=>e h.symm]
theorem Uy {n:Nat} {F G:Nat→AV} (h:∀i,i<n→F i=G i):Kw n F=Kw n G:=List.map_congr_left fun i hi=>h i (List.mem_range.1 hi)
theorem Ad5 {n:Nat} {x:AV}:List.replicate n x=Kw n fun _=>x:=by
 apply List.ext_getElem
 ·simp[Kw]
 ·intro i h1 h2
  simp[Kw]
theorem P7:∀l:List Int,Io (ints l) (ints l)=true
 |[]=>rfl
 |x::l=>by
  show(A8 (.int .i64 x) (.int .i64 x)&&Io (ints l) (ints l))=true
  rw[Zq,P7 l];rfl
theorem AbQ {b:Bool} {l:List Int}:A8 (.sl b (ints l)) (.sl b (ints l))=true:=by simp[A8,P7]
theorem AbR {k:IntKind} {x:Int}:A8 (.CS [.int k x]) (.CS [.int k x])=true:=by simp[A8,Io]
theorem AbS {o g i n:Nat}:A8 (.ref o g i n) (.ref o g i n)=true:=by simp[A8]
def Vq (p:Int×(Nat×Nat)):AV:=.agg [.int .i64 p.1,.int .i64 p.2.1,.int .i64 p.2.2]
theorem Ad6 (p:Int×(Nat×Nat)):(Vq p).cells.length=3:=rfl
def btW (ids:List Int) (n:Nat) (o:Option (List (Nat×Nat))):AV:=match o with
 |some l=>.Dy [.sl (decide (0<n)) (vs Vq (ids.zip l)),.int .i64 0]
 |none=>.Dy [.sl false [],.int .i64 24]
noncomputable def btG (types:List (List UInt8)) (g:GG):AV:=
 if AB g=0 then btW (Bf g) g.nodes.length (Uf (Ho (Dt types g) g.nodes.length) (GZ (Dt types g) g.nodes.length) g.nodes.length g.nodes.length)else .Dy [.sl false [],.int .i64 (AB g)]
def Pv (n:Nat) (D:Nat→Nat→Int) (q:Nat):AV:=.sl true (ints (Gj n (D q)))
def rowP (n:Nat) (P:Nat→Nat→Nat) (q:Nat):AV:=.sl true (ints (Gj n fun v=>(P q v:Int)))
def Ad7 (gv nv:AV) (X Y:List AV) (r:List Obj):List Obj:=.arr 0 4 true true [gv]::.arr 1 2 true true [nv]::.arr 2 1 true true X::.arr 3 1 true true Y::r
set_option maxHeartbeats 8000000 in
theorem Xb {g:GG} (hg:g.ok) (hN:g.nodes.length≤12) (hE:g.edges.length≤1000) {types:List (List UInt8)} {tn:Bool} (ht:types.length<2^63):Aw (Ad tab) 8 [g.av,.sl tn (vs .str types)] (· =btG types g):=by
 have pk:=Yv hg
 unfold btG
 by_cases hck:AB g=0
 case neg=>
  rw[if_neg hck]
  generalize AB g=e0 at pk hck
  refine Ah rfl rfl ?_
  (conv=>whnf);repeat' (first|(refine Ac pk ?_;rintro _ rfl;conv=>whnf)|(refine kA ?_;conv=>whnf)|(refine Br.mk (fun hc=>?_) fun hc=>?_<;>first|exact hc.elim|conv=>whnf)|(refine kB ?_))
  all_goals first|rfl|(exfalso;omega)
 have pb:=Af5 hg (by omega) hE hck (types:=types) (tn:=tn) ht
 rw[hck]at pk
 rw[if_pos hck]
 have pr:∀q,q<g.nodes.length→_:=fun q hq=>Af6 (ids:=Bf g) (A:=Dt types g) (DF g) hN hq
 have hvn:∀{v s t:Nat} {z:Nat×Nat},v<g.nodes.length→s<g.nodes.length→t≤g.nodes.length→_→Vk z:=fun{v s t z} h1 h2 h3 h=>Af4 (A:=Dt types g) hN h1 h2 h3 h
 have hsm:∀{v s t:Nat},v<g.nodes.length→s<g.nodes.length→t<g.nodes.length→_→_:=fun{v s t} h1 h2 h3 h=>AbP (A:=Dt types g) hN h1 h2 h3 h
 have Xc:=DF g
 have hDb:∀{u w:Nat},u<g.nodes.length→w<g.nodes.length→-1≤Ho (Dt types g) g.nodes.length u w∧Ho (Dt types g) g.nodes.length u w<g.nodes.length:=fun{u w} h1 h2=>⟨Af7,Af8 h1 h2⟩
 have hnv:Ad8 (Bf g) (Dt types g) g.nodes.length=.agg [.sl (decide (0<g.nodes.length)) (ints (Bf g)),.sl true (vs Uz ((List.range g.nodes.length).map (Na (Dt types g) g.nodes.length)))]:=rfl
 rw[hnv]at pb
 simp only[hnv]at pr
 clear hnv
 generalize Ho (Dt types g) g.nodes.length=D at*
 generalize GZ (Dt types g) g.nodes.length=P at*
 generalize vs Uz ((List.range g.nodes.length).map (Na (Dt types g) g.nodes.length))=RW at pb pr
 refine Ah rfl rfl ?_
 (conv=>whnf);repeat' (first|((first|refine Ac pk ?_|refine Ac pb ?_);rintro _ rfl;conv=>whnf)|(refine kA ?_;conv=>whnf)|(refine Br.mk (fun hc=>?_) fun hc=>?_<;>first|exact hc.elim|conv=>whnf)|(refine kB ?_))
 all_goals first|(exfalso;omega)|skip
 rw[Xc,Ad5]
 refine Au (fun m env s=>∃(k c:Nat) (F G:Nat→AV),m=g.nodes.length-k∧k≤g.nodes.length∧(∀ q,q<k→F q=Pv g.nodes.length D q)∧(∀ q,q<k→G q=rowP g.nodes.length P q)∧(∀ q,k≤q→F q=.sl false [])∧(∀ q,k≤q→G q=.sl false [])∧env=[(7,.ref 1 1 0 0),(8,.own 2 2 0 g.nodes.length),(9,.own 3 3 0 g.nodes.length),(39,.int .i64 g.nodes.length),(40,.int .i64 k)]∧s=⟨Ad7 g.av (.agg [.sl (decide (0<g.nodes.length)) (ints (Bf g)),.sl true RW]) (Kw g.nodes.length F) (Kw g.nodes.length G) [],c⟩) ?_ _ _ _ ⟨0,_,_,_,rfl,by omega,fun q h=>by omega,fun q h=>by omega,fun q h=>rfl,fun q h=>rfl,rfl,rfl⟩
 rintro _ _ _ ⟨k,c,F,G,rfl,hk,hF,hG,hF0,hG0,rfl,rfl⟩
 refine⟨rfl,?_⟩
 by_cases hkl:k<g.nodes.length
 ·have pq:=pr k hkl
  have nF:nth (Kw g.nodes.length F) (Int.toNat (Nat.cast k))=some (.sl false []):=by rw[LM hkl,hF0 k (Nat.le_refl k)]
  have nG:nth (Kw g.nodes.length G) (Int.toNat (Nat.cast k))=some (.sl false []):=by rw[LM hkl,hG0 k (Nat.le_refl k)]
  have lF:=QL (n:=g.nodes.length) (F:=F)
  have lG:=QL (n:=g.nodes.length) (F:=G)
  have eF:(Kw g.nodes.length F).set (Int.toNat (Nat.cast k)) (Bg (.sl false []) 0 (.sl true (ints (Gj g.nodes.length (D k)))))=Kw g.nodes.length (QM F k (Pv g.nodes.length D k)):=Zp
  have eG:(Kw g.nodes.length G).set (Int.toNat (Nat.cast k)) (Bg (.sl false []) 0 (.sl true (ints (Gj g.nodes.length fun v=>(P k v:Int)))))=Kw g.nodes.length (QM G k (rowP g.nodes.length P k)):=Zp
  (conv=>whnf);repeat' (first|(refine Ac pq ?_;rintro _ rfl;conv=>whnf)|(refine AA nF ?_;conv=>whnf)|(refine AA nG ?_;conv=>whnf)|(refine BI eF ?_;conv=>whnf)|(refine BI eG ?_;conv=>whnf)|(refine kA ?_;conv=>whnf)|(refine Br.mk (fun hc=>?_) fun hc=>?_<;>first|exact hc.elim|conv=>whnf)|(refine kB ?_))
  all_goals first
   |(exfalso;omega)
   |(refine again.mk ⟨_,by omega,k+1,_,_,_,rfl,by omega,fun q hq=>?_,fun q hq=>?_,fun q hq=>?_,fun q hq=>?_,rfl,rfl⟩
     ·by_cases e:q=k
      ·rw[e,G5]
      ·rw[DX e];exact hF q (by omega)
     ·by_cases e:q=k
      ·rw[e,G5]
      ·rw[DX e];exact hG q (by omega)
     ·rw[DX (by omega)];exact hF0 q (by omega)
     ·rw[DX (by omega)];exact hG0 q (by omega))
 obtain rfl:k=g.nodes.length:=by omega
 have eF:Kw g.nodes.length F=Kw g.nodes.length (Pv g.nodes.length D):=Uy fun q hq=>hF q hq
 have eG:Kw g.nodes.length G=Kw g.nodes.length (rowP g.nodes.length P):=Uy fun q hq=>hG q hq
 rw[eF,eG]
 clear eF eG hF hG hF0 hG0 F G hk hkl pr pb pk
 have lX:=QL (n:=g.nodes.length) (F:=Pv g.nodes.length D)
 have lY:=QL (n:=g.nodes.length) (F:=rowP g.nodes.length P)
 (conv=>whnf);repeat' (first  |(refine kA ?_;conv=>whnf)|(refine Br.mk (fun hc=>?_) fun hc=>?_<;>first|exact hc.elim|conv=>whnf)|(refine kB ?_))
 all_goals first|(exfalso;omega)|skip
 rw[Xc]
 refine Au (fun m env s=>∃(v c gO:Nat) (l:List (Nat×Nat)),m=g.nodes.length-v∧v≤g.nodes.length∧Uf D P g.nodes.length v=some l∧env=[(7,.ref 1 1 0 0),(8,.own 2 2 0 g.nodes.length),(9,.own 3 3 0 g.nodes.length),(12,.own 4 gO 0 v),(60,.sl (decide (0<g.nodes.length)) (ints (Bf g))),(61,.int .i64 g.nodes.length),(62,.int .i64 v)]∧s=⟨Ad7 g.av (.agg [.sl (decide (0<g.nodes.length)) (ints (Bf g)),.sl true RW]) (Kw g.nodes.length (Pv g.nodes.length D)) (Kw g.nodes.length (rowP g.nodes.length P)) [.arr gO 3 (decide (0<v)) true (vs Vq (((Bf g).take v).zip l))],c⟩) ?_ _ _ _ ⟨0,_,_,[],rfl,by omega,rfl,rfl,rfl⟩
 rintro _ _ _ ⟨v,c,gO,l,rfl,hv,hl,rfl,rfl⟩
 refine⟨rfl,?_⟩
 have hll:=NV hl
 have hzl:(((Bf g).take v).zip l).length=v:=by rw[List.length_zip,List.length_take];omega
 by_cases hvl:v<g.nodes.length
 case neg=>
  obtain rfl:v=g.nodes.length:=by omega
  rw[List.take_of_length_le (by omega)]at hzl ⊢
  rw[hl]
  unfold btW
  have hsv:sub (vs Vq ((Bf g).zip l)) 0 g.nodes.length=vs Vq ((Bf g).zip l):=by
   have:sub (vs Vq ((Bf g).zip l)) 0 ((Bf g).zip l).length=vs Vq ((Bf g).zip l):=uV
   rwa [hzl]at this
  (conv=>whnf);repeat' (first|(refine Am ⟨rfl,by rw[lV];omega⟩ ?_;conv=>whnf)|(refine BI hsv ?_;conv=>whnf)|(refine kA ?_;conv=>whnf)|(refine Br.mk (fun hc=>?_) fun hc=>?_<;>first|exact hc.elim|conv=>whnf)|(refine kB ?_))
  all_goals first|(exfalso;omega)|rfl
 have hvi:v<(Bf g).length:=by omega
 have nVd:nth (Kw g.nodes.length (Pv g.nodes.length D)) (Int.toNat (Nat.cast v))=some (Pv g.nodes.length D v):=LM hvl
 have nVp:nth (Kw g.nodes.length (rowP g.nodes.length P)) (Int.toNat (Nat.cast v))=some (rowP g.nodes.length P v):=LM hvl
 unfold Pv at nVd
 unfold rowP at nVp
 have lT:∀f:Nat→Int,(Gj g.nodes.length f).length=g.nodes.length:=fun f=>Vr
 (conv=>whnf);repeat' (first  |(refine kA ?_;conv=>whnf)|(refine Br.mk (fun hc=>?_) fun hc=>?_<;>first|exact hc.elim|conv=>whnf)|(refine kB ?_))
 all_goals first|(exfalso;omega)|skip
 refine Au (fun m env st=>∃(s c gS:Nat) (a:Nat×Nat),m=g.nodes.length-s∧s≤g.nodes.length∧allB D P g.nodes.length v s=some a∧env=[(7,.ref 1 1 0 0),(8,.own 2 2 0 g.nodes.length),(9,.own 3 3 0 g.nodes.length),(12,.own 4 gO 0 v),(13,.int .i64 v),(14,.int .i64 (Bf g)[v]),(15,.ref 5 gS 0 0),(60,.sl (decide (0<g.nodes.length)) (ints (Bf g))),(61,.int .i64 g.nodes.length),(62,.int .i64 v),(70,.int .i64 g.nodes.length),(71,.int .i64 s)]∧st=⟨Ad7 g.av (.agg [.sl (decide (0<g.nodes.length)) (ints (Bf g)),.sl true RW]) (Kw g.nodes.length (Pv g.nodes.length D)) (Kw g.nodes.length (rowP g.nodes.length P)) [.arr gO 3 (decide (0<v)) true (vs Vq (((Bf g).take v).zip l)),.arr gS 2 true true [fv a]],c⟩) ?_ _ _ _ ⟨0,_,_,(0,1),rfl,by omega,rfl,by rw[← Xc];first|rfl|(rw [Xc];rfl),rfl⟩
 rintro _ _ _ ⟨s,c,gS,a,rfl,hs,ha,rfl,rfl⟩
 refine⟨rfl,?_⟩
 by_cases hsl:s<g.nodes.length
 case neg=>
  obtain rfl:s=g.nodes.length:=by omega
  have hl':=Ad4 hl ha
  have hsn:((Bf g).take (v+1)).zip (l++[a])=((Bf g).take v).zip l++[((Bf g)[v],a)]:=by
   rw[List.take_succ_eq_append_getElem hvi,List.zip_append (by rw[List.length_take];omega)];rfl
  (conv=>whnf);repeat' (first|(refine Vb (f:=Vq) (l:=((Bf g).take v).zip l) (x:=((Bf g)[v],a)) Ad6 (by omega) (by omega) ?_;conv=>whnf)|(refine kA ?_;conv=>whnf)|(refine Br.mk (fun hc=>?_) fun hc=>?_<;>first|exact hc.elim|conv=>whnf)|(refine kB ?_))
  all_goals first
   |(exfalso;omega)
   |(rw [hzl,←hsn];exact again.mk ⟨_,by omega,v+1,_,_,l++[a],rfl,by omega,hl',rfl,by rw[decide_eq_true (show 0<v+1 by omega)];rfl⟩)
 have nSd:nth (Kw g.nodes.length (Pv g.nodes.length D)) (Int.toNat (Nat.cast s))=some (Pv g.nodes.length D s):=LM hsl
 have nSp:nth (Kw g.nodes.length (rowP g.nodes.length P)) (Int.toNat (Nat.cast s))=some (rowP g.nodes.length P s):=LM hsl
 unfold Pv at nSd
 unfold rowP at nSp
 have lDs:=lT (D s)
 have lDv:=lT (D v)
 have AmO:(Gj g.nodes.length (D s))[v]'(by rw[lT];exact hvl)=D s v:=DY _
 have Afn:allB D P g.nodes.length v (s+1)=rowB D P v s (some a) g.nodes.length:=by rw[← ha];rfl
 by_cases Ip:s=v∨D s v<0
 ·have hoff:∀t,WC D v s t=false:=fun t=>by
   unfold WC
   rcases Ip with h|h
   ·simp[h]
   ·have:¬0≤D s v:=by omega
    simp[this]
  rw[Xa hoff]at Afn
  (conv=>whnf);repeat' (first|(refine AA nSd ?_;conv=>whnf)|(refine kA ?_;conv=>whnf)|(refine Br.mk (fun hc=>?_) fun hc=>?_<;>first|exact hc.elim|conv=>whnf)|(refine kB ?_))
  all_goals first
   |(exfalso;omega)
   |exact again.mk ⟨_,by omega,s+1,_,_,a,rfl,by omega,Afn,rfl,rfl⟩
 have Aj4:s≠v:=fun h=>Ip (.inl h)
 have Aj5:0≤D s v:=by
  by_cases h:0≤D s v
  ·exact h
  ·exact absurd (.inr (by omega)) Ip
 (conv=>whnf);repeat' (first|(refine AA nSd ?_;conv=>whnf)|(refine kA ?_;conv=>whnf)|(refine Br.mk (fun hc=>?_) fun hc=>?_<;>first|exact hc.elim|conv=>whnf)|(refine kB ?_))
 all_goals first|(exfalso;omega)|skip
 refine Au (fun m env st=>∃(t c gS:Nat) (a2:Nat×Nat),m=g.nodes.length-t∧t≤g.nodes.length∧rowB D P v s (allB D P g.nodes.length v s) t=some a2∧env=[(7,.ref 1 1 0 0),(8,.own 2 2 0 g.nodes.length),(9,.own 3 3 0 g.nodes.length),(12,.own 4 gO 0 v),(13,.int .i64 v),(14,.int .i64 (Bf g)[v]),(15,.ref 5 gS 0 0),(16,.int .i64 s),(60,.sl (decide (0<g.nodes.length)) (ints (Bf g))),(61,.int .i64 g.nodes.length),(62,.int .i64 v),(70,.int .i64 g.nodes.length),(71,.int .i64 s),(89,.int .i64 g.nodes.length),(90,.int .i64 t)]∧st=⟨Ad7 g.av (.agg [.sl (decide (0<g.nodes.length)) (ints (Bf g)),.sl true RW]) (Kw g.nodes.length (Pv g.nodes.length D)) (Kw g.nodes.length (rowP g.nodes.length P)) [.arr gO 3 (decide (0<v)) true (vs Vq (((Bf g).take v).zip l)),.arr gS 2 true true [fv a2]],c⟩) ?_ _ _ _ ⟨0,_,_,a,rfl,by omega,ha,by rw[← Xc];first|rfl|(rw [Xc];rfl),rfl⟩
 rintro _ _ _ ⟨t,c,gS,a2,rfl,ht,hr,rfl,rfl⟩
 refine⟨rfl,?_⟩
 by_cases htl:t<g.nodes.length
 case neg=>
  obtain rfl:t=g.nodes.length:=by omega
  have AhP:allB D P g.nodes.length v (s+1)=some a2:=hr
  (conv=>whnf);repeat' (first  |(refine kA ?_;conv=>whnf)|(refine Br.mk (fun hc=>?_) fun hc=>?_<;>first|exact hc.elim|conv=>whnf)|(refine kB ?_))
  all_goals first
   |(exfalso;omega)
   |exact again.mk ⟨_,by omega,s+1,_,_,a2,rfl,by omega,AhP,rfl,rfl⟩
 have AmP:(Gj g.nodes.length (D v))[t]'(by rw[lT];exact htl)=D v t:=DY _
 have AmQ:(Gj g.nodes.length (D s))[t]'(by rw[lT];exact htl)=D s t:=DY _
 obtain⟨b1,b2⟩:=hDb hsl hvl
 obtain⟨b3,b4⟩:=hDb hvl htl
 obtain⟨b5,b6⟩:=hDb hsl htl
 by_cases ho:WC D v s t=true
 case neg=>
  have ho':WC D v s t=false:=Bool.eq_false_iff.2 ho
  have hoff:s=t∨t=v∨D v t<0∨D s t≠D s v+D v t:=by
   by_cases h1:s=t
   ·exact .inl h1
   by_cases h2:t=v
   ·exact .inr (.inl h2)
   by_cases h3:D v t<0
   ·exact .inr (.inr (.inl h3))
   by_cases h4:D s t=D s v+D v t
   ·exfalso
    apply ho
    unfold WC
    simp[h1,h2,Aj4,Aj5,h4,show 0≤D v t by omega]
   ·exact .inr (.inr (.inr h4))
  have hr':=Ad2 hr ho'
  (conv=>whnf);repeat' (first|(refine AA nSd ?_;conv=>whnf)|(refine AA nVd ?_;conv=>whnf)|(refine kA ?_;conv=>whnf)|(refine Br.mk (fun hc=>?_) fun hc=>?_<;>first|exact hc.elim|conv=>whnf)|(refine kB ?_))
  all_goals first
   |(exfalso;omega)
   |exact again.mk ⟨_,by omega,t+1,_,_,a2,rfl,by omega,hr',rfl,rfl⟩
 have hon:=ho
 unfold WC at hon
 simp only[Bool.and_eq_true,decide_eq_true_eq]at hon
 obtain⟨⟨⟨⟨⟨o1,o2⟩,o3⟩,o4⟩,o5⟩,o6⟩:=hon
 obtain⟨q1,q2,q3,q4,q5,q6,q7⟩:=hsm hvl hsl htl ho
 have hVa:=hvn hvl hsl (by omega) hr
 have pA:=AhQ hVa q1 q2 q3 q4
 have hr':=Af3 hr ho
 have lPs:=lT (fun w=>(P s w:Int))
 have lPv:=lT (fun w=>(P v w:Int))
 have hprod:(Gj g.nodes.length (fun w=>(P s w:Int)))[v]'(by rw[lT];exact hvl)*(Gj g.nodes.length (fun w=>(P v w:Int)))[t]'(by rw[lT];exact htl)=((P s v*P v t:Nat):Int):=by
  rw[DY,DY,Int.natCast_mul]
 have AhR:(Gj g.nodes.length (fun w=>(P s w:Int)))[t]'(by rw[lT];exact htl)=((P s t:Nat):Int):=DY _
 have pO:=ofP (a:=P s v*P v t) (b:=P s t) (by unfold NK;omega) (by unfold NK;omega) q5
 have Aj6:Qy (P s v*P v t) (P s t)=shr P v s t:=rfl
 rw[Aj6]at pO
 generalize P s v*P v t=pp at*
 generalize P s t=pt at*
 generalize shr P v s t=X at*
 unfold fv at pA pO
 cases hA:addN a2 X with
 |none=>
  rw[hA]at pA hr'
  have hno:=Ad3 hvl hsl (show t+1≤g.nodes.length by omega) hl hr'
  rw[hno]
  unfold AbT fv at pA
  unfold btW
  (conv=>whnf);repeat' (first|(refine AA nSd ?_;conv=>whnf)|(refine AA nVd ?_;conv=>whnf)|(refine AA nSp ?_;conv=>whnf)|(refine AA nVp ?_;conv=>whnf)|(rw [hprod];conv=>whnf)|(rw [AhR];conv=>whnf)|((first|refine Ac pO ?_|refine Ac pA ?_);rintro _ rfl;conv=>whnf)|(refine Am Zq ?_;conv=>whnf)|(refine Am Jj ?_;conv=>whnf)|(refine Am AbQ ?_;conv=>whnf)|(refine Am AbR ?_;conv=>whnf)|(refine Am AbS ?_;conv=>whnf)|(refine kA ?_;conv=>whnf)|(refine Br.mk (fun hc=>?_) fun hc=>?_<;>first|exact hc.elim|conv=>whnf)|(refine kB ?_))
  all_goals first
   |(exfalso;omega)
   |rfl
 |some z=>
  rw[hA]at pA hr'
  unfold AbT fv at pA
  (conv=>whnf);repeat' (first|(refine AA nSd ?_;conv=>whnf)|(refine AA nVd ?_;conv=>whnf)|(refine AA nSp ?_;conv=>whnf)|(refine AA nVp ?_;conv=>whnf)|(rw [hprod];conv=>whnf)|(rw [AhR];conv=>whnf)|((first|refine Ac pO ?_|refine Ac pA ?_);rintro _ rfl;conv=>whnf)|(refine Am Zq ?_;conv=>whnf)|(refine Am Jj ?_;conv=>whnf)|(refine Am AbQ ?_;conv=>whnf)|(refine Am AbR ?_;conv=>whnf)|(refine Am AbS ?_;conv=>whnf)|(refine kA ?_;conv=>whnf)|(refine Br.mk (fun hc=>?_) fun hc=>?_<;>first|exact hc.elim|conv=>whnf)|(refine kB ?_))
  all_goals first
   |(exfalso;omega)
   |exact again.mk ⟨_,by omega,t+1,_,_,z,rfl,by omega,hr',rfl,rfl⟩
end AI
end Go.Proofs.YtiimoiecghmebaaDoor
