/- The reference's validity of values: it answers. Valid fractions: the reference's. The program's wide numbers: products, sums, signs; fractions compared. The reference's wide numbers: they are reckoned without a panic. The reference's validity of values, with lists in lists. The reference's numbers, classes, strings compared. The reference's comparison of a fraction with itself. Numbers by their digits to the base 1000: plain. The reference's wide numbers: what their product and their order are. Fractions compared: the program's way and the reference's. -/
import Derived.Test.YthnehejdkajjhaaGreatDoorKMae
import Derived.Test.YthnehejdkajjhaaGreatDoorKMab
set_option linter.unusedVariables false
set_option maxRecDepth 4000
namespace Go.Proofs.YthnehejdkajjhaaGreatDoor
namespace AI
theorem bare {g:GV} {n d s l:Bool}:Ag (Ac tab) 256 [g.av,.bool n,.bool d,.bool s,.bool l] (fun v=>∃b,v=.bool b):=by
 cases n<;>cases d<;>cases s<;>cases l<;>(
 refine Ad rfl rfl ?_
 (conv=>whnf);repeat' (first|refine kA ?_;conv=>whnf|(apply Br.mk<;>intro hc<;>first|exact hc.elim|conv=>whnf)  |refine kB ?_)
 all_goals exact⟨_,rfl⟩)
theorem Avp {n:Int}:Ag (Ac tab) 257 [.int .i64 n] (fun v=>∃b,v=.bool b):=by
 refine Ad rfl rfl ?_
 (conv=>whnf);repeat' (first|refine kA ?_;conv=>whnf|(apply Br.mk<;>intro hc<;>first|exact hc.elim|conv=>whnf)  |refine kB ?_)
 all_goals exact⟨_,rfl⟩
theorem size {n:Int} (h1:-2^62≤n) (h2:n≤2^62):Ag (Ac tab) 216 [.int .i64 n] (fun v=>∃z,v=.int .i64 z∧0≤z∧(z=n∨z=-n)):=by
 refine Ad rfl rfl ?_
 (conv=>whnf);repeat' (first|refine kA ?_;conv=>whnf|(apply Br.mk<;>intro hc<;>first|exact hc.elim|conv=>whnf)  |refine kB ?_)
 all_goals exact⟨_,rfl,by omega,by omega⟩
theorem gcd {a b:Int} (h1:0≤a) (h2:0≤b):Ag (Ac tab) 261 [.int .i64 a,.int .i64 b] (fun v=>∃z,v=.int .i64 z):=by
 refine Ad rfl rfl ?_
 (conv=>whnf);repeat' (first|refine kA ?_;conv=>whnf|(apply Br.mk<;>intro hc<;>first|exact hc.elim|conv=>whnf)  |refine kB ?_)
 refine Af (fun m env s=>∃(a b:Int),m=b.toNat∧0≤a∧0≤b∧env=[(0,.int .i64 a),(1,.int .i64 b)]∧s=⟨[],0⟩) ?_ _ _ _ ⟨a,b,rfl,h1,h2,rfl,rfl⟩
 clear h1 h2 a b
 rintro _ _ _ ⟨a,b,rfl,h1,h2,rfl,rfl⟩
 refine⟨rfl,?_⟩
 (conv=>whnf);repeat' (first|refine kA ?_;conv=>whnf|(apply Br.mk<;>intro hc<;>first|exact hc.elim|conv=>whnf)  |refine kB ?_)
 ·have e:a.tmod b=a % b:=Int.tmod_eq_emod_of_nonneg h1
  have:=Int.emod_lt_of_pos a (by omega:0<b)
  have:=Int.emod_nonneg a (by omega:b≠0)
  exact again.mk ⟨_,by rw[e];omega,_,_,rfl,h2,by rw[e];omega,rfl,rfl⟩
 ·exact⟨_,rfl⟩
theorem AoQ {n d:Int}:Ag (Ac tab) 212 [.agg [.int .i64 n,.int .i64 d]] (fun v=>∃b,v=.bool b∧(b=true→1≤d∧d≤1000000000000000∧-1000000000000000≤n∧n≤1000000000000000)):=by
 refine Ad rfl rfl ?_
 (conv=>whnf);repeat' (first|refine kA ?_;conv=>whnf|(apply Br.mk<;>intro hc<;>first|exact hc.elim|conv=>whnf)|(refine Aa (size (n:=n) (by omega) (by omega)) ?_;rintro _ ⟨z,rfl,hz1,hz2⟩;conv=>whnf)|(refine Aa (gcd (by omega) (by omega)) ?_;rintro _ ⟨z2,rfl⟩;conv=>whnf)|refine kB ?_)
 all_goals first|exact⟨_,rfl,fun _=>by omega⟩|exact⟨_,rfl,fun h=>absurd h Bool.false_ne_true⟩
theorem ArX {s:List UInt8} (hl:s.length<2^63):Ag (Ac tab) 258 [.str s] (fun v=>∃b,v=.bool b):=by
 refine Ad rfl rfl ?_
 (conv=>whnf);repeat' (first|refine kA ?_;conv=>whnf|(apply Br.mk<;>intro hc<;>first|exact hc.elim|conv=>whnf)  |refine kB ?_)
 refine Af (fun m env s'=>∃i:Nat,m=s.length-i∧env=[(0,.str s),(3,.int .i64 i)]∧s'=⟨[],0⟩) ?_ _ _ _ ⟨0,rfl,rfl,rfl⟩
 rintro _ _ _ ⟨i,rfl,rfl,rfl⟩
 refine⟨rfl,?_⟩
 (conv=>whnf);repeat' (first|refine kA ?_;conv=>whnf|(apply Br.mk<;>intro hc<;>first|exact hc.elim|conv=>whnf)  |refine kB ?_)
 all_goals first|exact⟨_,rfl⟩|exact again.mk ⟨_,by omega,i+1,rfl,rfl,rfl⟩
theorem AfH {g:GV} {n:Int} (h:g.k=5∨g.k=6):Ag (Ac tab) 209 [g.av,.int .i64 n] (fun v=>∃b,v=.bool b):=by
 refine Ad rfl rfl ?_
 (conv=>whnf);repeat' (first|refine kA ?_;conv=>whnf|(apply Br.mk<;>intro hc<;>first|exact hc.elim|conv=>whnf)|(refine Aa (bare (g:=g)) ?_;rintro _ ⟨b,rfl⟩;conv=>whnf)|refine kB ?_)
 all_goals exact⟨_,rfl⟩
theorem AoR {l:List AV} {nn:Bool} (hl:l.length<2^63) (h:∀x∈l,Like Tryz.prog 51 x):Ag (Ac tab) 259 [.sl nn l] (fun v=>∃b,v=.bool b):=by
 refine Ad rfl rfl ?_
 (conv=>whnf);repeat' (first|refine kA ?_;conv=>whnf|(apply Br.mk<;>intro hc<;>first|exact hc.elim|conv=>whnf)  |refine kB ?_)
 all_goals first|exact⟨_,rfl⟩|skip
 refine Af (fun m env s'=>∃i:Nat,m=l.length-i∧env=[(0,.sl nn l),(3,.int .i64 i)]∧s'=⟨[],0⟩) ?_ _ _ _ ⟨0,rfl,rfl,rfl⟩
 rintro _ _ _ ⟨i,rfl,rfl,rfl⟩
 refine⟨rfl,?_⟩
 obtain⟨gx,hgx⟩:=Nz h i
 (conv=>whnf);repeat' (first|refine kA ?_;conv=>whnf|(apply Br.mk<;>intro hc<;>first|exact hc.elim|conv=>whnf)|(apply Au;(· exact(hgx (by omega)).1);conv=>whnf)|(refine Aa (AfH (g:=gx) (by omega)) ?_;rintro _ ⟨b,rfl⟩;conv=>whnf)|refine kB ?_)
 all_goals first|exact⟨_,rfl⟩|exact again.mk ⟨_,by omega,i+1,rfl,rfl,rfl⟩
theorem AvH {a b:Nat} (ha:a<2^63) (hb:b<2^63):Ag (Ac tab) 261 [.int .i64 a,.int .i64 b] (· =.int .i64 (Nat.gcd a b)):=by
 refine Ad rfl rfl ?_
 (conv=>whnf);repeat' (first  |refine kA ?_;conv=>whnf|(apply Br.mk<;>intro hc<;>first|exact hc.elim|conv=>whnf)|refine kB ?_)
 refine Af (fun m env s=>∃(x y:Nat),m=1*y∧x<2^63∧y<2^63∧Nat.gcd x y=Nat.gcd a b∧env=[(0,.int .i64 x),(1,.int .i64 y)]∧s=⟨[],0⟩) ?_ _ _ _ ⟨a,b,(Nat.one_mul _).symm,ha,hb,rfl,rfl,rfl⟩
 clear ha hb
 rintro m _ _ ⟨x,y,hm,hx,hy,hg,rfl,rfl⟩
 have hm2:y=m:=by omega
 subst hm2
 refine⟨rfl,?_⟩
 (conv=>whnf);repeat' (first  |refine kA ?_;conv=>whnf|(apply Br.mk<;>intro hc<;>first|exact hc.elim|conv=>whnf)|refine kB ?_)
 ·have h0:0<y:=by omega
  have:=Nat.mod_lt x h0
  exact again.mk ⟨_,this,y,x % y,(Nat.one_mul _).symm,hy,by omega,by rw[AbB];exact hg,by rw[Int.ofNat_tmod],rfl⟩
 ·have h0:y=0:=by omega
  subst h0
  rw[Nat.gcd_zero_right]at hg
  rw[← hg];rfl
theorem fvR {n d:Int}:Ag (Ac tab) 212 [.agg [.int .i64 n,.int .i64 d]] (· =.bool (decide (VF n d))):=by
 by_cases h:1≤d∧d≤1000000000000000∧MR n
 ·obtain⟨h1,h2,h3⟩:=h
  have h3':=h3
  unfold MR at h3'
  obtain⟨dn,rfl⟩:∃k:Nat,d=k:=⟨d.toNat,by omega⟩
  obtain⟨_,⟨z,rfl,z0,z1⟩,hz⟩:=(size (n:=n) (by omega) (by omega)).IJ
  obtain⟨zn,rfl⟩:∃k:Nat,z=k:=⟨z.toNat,by omega⟩
  have hzn:zn=n.natAbs:=by omega
  have hg:=AvH (a:=zn) (b:=dn) (by omega) (by omega)
  refine Ad rfl rfl ?_
  (conv=>whnf);repeat' (first|((first|refine Aa hz ?_|refine Aa hg ?_);rintro _ rfl;conv=>whnf)|refine kA ?_;conv=>whnf|(apply Br.mk<;>intro hc<;>first|exact hc.elim|conv=>whnf)|refine kB ?_)
  all_goals first
   |exact Bh ⟨h1,h2,h3,by rw[← hzn,Int.natAbs_natCast];omega⟩
   |exact Ar fun hv=>by have:=hv.2.2.2;rw[← hzn]at this;simp only[Int.natAbs_natCast]at this;omega
   |trace_state
 ·have hno:=Aio h
  refine Ad rfl rfl ?_
  (conv=>whnf);repeat' (first  |refine kA ?_;conv=>whnf|(apply Br.mk<;>intro hc<;>first|exact hc.elim|conv=>whnf)|refine kB ?_)
  all_goals first
   |exact Ar hno
   |(exfalso;refine h ⟨by omega,by omega,?_⟩;unfold MR;omega)
   |trace_state
def wd (b:Bool) (m:Nat):AV:=.agg [.bool b,.int .u64 ((m / 18446744073709551616:Nat):Int),.int .u64 ((m % 18446744073709551616:Nat):Int)]
theorem wU {z:Int} {K:AV→Prop} (y:Int) (h:z % 18446744073709551616=y) (hk:K (.int .u64 y)):Kv .u64 z K:=by
 subst h
 refine BI ?_ hk
 simp[IntKind.wrap,IntKind.bits,IntKind.signed]
theorem Akv (n:Nat):(BitVec.ofInt 64 (n:Int)).toNat=n % 18446744073709551616:=by simp
theorem An4 (n:Nat):IntKind.u64.wrap (BitVec.ofInt IntKind.u64.bits (n:Int) &&& BitVec.ofInt IntKind.u64.bits 4294967295).toNat=((n % 4294967296:Nat):Int):=by
 show IntKind.u64.wrap (BitVec.ofInt 64 (n:Int) &&& BitVec.ofInt 64 ((4294967295:Nat):Int)).toNat=_
 rw[BitVec.toNat_and,Akv,Akv]
 have:(n % 18446744073709551616) &&& (4294967295 % 18446744073709551616)=n % 4294967296:=by
  rw[show (4294967295 % 18446744073709551616:Nat)=2 ^ 32-1 by rfl,Nat.and_two_pow_sub_one_eq_mod]
  omega
 rw[this]
 simp[IntKind.wrap,IntKind.bits,IntKind.signed]
 omega
theorem or0 {a b:Nat} (ha:a<18446744073709551616) (hb:b<18446744073709551616):IntKind.u64.wrap (BitVec.ofInt IntKind.u64.bits (a:Int) ||| BitVec.ofInt IntKind.u64.bits (b:Int)).toNat=0↔a=0∧b=0:=by
 show IntKind.u64.wrap (BitVec.ofInt 64 (a:Int) ||| BitVec.ofInt 64 (b:Int)).toNat=0↔_
 have h:=(BitVec.ofInt 64 (a:Int) ||| BitVec.ofInt 64 (b:Int)).isLt
 have e:IntKind.u64.wrap (BitVec.ofInt 64 (a:Int) ||| BitVec.ofInt 64 (b:Int)).toNat=((BitVec.ofInt 64 (a:Int) ||| BitVec.ofInt 64 (b:Int)).toNat:Int):=by
  simp only[IntKind.wrap,IntKind.bits,IntKind.signed,Bool.false_and,Bool.false_eq_true,if_false]
  omega
 rw[e,BitVec.toNat_or,Akv,Akv,Nat.mod_eq_of_lt ha,Nat.mod_eq_of_lt hb]
 constructor
 ·intro h
  have h:a ||| b=0:=by omega
  exact Nat.or_eq_zero_iff.1 h
 ·rintro⟨rfl,rfl⟩;rfl
theorem WE (n:Nat):((n:Int)).fdiv (2 ^ (min (Int.toNat 32) IntKind.u64.bits))=((n / 4294967296:Nat):Int):=by
 rw[show (2:Int) ^ (min (Int.toNat 32) IntKind.u64.bits)=4294967296 by rfl,Int.fdiv_eq_ediv_of_nonneg _ (by omega)]
 rfl
theorem mulN {a b:Nat} {A B:Nat} (ha:a≤A) (hb:b≤B) (h:A*B<18446744073709551616):((a:Int)*(b:Int)) % 18446744073709551616=((a*b:Nat):Int):=by
 have:a*b≤A*B:=Nat.mul_le_mul ha hb
 rw[Int.natCast_mul]
 have h2:((a*b:Nat):Int)<18446744073709551616:=by omega
 rw[← Int.natCast_mul]
 omega
theorem Akw (x0 x1 y0 y1:Nat):(x1*4294967296+x0)*(y1*4294967296+y0)=x1*y1*18446744073709551616+(x1*y0+x0*y1)*4294967296+x0*y0:=by
 rw[Nat.add_mul,Nat.mul_add,Nat.mul_add]
 have e1:x1*4294967296*(y1*4294967296)=x1*y1*18446744073709551616:=by
  rw[Nat.mul_mul_mul_comm]
 have e2:x1*4294967296*y0=x1*y0*4294967296:=by rw[Nat.mul_right_comm]
 have e3:x0*(y1*4294967296)=x0*y1*4294967296:=by rw[Nat.mul_assoc]
 rw[e1,e2,e3]
 omega
theorem An5 {x y:Nat} (hx:x<2^60) (hy:y<2^60):Ag (Ac tab) 293 [.int .u64 x,.int .u64 y] (· =.BG [.int .u64 ((x*y / 18446744073709551616:Nat):Int),.int .u64 ((x*y % 18446744073709551616:Nat):Int)]):=by
 obtain⟨x0,hx0⟩:∃x0,x % 4294967296=x0:=⟨_,rfl⟩
 obtain⟨x1,hx1⟩:∃x1,x / 4294967296=x1:=⟨_,rfl⟩
 obtain⟨y0,hy0⟩:∃y0,y % 4294967296=y0:=⟨_,rfl⟩
 obtain⟨y1,hy1⟩:∃y1,y / 4294967296=y1:=⟨_,rfl⟩
 have bx0:x0≤4294967295:=by omega
 have bx1:x1≤268435455:=by omega
 have by0:y0≤4294967295:=by omega
 have by1:y1≤268435455:=by omega
 have ex:=Akw x0 x1 y0 y1
 rw[show x1*4294967296+x0=x by omega,show y1*4294967296+y0=y by omega]at ex
 have p00:=Nat.mul_le_mul bx0 by0
 have p10:=Nat.mul_le_mul bx1 by0
 have p01:=Nat.mul_le_mul bx0 by1
 have p11:=Nat.mul_le_mul bx1 by1
 refine Ad rfl rfl ?_
 conv=>whnf
 repeat (first|(refine CZ (by first|rfl|omega) ?_;conv=>whnf))
 refine BK ((An4 x).trans (congrArg _ hx0)) ?_
 conv=>whnf
 repeat (first|(refine CZ (by first|rfl|omega) ?_;conv=>whnf))
 refine BK ((WE x).trans (congrArg _ hx1)) ?_
 conv=>whnf
 repeat (first|(refine CZ (by first|rfl|omega) ?_;conv=>whnf))
 refine BK ((An4 y).trans (congrArg _ hy0)) ?_
 conv=>whnf
 repeat (first|(refine CZ (by first|rfl|omega) ?_;conv=>whnf))
 refine BK ((WE y).trans (congrArg _ hy1)) ?_
 conv=>whnf
 repeat (first|(refine CZ (by first|rfl|omega) ?_;conv=>whnf))
 refine wU _ (mulN bx0 by0 (by decide)) ?_
 conv=>whnf
 repeat (first|(refine CZ (by first|rfl|omega) ?_;conv=>whnf))
 refine wU _ (mulN bx1 by0 (by decide)) ?_
 conv=>whnf
 repeat (first|(refine CZ (by first|rfl|omega) ?_;conv=>whnf))
 refine BK (WE _) ?_
 conv=>whnf
 repeat (first|(refine CZ (by first|rfl|omega) ?_;conv=>whnf))
 refine wU ((x1*y0+x0*y0 / 4294967296:Nat):Int) (by omega) ?_
 conv=>whnf
 repeat (first|(refine CZ (by first|rfl|omega) ?_;conv=>whnf))
 refine BK (An4 _) ?_
 conv=>whnf
 repeat (first|(refine CZ (by first|rfl|omega) ?_;conv=>whnf))
 refine BK (WE _) ?_
 conv=>whnf
 repeat (first|(refine CZ (by first|rfl|omega) ?_;conv=>whnf))
 refine wU _ (mulN bx0 by1 (by decide)) ?_
 conv=>whnf
 repeat (first|(refine CZ (by first|rfl|omega) ?_;conv=>whnf))
 refine wU (((x1*y0+x0*y0 / 4294967296) % 4294967296+x0*y1:Nat):Int) (by omega) ?_
 conv=>whnf
 repeat (first|(refine CZ (by first|rfl|omega) ?_;conv=>whnf))
 refine wU _ (mulN bx1 by1 (by decide)) ?_
 conv=>whnf
 repeat (first|(refine CZ (by first|rfl|omega) ?_;conv=>whnf))
 refine wU ((x1*y1+(x1*y0+x0*y0 / 4294967296) / 4294967296:Nat):Int) (by omega) ?_
 conv=>whnf
 repeat (first|(refine CZ (by first|rfl|omega) ?_;conv=>whnf))
 refine BK (WE _) ?_
 conv=>whnf
 repeat (first|(refine CZ (by first|rfl|omega) ?_;conv=>whnf))
 refine wU ((x1*y1+(x1*y0+x0*y0 / 4294967296) / 4294967296+((x1*y0+x0*y0 / 4294967296) % 4294967296+x0*y1) / 4294967296:Nat):Int) (by omega) ?_
 conv=>whnf
 repeat (first|(refine CZ (by first|rfl|omega) ?_;conv=>whnf))
 refine wU ((x*y % 18446744073709551616:Nat):Int) (by rw[← Int.natCast_mul];omega) ?_
 conv=>whnf
 rw[ex]
 repeat (refine Ae rfl ?_;conv=>whnf)
 have e1:∀z z':Nat,z=z'→∀w:AV,AV.BG [.int .u64 ((z:Nat):Int),w]=.BG [.int .u64 ((z':Nat):Int),w]:=fun z z' h w=>by rw[h]
 exact e1 _ _ (by omega) _
theorem KZ {n:Int} (h:MR n):n.natAbs≤1000000000000000:=by unfold MR at h;omega
theorem AmD {n:Int} (h:MR n):Ag (Ac tab) 294 [.int .i64 n] (· =.int .u64 (n.natAbs:Int)):=by
 unfold MR at h
 refine Ad rfl rfl ?_
 (conv=>whnf);repeat' (first|(refine wU (n+18446744073709551616) (by omega) ?_;conv=>whnf)|(refine wU (n.natAbs:Int) (by omega) ?_;conv=>whnf)|refine kA ?_;conv=>whnf|(apply Br.mk<;>intro hc<;>first|exact hc.elim|conv=>whnf)|refine kB ?_)
 all_goals first|rfl
theorem WG {b:Bool} {m:Nat} {x y:Int} {c:Bool} (h1:b=c) (h2:((m / 18446744073709551616:Nat):Int)=x) (h3:((m % 18446744073709551616:Nat):Int)=y):AV.agg [.bool c,.int .u64 x,.int .u64 y]=wd b m:=by
 subst h1 h2 h3;rfl
theorem Aa6 {a b:Int} (ha:MR a) (hb:MR b):Ag (Ac tab) 287 [.int .i64 a,.int .i64 b] (· =wd (decide (a<0) != decide (b<0)) (a.natAbs*b.natAbs)):=by
 have h1:=KZ ha
 have h2:=KZ hb
 have h3:=An5 (x:=a.natAbs) (y:=b.natAbs) (by omega) (by omega)
 refine Ad rfl rfl ?_
 (conv=>whnf);repeat' (first|((first|refine Aa (AmD ha) ?_|refine Aa (AmD hb) ?_|refine Aa h3 ?_);rintro _ rfl;conv=>whnf)|refine kA ?_;conv=>whnf|(apply Br.mk<;>intro hc<;>first|exact hc.elim|conv=>whnf)|refine kB ?_)
 all_goals first
  |exact WG (by rw[decide_eq_true (show a<0 by omega),decide_eq_true (show b<0 by omega)];rfl) rfl rfl
  |exact WG (by rw[decide_eq_true (show a<0 by omega),decide_eq_false (show ¬b<0 by omega)];rfl) rfl rfl
  |exact WG (by rw[decide_eq_false (show ¬a<0 by omega),decide_eq_true (show b<0 by omega)];rfl) rfl rfl
  |exact WG (by rw[decide_eq_false (show ¬a<0 by omega),decide_eq_false (show ¬b<0 by omega)];rfl) rfl rfl
theorem Aq1 {x y c:Nat} (hc:c≤1):Ag (Ac tab) 295 [.int .u64 x,.int .u64 y,.int .u64 c] (· =.BG [.int .u64 (((x+y+c) % 18446744073709551616:Nat):Int),.int .u64 (((x+y+c) / 18446744073709551616:Nat):Int)]):=by
 refine TP (sp:=addSpec) (v:=.BG [.int .u64 (((x+y+c) % 18446744073709551616:Nat):Int),.int .u64 (((x+y+c) / 18446744073709551616:Nat):Int)]) (s:=⟨[],0⟩) rfl ?_ rfl rfl
 show(if 0≤(x:Int)∧0≤(y:Int)∧0≤(c:Int)∧(c:Int)≤1 then _ else _)=_
 rw[if_pos ⟨by omega,by omega,by omega,by omega⟩]
 rfl
theorem Akx {x y c:Nat} (hc:c≤1) (h:y+c≤x+18446744073709551616):Ag (Ac tab) 297 [.int .u64 x,.int .u64 y,.int .u64 c] (· =.BG [.int .u64 (((x+18446744073709551616-y-c) % 18446744073709551616:Nat):Int),.int .u64 ((if x<y+c then 1 else 0:Nat):Int)]):=by
 refine TP (sp:=Rt) (v:=.BG [.int .u64 (((x+18446744073709551616-y-c) % 18446744073709551616:Nat):Int),.int .u64 ((if x<y+c then 1 else 0:Nat):Int)]) (s:=⟨[],0⟩) rfl ?_ rfl rfl
 show(if 0≤(x:Int)∧0≤(y:Int)∧0≤(c:Int)∧(c:Int)≤1∧(y:Int)+c≤x+m64 then _ else _)=_
 rw[if_pos ⟨by omega,by omega,by omega,by omega,by unfold m64;omega⟩]
 have e1:((x:Int)+m64-y-c) % m64=(((x+18446744073709551616-y-c) % 18446744073709551616:Nat):Int):=by
  unfold m64;omega
 have e2:(if (x:Int)<y+c then(1:Int)else 0)=((if x<y+c then 1 else 0:Nat):Int):=by
  split<;>split<;>omega
 rw[e1,e2]
theorem AmE {a b:Bool} {m n:Nat}:Ag (Ac tab) 296 [wd a m,wd b n] (· =.bool (decide (m<n))):=by
 refine Ad rfl rfl ?_
 (conv=>whnf);repeat' (first  |refine kA ?_;conv=>whnf|(apply Br.mk<;>intro hc<;>first|exact hc.elim|conv=>whnf)|refine kB ?_)
 all_goals first|exact Bh (by omega)|exact Ar (by omega)
def Aa7 (a:Bool) (m:Nat) (b:Bool) (n:Nat):AV:=if a=b then wd a (m+n)else if m<n then wd b (n-m)else wd a (m-n)
theorem Aq2 {a b:Bool} {m n:Nat} (hm:m<2^120) (hn:n<2^120):Ag (Ac tab) 288 [wd a m,wd b n] (· =Aa7 a m b n):=by
 have c1:=Aq1 (x:=m % 18446744073709551616) (y:=n % 18446744073709551616) (c:=0) (by omega)
 have c2:=Aq1 (x:=m / 18446744073709551616) (y:=n / 18446744073709551616) (c:=(m % 18446744073709551616+n % 18446744073709551616+0) / 18446744073709551616) (by omega)
 have d1:=Akx (x:=m % 18446744073709551616) (y:=n % 18446744073709551616) (c:=0) (by omega) (by omega)
 have d2:=Akx (x:=m / 18446744073709551616) (y:=n / 18446744073709551616) (c:=if m % 18446744073709551616<n % 18446744073709551616+0 then 1 else 0) (by split<;>omega) (by split<;>omega)
 have f1:=Akx (x:=n % 18446744073709551616) (y:=m % 18446744073709551616) (c:=0) (by omega) (by omega)
 have f2:=Akx (x:=n / 18446744073709551616) (y:=m / 18446744073709551616) (c:=if n % 18446744073709551616<m % 18446744073709551616+0 then 1 else 0) (by split<;>omega) (by split<;>omega)
 by_cases hab:a=b
 ·have e:Aa7 a m b n=wd a (m+n):=if_pos hab
  rw[e]
  subst hab
  cases a
  all_goals
   refine Ad rfl rfl ?_
   (conv=>whnf);repeat' (first|((first|refine Aa c1 ?_|refine Aa c2 ?_);rintro _ rfl;conv=>whnf)|refine kA ?_;conv=>whnf|(apply Br.mk<;>intro hc<;>first|exact hc.elim|conv=>whnf)|refine kB ?_)
   all_goals first|(show AV.agg [.bool _,.int .u64 ((_:Nat):Int),.int .u64 ((_:Nat):Int)]=wd _ _;exact WG rfl (by omega) (by omega))
 by_cases hlt:m<n
 ·have e:Aa7 a m b n=wd b (n-m):=by unfold Aa7;rw[if_neg hab,if_pos hlt]
  have hl:Ag (Ac tab) 296 [wd a m,wd b n] (· =.bool true):=by
   have:=AmE (a:=a) (b:=b) (m:=m) (n:=n);rwa [decide_eq_true hlt]at this
  rw[e]
  cases a<;>cases b<;>(try exact absurd rfl hab)
  all_goals
   refine Ad rfl rfl ?_
   (conv=>whnf);repeat' (first|((first|refine Aa hl ?_|refine Aa f1 ?_|refine Aa f2 ?_);rintro _ rfl;conv=>whnf)|refine kA ?_;conv=>whnf|(apply Br.mk<;>intro hc<;>first|exact hc.elim|conv=>whnf)|refine kB ?_)
   all_goals first|(show AV.agg [.bool _,.int .u64 ((_:Nat):Int),.int .u64 ((_:Nat):Int)]=wd _ _;exact WG rfl (by split<;>omega) (by omega))
 ·have e:Aa7 a m b n=wd a (m-n):=by unfold Aa7;rw[if_neg hab,if_neg hlt]
  have hl:Ag (Ac tab) 296 [wd a m,wd b n] (· =.bool false):=by
   have:=AmE (a:=a) (b:=b) (m:=m) (n:=n);rwa [decide_eq_false hlt]at this
  rw[e]
  cases a<;>cases b<;>(try exact absurd rfl hab)
  all_goals
   refine Ad rfl rfl ?_
   (conv=>whnf);repeat' (first|((first|refine Aa hl ?_|refine Aa d1 ?_|refine Aa d2 ?_);rintro _ rfl;conv=>whnf)|refine kA ?_;conv=>whnf|(apply Br.mk<;>intro hc<;>first|exact hc.elim|conv=>whnf)|refine kB ?_)
   all_goals first|(show AV.agg [.bool _,.int .u64 ((_:Nat):Int),.int .u64 ((_:Nat):Int)]=wd _ _;exact WG rfl (by split<;>omega) (by omega))
def sgW (a:Bool) (m:Nat):Int:=if m=0 then 0 else if a=true then -1 else 1
theorem Aq3 {a:Bool} {m:Nat} (hm:m<2^127):Ag (Ac tab) 289 [wd a m] (· =.int .i64 (sgW a m)):=by
 obtain⟨z,hz,hz0⟩:∃z,IntKind.u64.wrap (BitVec.ofInt IntKind.u64.bits ((m / 18446744073709551616:Nat):Int) ||| BitVec.ofInt IntKind.u64.bits ((m % 18446744073709551616:Nat):Int)).toNat=z∧(z=0↔m=0):=⟨_,rfl,by
  rw[or0 (by omega) (by omega)];omega⟩
 refine Ad rfl rfl ?_
 (conv=>whnf);repeat' (first|(refine BK hz ?_;conv=>whnf)|refine kA ?_;conv=>whnf|(apply Br.mk<;>intro hc<;>first|exact hc.elim|conv=>whnf)|refine kB ?_)
 all_goals first
  |exact congrArg (AV.int .i64) (by unfold sgW;rw[if_pos (by omega)])
  |exact congrArg (AV.int .i64) (by unfold sgW;rw[if_neg (by omega),if_pos (by assumption)])
  |exact congrArg (AV.int .i64) (by unfold sgW;rw[if_neg (by omega)];simp_all)
def YC (l:List Int):Prop:=l.length=14∧∀x∈l,0≤x∧x≤999
theorem YC.set {l:List Int} (h:YC l) {k:Nat} {y:Int} (hy:0≤y∧y≤999):YC (l.set k y):=by
 refine⟨by rw[List.length_set];exact h.1,fun x hx=>?_⟩
 rcases List.mem_or_eq_of_mem_set hx with hx|rfl
 ·exact h.2 x hx
 ·exact hy
theorem YJ {d e:Int} (h1:0≤d) (h2:d≤999) (h3:0≤e) (h4:e≤999):0≤d*e∧d*e≤998001:=
 ⟨Int.mul_nonneg h1 h3,by
  have:=Int.mul_le_mul h2 h4 h3 (by omega:(0:Int)≤999)
  omega⟩
theorem tmE {c:Int} (h:0≤c):c.tmod 1000=c % 1000:=Int.tmod_eq_emod_of_nonneg h
theorem tdE {c:Int} (h:0≤c):c.tdiv 1000=c / 1000:=Int.tdiv_eq_ediv_of_nonneg h
def Left (j:Nat) (c:Int):Prop:=0≤c∧((j=0∧c<1000000000000000000)∨(j=1∧c<1000000000000000)∨(j=2∧c<1000000000000)∨(j=3∧c<1000000000)∨(j=4∧c<1000000)∨(j=5∧c<1000)∨(6≤j∧c=0))
def Carry (j:Nat) (y:Int):Prop:=0≤y∧((j≤6∧y≤999)∨(j=7∧y≤1)∨(j=8∧y=0))
theorem YK {j:Nat} {c:Int} (h:Left j c):Left (j+1) (c.tdiv 1000):=by
 have e:=tdE h.1
 unfold Left at *;omega
theorem AcY {j:Nat} {c y x d:Int} (h:Left j c) (hy:Carry j y) (hj:0<c∨0<y) (hx:0≤x∧x≤999∧(j=7→x=0)) (hd:0≤d∧d≤999):Carry (j+1) ((y+x+d*c.tmod 1000).tdiv 1000):=by
 have e1:=tmE h.1
 have hm:=h.1
 obtain⟨m1,m2⟩:=YJ hd.1 hd.2 (e:=c.tmod 1000) (by omega) (by omega)
 have hy0:=hy.1
 have e2:=tdE (c:=y+x+d*c.tmod 1000) (by omega)
 have hc:c.tmod 1000=0∨j≤5:=by unfold Left at h;omega
 rw[e2]
 rcases hc with h0|h0
 ·have hm0:d*c.tmod 1000=0:=by rw[h0];exact Int.mul_zero _
  rw[hm0]
  unfold Carry Left at *;omega
 ·unfold Carry Left at *;omega
theorem ArV {l:List AV} {nn:Bool} (hl:l.length<2^63):Ag (Ac tab) 260 [.sl nn l,.int .i64 0] (fun v=>∃b,v=.bool b):=by
 refine Ad rfl rfl ?_
 (conv=>whnf);repeat' (first|refine kA ?_;conv=>whnf|(apply Br.mk<;>intro hc<;>first|exact hc.elim|conv=>whnf)  |refine kB ?_)
 all_goals exact⟨_,rfl⟩
theorem ArW {n:Nat} (ih:∀{g:GV},g.ok→Ag (Ac tab) 209 [g.av,.int .i64 n] (fun v=>∃b,v=.bool b)) (hn:n<2^60) {l:List AV} {nn:Bool} (hl:l.length<2^63) (h:∀x∈l,Like Tryz.prog 51 x):
 Ag (Ac tab) 260 [.sl nn l,.int .i64 (n+1:Nat)] (fun v=>∃b,v=.bool b):=by
 refine Ad rfl rfl ?_
 (conv=>whnf);repeat' (first|refine kA ?_;conv=>whnf|(apply Br.mk<;>intro hc<;>first|exact hc.elim|conv=>whnf)  |refine kB ?_)
 all_goals first|exact⟨_,rfl⟩|skip
 refine Af (fun m env s'=>∃i:Nat,m=l.length-i∧env=[(0,.sl nn l),(1,.int .i64 (n+1:Nat)),(5,.int .i64 i)]∧s'=⟨[],0⟩) ?_ _ _ _ ⟨0,rfl,rfl,rfl⟩
 rintro _ _ _ ⟨i,rfl,rfl,rfl⟩
 refine⟨rfl,?_⟩
 obtain⟨gx,hgx⟩:=Nz h i
 have ih':∀{g:GV},g.ok→Ag (Ac tab) 209 [g.av,.int .i64 (((n+1:Nat):Int)-1)] (fun v=>∃b,v=.bool b):=by
  rw[show ((n+1:Nat):Int)-1=(n:Int) by omega];exact ih
 (conv=>whnf);repeat' (first|refine kA ?_;conv=>whnf|(apply Br.mk<;>intro hc<;>first|exact hc.elim|conv=>whnf)|(apply Au;(· exact(hgx (by omega)).1);conv=>whnf)|(refine Aa (ih' (g:=gx) (hgx (by omega)).2.2) ?_;rintro _ ⟨b,rfl⟩;conv=>whnf)|refine kB ?_)
 all_goals first|exact⟨_,rfl⟩|exact again.mk ⟨_,by omega,i+1,rfl,rfl,rfl⟩
theorem Ah4 {n:Int} {g:GV} (hg:g.ok) (hlist:Ag (Ac tab) 260 [.sl g.nn g.l,.int .i64 n] (fun v=>∃b,v=.bool b)):
 Ag (Ac tab) 209 [g.av,.int .i64 n] (fun v=>∃b,v=.bool b):=by
 obtain⟨g1,g2,g3,g4,g5,g6,g7⟩:=hg
 unfold Ln at g4 g5
 refine Ad rfl rfl ?_
 (conv=>whnf);repeat' (first|refine kA ?_;conv=>whnf|(apply Br.mk<;>intro hc<;>first|exact hc.elim|conv=>whnf)|(refine Aa (bare (g:=g)) ?_;rintro _ ⟨b,rfl⟩;conv=>whnf)|(refine Aa (Avp (n:=g.n)) ?_;rintro _ ⟨b,rfl⟩;conv=>whnf)|(refine Aa (AoQ (n:=g.n) (d:=g.d)) ?_;rintro _ ⟨b,rfl,_⟩;conv=>whnf)|(refine Aa (ArX g4) ?_;rintro _ ⟨b,rfl⟩;conv=>whnf)|(refine Aa (AoR g5 g7) ?_;rintro _ ⟨b,rfl⟩;conv=>whnf)|(refine Aa hlist ?_;rintro _ ⟨b,rfl⟩;conv=>whnf)|refine kB ?_)
 all_goals exact⟨_,rfl⟩
theorem valid {n:Nat} (hn:n<2^60):∀{g:GV},g.ok→Ag (Ac tab) 209 [g.av,.int .i64 n] (fun v=>∃b,v=.bool b):=by
 induction n with
 |zero=>intro g hg;exact Ah4 hg (ArV hg.2.2.2.2.1)
 |succ n ih=>intro g hg;exact Ah4 hg (ArW (ih (by omega)) (by omega) hg.2.2.2.2.1 hg.2.2.2.2.2.2)
theorem Valid {g:GV} (hg:g.ok):Ag (Ac tab) 153 [g.av] (fun v=>∃b,v=.bool b):=by
 refine Ad rfl rfl ?_
 (conv=>whnf);repeat' (first|refine kA ?_;conv=>whnf|(apply Br.mk<;>intro hc<;>first|exact hc.elim|conv=>whnf)|(refine Aa (valid (n:=8) (by omega) hg) ?_;rintro _ ⟨b,rfl⟩;conv=>whnf)|refine kB ?_)
 all_goals exact⟨_,rfl⟩
theorem AmC {k:Int}:Ag (Ac tab) 156 [.int .i64 k,.int .i64 k] (· =.int .i64 0):=by
 refine Ad rfl rfl ?_
 (conv=>whnf);repeat' (first|refine kA ?_;conv=>whnf|(apply Br.mk<;>intro hc<;>first|exact hc.elim|conv=>whnf)  |refine kB ?_)
 all_goals rfl
theorem Za:∀s:List UInt8,Op.bytesLess s s=false
 |[]=>rfl
 |a::s=>by simp[Op.bytesLess,Za s]
theorem Aq0 {s:List UInt8}:Ag (Ac tab) 210 [.str s,.str s] (· =.int .i64 0):=by
 refine Ad rfl rfl ?_
 (conv=>whnf);repeat' (first|refine kA ?_;conv=>whnf|(apply Br.mk<;>intro hc<;>first|exact hc.elim|conv=>whnf)  |refine kB ?_)
 all_goals first|rfl|(exfalso;simp[Za]at hc)
theorem plus {x y:List Int} {na nb:Bool} (hx:YC x) (hy:YC y):Ag (Ac tab) 262 [YD na x,YD nb y] (fun v=>∃nn l,v=YD nn l):=by
 have hxl:=hx.1
 have hyl:=hy.1
 refine Ad rfl rfl ?_
 (conv=>whnf);repeat' (first|refine kA ?_;conv=>whnf|(apply Br.mk<;>intro hc<;>first|exact hc.elim|conv=>whnf)  |refine kB ?_)
 refine Af (fun m env s=>∃(k:Nat) (c:Int) (l:List Int),m=14-k∧0≤c∧c≤1∧l.length=14∧env=[(0,YD na x),(1,YD nb y),(5,.own 0 0 0 (Int.toNat (Nat.cast x.length))),(6,.int .i64 c),(7,.int .i64 k)]∧s=⟨[.arr 0 1 true true (ints l)],1⟩) ?_ _ _ _ ⟨0,0,List.replicate x.length 0,rfl,by omega,by omega,by simp[hxl],rfl,rfl⟩
 rintro _ _ _ ⟨k,c,l,rfl,c0,c1,hl,rfl,rfl⟩
 refine⟨rfl,?_⟩
 have bx:∀h:k<x.length,0≤x[k]∧x[k]≤999:=fun h=>hx.2 _ (List.getElem_mem h)
 have bY:∀h:k<y.length,0≤y[k]∧y[k]≤999:=fun h=>hy.2 _ (List.getElem_mem h)
 have hq:∀(h:k<x.length) (h2:k<y.length),(c+x[k]+y[k]).tdiv 1000=(c+x[k]+y[k]) / 1000∧0≤x[k]∧x[k]≤999∧0≤y[k]∧y[k]≤999:=by
  intro h h2
  have:=bx h
  have:=bY h2
  exact⟨tdE (by omega),by omega⟩
 (conv=>whnf);repeat' (first|refine kA ?_;conv=>whnf|(apply Br.mk<;>intro hc<;>first|exact hc.elim|conv=>whnf)|(have hwr:=hq (by omega) (by omega);apply BI;(· exact wrap_i64 (by omega) (by omega));clear hwr;conv=>whnf)|refine kB ?_)
 ·obtain⟨q1,q2⟩:=hq (by omega) (by omega)
  exact again.mk ⟨_,by omega,k+1,_,_,rfl,by omega,by omega,by rw[List.length_set];exact hl,rfl,rfl⟩
 ·refine⟨true,l,?_⟩
  rw[hxl]
  have:=@uI l
  rw[hl]at this
  exact congrArg (AV.sl true) this
theorem Arz {c0:Nat} {x y:List Int} (hx:YC x) (hy:YC y):Am (Ac tab) 262 [.own 0 0 0 14,.own 1 1 0 14] ⟨[.arr 0 1 true true (ints x),.arr 1 1 true true (ints y)],c0⟩ fun out s'=>∃l:List Int,out=.ok (.own 2 c0 0 14)∧s'=⟨[.arr 0 1 true true (ints x),.arr 1 1 true true (ints y),.arr c0 1 true true (ints l)],c0+1⟩∧l.length=14:=by
 have hxl:=hx.1
 have hyl:=hy.1
 refine Ah rfl rfl ?_
 (conv=>whnf);repeat' (first|refine kA ?_;conv=>whnf|(apply Br.mk<;>intro hc<;>first|exact hc.elim|conv=>whnf)  |refine kB ?_)
 refine Af (fun m env s=>∃(k:Nat) (c:Int) (l:List Int),m=14-k∧0≤c∧c≤1∧l.length=14∧env=[(0,.own 0 0 0 14),(1,.own 1 1 0 14),(5,.own 2 c0 0 14),(6,.int .i64 c),(7,.int .i64 k)]∧s=⟨[.arr 0 1 true true (ints x),.arr 1 1 true true (ints y),.arr c0 1 true true (ints l)],c0+1⟩) ?_ _ _ _ ⟨0,0,List.replicate 14 0,rfl,by omega,by omega,by simp,rfl,rfl⟩
 rintro _ _ _ ⟨k,c,l,rfl,c2,c1,hl,rfl,rfl⟩
 refine⟨rfl,?_⟩
 have bx:∀h:k<x.length,0≤x[k]∧x[k]≤999:=fun h=>hx.2 _ (List.getElem_mem h)
 have bY:∀h:k<y.length,0≤y[k]∧y[k]≤999:=fun h=>hy.2 _ (List.getElem_mem h)
 have hq:∀(h:k<x.length) (h2:k<y.length),(c+x[k]+y[k]).tdiv 1000=(c+x[k]+y[k]) / 1000∧0≤x[k]∧x[k]≤999∧0≤y[k]∧y[k]≤999:=by
  intro h h2
  have:=bx h
  have:=bY h2
  exact⟨tdE (by omega),by omega⟩
 (conv=>whnf);repeat' (first|refine kA ?_;conv=>whnf|(apply Br.mk<;>intro hc<;>first|exact hc.elim|conv=>whnf)|(have hwr:=hq (by omega) (by omega);apply BI;(· exact wrap_i64 (by omega) (by omega));clear hwr;conv=>whnf)|refine kB ?_)
 ·obtain⟨q1,q2⟩:=hq (by omega) (by omega)
  exact again.mk ⟨_,by omega,k+1,_,_,rfl,by omega,by omega,by rw[List.length_set];exact hl,rfl,rfl⟩
 ·exact⟨l,rfl,rfl,hl⟩
theorem ArA:YC (List.replicate 14 0):=⟨by simp,by intro x hx;have:=List.eq_of_mem_replicate hx;omega⟩
def P9 (n:Int):Int:=if n<0 then -1 else if 0<n then 1 else 0
theorem sign {n:Int}:Ag (Ac tab) 214 [.int .i64 n] (· =.int .i64 (P9 n)):=by
 refine Ad rfl rfl ?_
 (conv=>whnf);repeat' (first|refine kA ?_;conv=>whnf|(apply Br.mk<;>intro hc<;>first|exact hc.elim|conv=>whnf)  |refine kB ?_)
 all_goals unfold P9;first|(rw [if_pos (by omega)];rfl)|(rw [if_neg (by omega),if_pos (by omega)];rfl)|(rw [if_neg (by omega),if_neg (by omega)];rfl)
theorem AhL (n:Int):-1≤P9 n∧P9 n≤1:=by unfold P9;repeat' split;all_goals omega
def val:List Int→Int
 |[]=>0
 |x::l=>x+1000*val l
def pw:Nat→Int
 |0=>1
 |k+1=>1000*pw k
theorem Aej:∀{l:List Int} {k:Nat} {y:Int} (h:k<l.length),val (l.set k y)=val l+(y-l[k])*pw k
 |[],k,y,h=>by simp at h
 |x::l,0,y,h=>by
  show y+1000*val l=x+1000*val l+(y-x)*1
  omega
 |x::l,k+1,y,h=>by
  have h':k<l.length:=by simpa using h
  have ih:=Aej (l:=l) (k:=k) (y:=y) h'
  show x+1000*val (l.set k y)=x+1000*val l+(y-l[k])*(1000*pw k)
  rw[ih,←Int.mul_assoc,Int.mul_comm (y-l[k]) 1000,Int.mul_assoc]
  omega
theorem val_zero:∀n,val (List.replicate n 0)=0
 |0=>rfl
 |n+1=>by
  show 0+1000*val (List.replicate n 0)=0
  rw[val_zero n];rfl
theorem row_step {v x y dd c r y1 c1 m p:Int} (h1:r+1000*y1=y+x+dd*m) (h2:c=1000*c1+m):v+(r-x)*p+y1*(1000*p)+dd*c1*(1000*p)=v+y*p+dd*c*p:=by
 have e1:y1*(1000*p)=(1000*y1)*p:=by rw[← Int.mul_assoc,Int.mul_comm y1 1000]
 have e2:dd*c1*(1000*p)=(1000*(dd*c1))*p:=by rw[← Int.mul_assoc,Int.mul_comm (dd*c1) 1000]
 have e3:dd*c=1000*(dd*c1)+dd*m:=by rw[h2,Int.mul_add,←Int.mul_assoc,Int.mul_comm dd 1000,Int.mul_assoc]
 rw[e1,e2,e3]
 have e4:v+(r-x)*p+1000*y1*p+1000*(dd*c1)*p=v+((r-x)+1000*y1+1000*(dd*c1))*p:=by rw[Int.add_mul,Int.add_mul];omega
 have e5:v+y*p+(1000*(dd*c1)+dd*m)*p=v+(y+(1000*(dd*c1)+dd*m))*p:=by rw[Int.add_mul y];omega
 rw[e4,e5,show(r-x)+1000*y1+1000*(dd*c1)=y+(1000*(dd*c1)+dd*m) by omega]
theorem Ah2 {v a b p m a1 v1:Int} (h:a=1000*a1+m) (hv:v1=v+m*b*p):v1+a1*b*(1000*p)=v+a*b*p:=by
 have e1:a1*b*(1000*p)=(1000*a1)*b*p:=by rw[← Int.mul_assoc,Int.mul_comm (a1*b) 1000,←Int.mul_assoc 1000 a1 b]
 rw[hv,e1,h,Int.add_mul,Int.add_mul]
 omega
theorem Ale {i:Nat} {dd:Int} {A:Int} {l0:List Int} {Q:Aw→Env→Aq→Prop} (hi:i≤5) (hl:YC l0) (hz:∀q (h:q<l0.length),i+7≤q→l0[q]=0) (hd:0≤dd∧dd≤999) {B C:Int} (hB:0≤C∧C≤1000000000000000)
 (hQ:∀(l':List Int) (c k y:Int),YC l'→(∀ q (h:q<l'.length),i+8≤q→l'[q]=0)→val l'=val l0+dd*C*pw i→Q (.exit 2) [(0,.int .i64 A),(1,.int .i64 B),(5,.own 0 0 0 14),(6,.int .i64 i),(7,.int .i64 dd),(8,.int .i64 c),(9,.int .i64 y),(10,.int .i64 k),(27,.bool false)] ⟨[.arr 0 1 true true (ints l')],1⟩):
 Run (Ac tab) (.loop l215_0_h l215_0_b) [(0,.int .i64 A),(1,.int .i64 B),(5,.own 0 0 0 14),(6,.int .i64 i),(7,.int .i64 dd),(8,.int .i64 C),(9,.int .i64 0),(10,.int .i64 i)] ⟨[.arr 0 1 true true (ints l0)],1⟩ Q:=by
 obtain⟨V,hV⟩:∃V,val l0+dd*C*pw i=V:=⟨_,rfl⟩
 rw[hV]at hQ
 refine Af (fun m env s=>∃(j k:Nat) (c y:Int) (l:List Int),m=8-j∧k=i+j∧Left j c∧Carry j y∧YC l∧(∀ q (h:q<l.length),i+7≤q→k≤q→l[q]=0)∧val l+y*pw k+dd*c*pw k=V∧
  env=[(0,.int .i64 A),(1,.int .i64 B),(5,.own 0 0 0 14),(6,.int .i64 i),(7,.int .i64 dd),(8,.int .i64 c),(9,.int .i64 y),(10,.int .i64 k)]∧s=⟨[.arr 0 1 true true (ints l)],1⟩) ?_ _ _ _ ⟨0,i,C,0,l0,rfl,rfl,by unfold Left;omega,by unfold Carry;omega,hl,fun q h h1 h2=>hz q h h1,by rw[Int.zero_mul];omega,rfl,rfl⟩
 clear hl hz hB hV
 rintro _ _ _ ⟨j,k,c,y,l,rfl,hk,hc0,hy,hl,hz,hv,rfl,rfl⟩
 refine⟨rfl,?_⟩
 have hll:=hl.1
 have hj7:0<c∨0<y→j≤7:=by unfold Left Carry at *;omega
 have hk8:k≤i+8:=by unfold Carry at hy;omega
 have c0:=hc0.1
 have y0:=hy.1
 have c1:c<1000000000000000000:=by unfold Left at hc0;omega
 have y1:y≤999:=by unfold Carry at hy;omega
 have e2:=tdE c0
 obtain⟨m0,m1,m2⟩:∃m,dd*c.tmod 1000=m∧0≤m∧m≤998001:=⟨_,rfl,by have:=tmE c0;exact YJ hd.1 hd.2 (by omega) (by omega)⟩
 obtain⟨x,hx⟩:∃x:Int,∀h:k<l.length,l[k]=x∧0≤x∧x≤999∧(j=7→x=0):=by
  by_cases h:k<l.length
  ·exact⟨l[k],fun _=>⟨rfl,(hl.2 _ (List.getElem_mem h)).1,(hl.2 _ (List.getElem_mem h)).2,fun h7=>hz k h (by omega) (by omega)⟩⟩
  ·exact⟨0,fun h'=>absurd h' h⟩
 have hkl:0<c∨0<y→k<l.length:=by intro h;have:=hj7 h;omega
 have hq:∀h:k<l.length,(y+x+dd*c.tmod 1000).tdiv 1000=(y+x+dd*c.tmod 1000) / 1000∧0≤y+x+dd*c.tmod 1000∧y+x+dd*c.tmod 1000≤2000000:=by
  intro h
  have h1:=hx h
  have h2:0≤y+x+dd*c.tmod 1000:=by omega
  exact⟨tdE h2,h2,by omega⟩
 clear hj7
 by_cases hstop:0<c∨0<y
 ·have hk1:=hkl hstop
  obtain⟨q1,q2,q3⟩:=hq hk1
  obtain⟨x0,x1,x2,x3⟩:=hx hk1
  have hv2:val (l.set k ((y+x+dd*c.tmod 1000).tmod 1000))+(y+x+dd*c.tmod 1000).tdiv 1000*pw (k+1)+dd*c.tdiv 1000*pw (k+1)=V:=by
   have e3:=tmE q2
   have e4:=tmE c0
   rw[Aej hk1,←hv,x0]
   exact row_step (m:=c.tmod 1000) (by omega) (by omega)
  have fin:∀k',k'=(k:Int)+1→again (fun m env s=>∃(j k:Nat) (c y:Int) (l:List Int),m=8-j∧k=i+j∧Left j c∧Carry j y∧YC l∧(∀ q (h:q<l.length),i+7≤q→k≤q→l[q]=0)∧val l+y*pw k+dd*c*pw k=V∧
        env=[(0,.int .i64 A),(1,.int .i64 B),(5,.own 0 0 0 14),(6,.int .i64 i),(7,.int .i64 dd),(8,.int .i64 c),(9,.int .i64 y),(10,.int .i64 k)]∧s=⟨[.arr 0 1 true true (ints l)],1⟩) (8-j)
        [(0,.int .i64 A),(1,.int .i64 B),(5,.own 0 0 0 14),(6,.int .i64 i),(7,.int .i64 dd),(8,.int .i64 (c.tdiv 1000)),(9,.int .i64 ((y+x+dd*c.tmod 1000).tdiv 1000)),(10,.int .i64 k')] ⟨[.arr 0 1 true true (ints (l.set k ((y+x+dd*c.tmod 1000).tmod 1000)))],1⟩:=by
   intro k' hk'
   have e3:=tmE q2
   refine again.mk ⟨_,?_,j+1,k+1,_,_,_,rfl,by omega,YK hc0,AcY hc0 hy hstop ⟨x1,x2,x3⟩ hd,hl.set (by rw[e3];omega),fun q h h1 h2=>?_,hv2,by rw[hk'];rfl,rfl⟩
   ·have:j≤7:=by unfold Left Carry at *;omega
    omega
   ·rw[List.length_set]at h
    rw[List.getElem_set_ne (by omega)]
    exact hz q h h1 (by omega)
  clear hx hq hkl hz hl hc0 hy m2 hv hv2
  (conv=>whnf);repeat' (first|refine kA ?_;conv=>whnf|(apply Br.mk<;>intro hc<;>first|exact hc.elim|conv=>whnf)|(rw [x0];conv=>whnf)|refine kB ?_)
  all_goals exact fin _ rfl
 ·clear hx hq hkl
  have hv2:val l=V:=by
   obtain rfl:c=0:=by omega
   obtain rfl:y=0:=by omega
   rw[Int.mul_zero,Int.zero_mul]at hv
   omega
  clear hv
  (conv=>whnf);repeat' (first|refine kA ?_;conv=>whnf|(apply Br.mk<;>intro hc<;>first|exact hc.elim|conv=>whnf)  |refine kB ?_)
  exact hQ l _ _ _ hl (fun q h h1=>hz q h (by omega) (by omega)) hv2
theorem Ah1 {a b:Int} (ha:0≤a∧a≤1000000000000000) (hb:0≤b∧b≤1000000000000000):Ag (Ac tab) 215 [.int .i64 a,.int .i64 b] (fun v=>∃l,v=YD true l∧YC l∧val l=a*b):=by
 obtain⟨V,hV⟩:∃V,a*b=V:=⟨_,rfl⟩
 rw[hV]
 refine Ad rfl rfl ?_
 (conv=>whnf);repeat' (first|refine kA ?_;conv=>whnf|(apply Br.mk<;>intro hc<;>first|exact hc.elim|conv=>whnf)  |refine kB ?_)
 refine Af (fun m env s=>∃(i:Nat) (a:Int) (l:List Int),m=7-i∧i≤6∧Left i a∧YC l∧(∀ q (h:q<l.length),i+7≤q→l[q]=0)∧val l+a*b*pw i=V∧env=[(0,.int .i64 a),(1,.int .i64 b),(5,.own 0 0 0 14),(6,.int .i64 i)]∧s=⟨[.arr 0 1 true true (ints l)],1⟩) ?_ _ _ _ ⟨0,a,List.replicate 14 0,rfl,by omega,by unfold Left;omega,⟨by simp,by intro x hx;have:=List.eq_of_mem_replicate hx;omega⟩,fun q h _=>List.getElem_replicate _,by rw[val_zero];show 0+a*b*1=V;omega,rfl,rfl⟩
 clear ha hV a
 rintro _ _ _ ⟨i,a,l,rfl,hi,hL,hl,hz,hv,rfl,rfl⟩
 refine⟨rfl,?_⟩
 have a0:=hL.1
 have e1:=tmE a0
 have e2:=tdE a0
 have a1:a<1000000000000000000:=by unfold Left at hL;omega
 have hst:∀v1,v1=val l+a.tmod 1000*b*pw i→v1+a.tdiv 1000*b*pw (i+1)=V:=fun v1 h=>by
  rw[← hv]
  exact Ah2 (by omega) h
 have hend:¬0<a→val l=V:=fun h=>by
  obtain rfl:a=0:=by omega
  rw[Int.zero_mul,Int.zero_mul]at hv
  omega
 clear hv
 (conv=>whnf);repeat' (first|refine kA ?_;conv=>whnf|(apply Br.mk<;>intro hc<;>first|exact hc.elim|conv=>whnf)  |refine kB ?_)
 ·have hi5:i≤5:=by unfold Left at hL;omega
  refine Ale (dd:=a.tmod 1000) hi5 hl hz (by omega) hb ?_
  intro l' c k y hl' hz' hv'
  have hv':=hst _ hv'
  (conv=>whnf);repeat' (first|refine kA ?_;conv=>whnf|(apply Br.mk<;>intro hc<;>first|exact hc.elim|conv=>whnf)  |refine kB ?_)
  exact again.mk ⟨_,by omega,i+1,_,l',rfl,by omega,YK hL,hl',hz',hv',rfl,rfl⟩
 ·refine need.mk ⟨rfl,by rw[lI,hl.1];omega⟩ (BK (b:=ints l) ?_ ⟨l,rfl,hl,hend (by assumption)⟩)
  have:=@uI l
  rw[hl.1]at this
  exact this
theorem AcZ:∀{a b:List Int} {k:Nat} (h:k<a.length) (h':k<b.length),(∀ x∈a,0≤x∧x≤999)→(∀ x∈b,0≤x∧x≤999)→a.drop (k+1)=b.drop (k+1)→a[k]<b[k]→val a<val b
 |[],_,_,h,_,_,_,_,_=>by simp at h
 |_::_,[],_,_,h,_,_,_,_=>by simp at h
 |x::a,y::b,0,h,h',ha,hb,e,hlt=>by
  have h1:=ha x (List.mem_cons_self ..)
  have h2:=hb y (List.mem_cons_self ..)
  simp only[List.drop_succ_cons,List.drop_zero,List.getElem_cons_zero]at e hlt
  subst e
  show x+1000*val a<y+1000*val a
  omega
 |x::a,y::b,k+1,h,h',ha,hb,e,hlt=>by
  have h1:=ha x (List.mem_cons_self ..)
  have h2:=hb y (List.mem_cons_self ..)
  simp only[List.drop_succ_cons,List.getElem_cons_succ]at e hlt
  have:=AcZ (a:=a) (b:=b) (k:=k) (by simpa using h) (by simpa using h') (fun z hz=>ha z (List.mem_cons_of_mem _ hz)) (fun z hz=>hb z (List.mem_cons_of_mem _ hz)) e hlt
  show x+1000*val a<y+1000*val b
  omega
theorem Aek {n:Int} (h:n<0):P9 n=-1:=if_pos h
theorem Ael {n:Int} (h:0<n):P9 n=1:=by unfold P9;rw[if_neg (by omega),if_pos h]
theorem AoO {x y:List Int} (hx:YC x) (hy:YC y):Ag (Ac tab) 263 [YD true x,YD true y] (· =.int .i64 (P9 (val x-val y))):=by
 have hxl:=hx.1
 have hyl:=hy.1
 refine Ad rfl rfl ?_
 (conv=>whnf);repeat' (first|refine kA ?_;conv=>whnf|(apply Br.mk<;>intro hc<;>first|exact hc.elim|conv=>whnf)  |refine kB ?_)
 refine Af (fun m env s=>∃(k:Nat) (z:Int),m=k∧z=(k:Int)-1∧k≤14∧x.drop k=y.drop k∧env=[(0,YD true x),(1,YD true y),(5,.int .i64 z)]∧s=⟨[],0⟩) ?_ _ _ _ ⟨14,_,rfl,?_,by omega,by rw[List.drop_eq_nil_of_le (by omega),List.drop_eq_nil_of_le (by omega)],rfl,rfl⟩
 rotate_left
 ·omega
 rintro k _ _ ⟨_,z,rfl,hz,hk,hd,rfl,rfl⟩
 refine⟨rfl,?_⟩
 cases k with
 |zero=>
  obtain rfl:x=y:=by simpa using hd
  (conv=>whnf);repeat' (first|refine kA ?_;conv=>whnf|(apply Br.mk<;>intro hc<;>first|exact hc.elim|conv=>whnf)  |refine kB ?_)
  rw[Int.sub_self];rfl
 |succ k=>
  obtain rfl:z=(k:Nat):=by omega
  have h1:x[k]'(by omega)<y[k]'(by omega)→AV.int .i64 (-1)=.int .i64 (P9 (val x-val y)):=fun h=>by
   rw[Aek (by have:=AcZ (by omega) (by omega) hx.2 hy.2 hd h;omega)]
  have h2:y[k]'(by omega)<x[k]'(by omega)→AV.int .i64 1=.int .i64 (P9 (val x-val y)):=fun h=>by
   rw[Ael (by have:=AcZ (by omega) (by omega) hy.2 hx.2 hd.symm h;omega)]
  (conv=>whnf);repeat' (first|refine kA ?_;conv=>whnf|(apply Br.mk<;>intro hc<;>first|exact hc.elim|conv=>whnf)  |refine kB ?_)
  ·exact h1 (by assumption)
  ·exact h2 (by assumption)
  ·refine again.mk ⟨_,by omega,k,_,rfl,rfl,by omega,?_,rfl,rfl⟩
   rw[List.drop_eq_getElem_cons (by omega),List.drop_eq_getElem_cons (l:=y) (by omega),hd,show x[k]'(by omega)=y[k]'(by omega) by omega]
theorem Ah3 {x y:List Int} (hx:YC x) (hy:YC y):Ag (Ac tab) 264 [YD true x,YD true y] (fun v=>∃nn l,v=YD nn l):=by
 have hxl:=hx.1
 have hyl:=hy.1
 refine Ad rfl rfl ?_
 (conv=>whnf);repeat' (first|refine kA ?_;conv=>whnf|(apply Br.mk<;>intro hc<;>first|exact hc.elim|conv=>whnf)  |refine kB ?_)
 refine Af (fun m env s=>∃(k:Nat) (c:Int) (l:List Int),m=14-k∧-1≤c∧c≤0∧l.length=14∧env=[(0,YD true x),(1,YD true y),(5,.own 0 0 0 (Int.toNat (Nat.cast x.length))),(6,.int .i64 c),(7,.int .i64 k)]∧s=⟨[.arr 0 1 true true (ints l)],1⟩) ?_ _ _ _ ⟨0,0,List.replicate x.length 0,rfl,by omega,by omega,by simp[hxl],rfl,rfl⟩
 rintro _ _ _ ⟨k,c,l,rfl,c0,c1,hl,rfl,rfl⟩
 refine⟨rfl,?_⟩
 have bx:∀h:k<x.length,0≤x[k]∧x[k]≤999:=fun h=>hx.2 _ (List.getElem_mem h)
 have bY:∀h:k<y.length,0≤y[k]∧y[k]≤999:=fun h=>hy.2 _ (List.getElem_mem h)
 have hq:∀(h:k<x.length) (h2:k<y.length),0≤x[k]∧x[k]≤999∧0≤y[k]∧y[k]≤999:=fun h h2=>⟨(bx h).1,(bx h).2,(bY h2).1,(bY h2).2⟩
 (conv=>whnf);repeat' (first|refine kA ?_;conv=>whnf|(apply Br.mk<;>intro hc<;>first|exact hc.elim|conv=>whnf)|(have hwr:=hq (by omega) (by omega);apply BI;(· exact wrap_i64 (by omega) (by omega));clear hwr;conv=>whnf)|refine kB ?_)
 ·exact again.mk ⟨_,by omega,k+1,_,_,rfl,by omega,by omega,by rw[List.length_set];exact hl,rfl,rfl⟩
 ·exact again.mk ⟨_,by omega,k+1,_,_,rfl,by omega,by omega,by rw[List.length_set];exact hl,rfl,rfl⟩
 ·refine⟨true,l,?_⟩
  rw[hxl]
  have:=@uI l
  rw[hl]at this
  exact congrArg (AV.sl true) this
def OY (an:Int) (x:Int) (bn:Int) (y:Int):Int:=if an=bn∨bn=0 then an else if an=0 then bn else if x=y then 0 else if y<x then an else bn
theorem Avl {an bn:Int} {x y:List Int} (hx:YC x) (hy:YC y):Ag (Ac tab) 213 [.int .i64 an,YD true x,.int .i64 bn,YD true y] (fun v=>∃n2 l2,v=.BG [.int .i64 (OY an (val x) bn (val y)),YD n2 l2]):=by
 have key:∀k:Int,k=OY an (val x) bn (val y)→∀n2 l2,∃n3 l3,AV.BG [.int .i64 k,YD n2 l2]=.BG [.int .i64 (OY an (val x) bn (val y)),YD n3 l3]:=fun k h n2 l2=>⟨n2,l2,by rw[h]⟩
 obtain⟨z,hz⟩:∃z,P9 (val x-val y)=z:=⟨_,rfl⟩
 have ho:=AoO hx hy
 rw[hz]at ho
 have z1:z=0→val x=val y:=fun h=>by subst h;unfold P9 at hz;split at hz<;>(try split at hz)<;>omega
 have z2:0<z→val y<val x:=fun h=>by subst hz;unfold P9 at h;split at h<;>(try split at h)<;>omega
 have z3:z≠0→¬0<z→val x<val y:=fun h h'=>by subst hz;unfold P9 at h h';split at h<;>(try split at h)<;>simp_all<;>omega
 by_cases h1:an=bn
 ·have e:an=OY an (val x) bn (val y):=by unfold OY;rw[if_pos (.inl h1)]
  refine Ad rfl rfl ?_
  (conv=>whnf);repeat' (first|refine kA ?_;conv=>whnf|(apply Br.mk<;>intro hc<;>first|exact hc.elim|conv=>whnf)|(refine Aa (plus hx hy) ?_;rintro _ ⟨nn,l,rfl⟩;conv=>whnf)|refine kB ?_)
  all_goals first|exact key _ e _ _
 by_cases h2:bn=0
 ·have e:an=OY an (val x) bn (val y):=by unfold OY;rw[if_pos (.inr h2)]
  refine Ad rfl rfl ?_
  (conv=>whnf);repeat' (first|refine kA ?_;conv=>whnf|(apply Br.mk<;>intro hc<;>first|exact hc.elim|conv=>whnf)|(refine Aa (plus hx hy) ?_;rintro _ ⟨nn,l,rfl⟩;conv=>whnf)|refine kB ?_)
  all_goals first|exact key _ e _ _
 by_cases h3:an=0
 ·have e:bn=OY an (val x) bn (val y):=by unfold OY;rw[if_neg (by omega),if_pos h3]
  refine Ad rfl rfl ?_
  (conv=>whnf);repeat' (first|refine kA ?_;conv=>whnf|(apply Br.mk<;>intro hc<;>first|exact hc.elim|conv=>whnf)  |refine kB ?_)
  all_goals first|exact key _ e _ _
 by_cases h4:z=0
 ·have e:0=OY an (val x) bn (val y):=by unfold OY;rw[if_neg (by omega),if_neg h3,if_pos (z1 h4)]
  refine Ad rfl rfl ?_
  (conv=>whnf);repeat' (first|refine kA ?_;conv=>whnf|(apply Br.mk<;>intro hc<;>first|exact hc.elim|conv=>whnf)|(refine Aa ho ?_;rintro _ rfl;conv=>whnf)|refine kB ?_)
  refine Am.mono (K:=fun out s'=>∃l:List Int,out=.ok (.own 2 4 0 14)∧s'=⟨[.arr 0 1 true true (ints (List.replicate 14 0)),.arr 1 1 true true (ints (List.replicate 14 0)),.arr 4 1 true true (ints l)],5⟩∧l.length=14) (Arz (c0:=4) ArA ArA) ?_
  rintro _ _ ⟨l2,rfl,rfl,hl2⟩
  (conv=>whnf);repeat' (first|refine kA ?_;conv=>whnf|(apply Br.mk<;>intro hc<;>first|exact hc.elim|conv=>whnf)  |refine kB ?_)
  obtain⟨n3,l3,h⟩:=key 0 e true l2
  refine⟨n3,l3,?_⟩
  rw[← h]
  have:=@uI l2
  rw[hl2]at this
  exact congrArg (fun q=>AV.BG [.int .i64 0,.sl true q]) this
 by_cases h5:0<z
 ·have e:an=OY an (val x) bn (val y):=by
   have:=z2 h5
   unfold OY;rw[if_neg (by omega),if_neg h3,if_neg (by omega),if_pos this]
  refine Ad rfl rfl ?_
  (conv=>whnf);repeat' (first|refine kA ?_;conv=>whnf|(apply Br.mk<;>intro hc<;>first|exact hc.elim|conv=>whnf)|(refine Aa ho ?_;rintro _ rfl;conv=>whnf)|(refine Aa (Ah3 hx hy) ?_;rintro _ ⟨nn,l,rfl⟩;conv=>whnf)|refine kB ?_)
  all_goals first|exact key _ e _ _
 ·have e:bn=OY an (val x) bn (val y):=by
   have:=z3 h4 h5
   unfold OY;rw[if_neg (by omega),if_neg h3,if_neg (by omega),if_neg (by omega)]
  refine Ad rfl rfl ?_
  (conv=>whnf);repeat' (first|refine kA ?_;conv=>whnf|(apply Br.mk<;>intro hc<;>first|exact hc.elim|conv=>whnf)|(refine Aa ho ?_;rintro _ rfl;conv=>whnf)|(refine Aa (Ah3 hy hx) ?_;rintro _ ⟨nn,l,rfl⟩;conv=>whnf)|refine kB ?_)
  all_goals first|exact key _ e _ _
theorem N9 (n d:Int) (hd:1≤d):(n<0∧P9 n=-1∧0<(n.natAbs:Int)*d∧n*d=-((n.natAbs:Int)*d))∨(n=0∧P9 n=0∧(n.natAbs:Int)*d=0∧n*d=0)∨(0<n∧P9 n=1∧0<(n.natAbs:Int)*d∧n*d=(n.natAbs:Int)*d):=by
 rcases Int.lt_trichotomy n 0 with h|h|h
 ·refine .inl ⟨h,Aek h,Int.mul_pos (by omega) (by omega),?_⟩
  rw[← Int.neg_mul,show -(n.natAbs:Int)=n by omega]
 ·subst h
  exact .inr (.inl ⟨rfl,rfl,by simp,by simp⟩)
 ·refine .inr (.inr ⟨h,Ael h,Int.mul_pos (by omega) (by omega),?_⟩)
  rw[show (n.natAbs:Int)=n by omega]
theorem Al8 {n1 d1 n2 d2:Int} (h1:1≤d1) (h2:1≤d2):OY (P9 n1) ((n1.natAbs:Int)*d2) (0-P9 n2) ((n2.natAbs:Int)*d1)=P9 (n1*d2-n2*d1):=by
 rcases N9 n1 d2 h2 with⟨a1,a2,a3,a4⟩|⟨a1,a2,a3,a4⟩|⟨a1,a2,a3,a4⟩<;>rcases N9 n2 d1 h1 with⟨b1,b2,b3,b4⟩|⟨b1,b2,b3,b4⟩|⟨b1,b2,b3,b4⟩<;>rw[a2,b2,a4,b4]<;>generalize (n1.natAbs:Int)*d2=p at* <;>generalize (n2.natAbs:Int)*d1=q at* <;>unfold OY P9<;>repeat' split
 all_goals omega
theorem AjD {n:Int} (h:MR n):Ag (Ac tab) 216 [.int .i64 n] (· =.int .i64 (n.natAbs:Int)):=by
 unfold MR at h
 obtain⟨v,⟨z,rfl,z0,z1⟩,hz⟩:=(size (n:=n) (by omega) (by omega)).IJ
 rwa [show z=(n.natAbs:Int) by omega]at hz
theorem Aqw {n1 d1 n2 d2:Int} (hf:VF n1 d1) (hg:VF n2 d2):Ag (Ac tab) 159 [.agg [.int .i64 n1,.int .i64 d1],.agg [.int .i64 n2,.int .i64 d2]] (· =.int .i64 (P9 (n1*d2-n2*d1))):=by
 have q1:=KZ hf.2.2.1
 have q2:=KZ hg.2.2.1
 obtain⟨f1,f2,f3,-⟩:=id hf
 obtain⟨g1,g2,g3,-⟩:=id hg
 have v1:Ag (Ac tab) 212 [.agg [.int .i64 n1,.int .i64 d1]] (· =.bool true):=by have:=fvR (n:=n1) (d:=d1);rwa [decide_eq_true hf]at this
 have v2:Ag (Ac tab) 212 [.agg [.int .i64 n2,.int .i64 d2]] (· =.bool true):=by have:=fvR (n:=n2) (d:=d2);rwa [decide_eq_true hg]at this
 obtain⟨_,⟨l1,rfl,x1,x2⟩,t1⟩:=(Ah1 (a:=(n1.natAbs:Int)) (b:=d2) (by omega) (by omega)).IJ
 obtain⟨_,⟨l2,rfl,y1,y2⟩,t2⟩:=(Ah1 (a:=(n2.natAbs:Int)) (b:=d1) (by omega) (by omega)).IJ
 have s1:=AhL n1
 have s2:=AhL n2
 have hs:=Avl (an:=P9 n1) (bn:=0-P9 n2) x1 y1
 rw[x2,y2,Al8 f1 g1]at hs
 refine Ad rfl rfl ?_
 (conv=>whnf);repeat' (first|((first|refine Aa v1 ?_|refine Aa v2 ?_|refine Aa (sign (n:=n1)) ?_|refine Aa (sign (n:=n2)) ?_|refine Aa (AjD f3) ?_|refine Aa (AjD g3) ?_|refine Aa t1 ?_|refine Aa t2 ?_);rintro _ rfl;conv=>whnf)|(refine Aa hs ?_;rintro _ ⟨n3,l3,rfl⟩;conv=>whnf)|refine kA ?_;conv=>whnf|(apply Br.mk<;>intro hc<;>first|exact hc.elim|conv=>whnf)|refine kB ?_)
 all_goals first|rfl
theorem AjE {n1 d1 n2 d2:Int} (h1:1≤d1) (h2:1≤d2):∃a m,Aa7 (decide (n1<0) != decide (d2<0)) (n1.natAbs*d2.natAbs) (decide (0-n2<0) != decide (d1<0)) ((0-n2).natAbs*d1.natAbs)=wd a m∧m≤n1.natAbs*d2.natAbs+n2.natAbs*d1.natAbs∧sgW a m=P9 (n1*d2-n2*d1):=by
 have e1:((n1.natAbs:Int)*d2)=((n1.natAbs*d2.natAbs:Nat):Int):=by rw[Int.natCast_mul,show(d2.natAbs:Int)=d2 by omega]
 have e2:((n2.natAbs:Int)*d1)=((n2.natAbs*d1.natAbs:Nat):Int):=by rw[Int.natCast_mul,show(d1.natAbs:Int)=d1 by omega]
 have k1:decide (d2<0)=false:=decide_eq_false (by omega)
 have k2:decide (d1<0)=false:=decide_eq_false (by omega)
 rw[show (0-n2).natAbs=n2.natAbs by omega,k1,k2,Bool.bne_false,Bool.bne_false]
 have h:=N9 n1 d2 h2
 have h':=N9 n2 d1 h1
 rw[e1]at h
 rw[e2]at h'
 generalize n1.natAbs*d2.natAbs=p at*
 generalize n2.natAbs*d1.natAbs=q at*
 unfold Aa7
 split
 ·rename_i hh
  refine⟨_,_,rfl,Nat.le_refl _,?_⟩
  rw[decide_eq_decide]at hh
  unfold sgW P9
  simp only[decide_eq_true_eq]
  rcases h with⟨a1,a2,a3,a4⟩|⟨a1,a2,a3,a4⟩|⟨a1,a2,a3,a4⟩<;>rcases h' with⟨b1,b2,b3,b4⟩|⟨b1,b2,b3,b4⟩|⟨b1,b2,b3,b4⟩<;>rw[a4,b4]<;>repeat' split
  all_goals omega
 ·rename_i hh
  rw[decide_eq_decide]at hh
  split
  ·refine⟨_,_,rfl,by omega,?_⟩
   unfold sgW P9
   simp only[decide_eq_true_eq]
   rcases h with⟨a1,a2,a3,a4⟩|⟨a1,a2,a3,a4⟩|⟨a1,a2,a3,a4⟩<;>rcases h' with⟨b1,b2,b3,b4⟩|⟨b1,b2,b3,b4⟩|⟨b1,b2,b3,b4⟩<;>rw[a4,b4]<;>repeat' split
   all_goals omega
  ·refine⟨_,_,rfl,by omega,?_⟩
   unfold sgW P9
   simp only[decide_eq_true_eq]
   rcases h with⟨a1,a2,a3,a4⟩|⟨a1,a2,a3,a4⟩|⟨a1,a2,a3,a4⟩<;>rcases h' with⟨b1,b2,b3,b4⟩|⟨b1,b2,b3,b4⟩|⟨b1,b2,b3,b4⟩<;>rw[a4,b4]<;>repeat' split
   all_goals omega
theorem AeS {n d:Int} (h:VF n d):MR d:=by have:=h.1;have:=h.2.1;unfold MR;omega
theorem Al9 {n:Int} (h:MR n):MR (0-n):=by unfold MR at *;omega
theorem AuY {n1 d1 n2 d2:Int} (hf:VF n1 d1) (hg:VF n2 d2):Ag (Ac tab) 275 [.agg [.int .i64 n1,.int .i64 d1],.agg [.int .i64 n2,.int .i64 d2]] (· =.int .i64 (P9 (n1*d2-n2*d1))):=by
 have v1:Ag (Ac tab) 277 [.agg [.int .i64 n1,.int .i64 d1]] (· =.bool true):=by have:=fvP (n:=n1) (d:=d1);rwa [decide_eq_true hf]at this
 have v2:Ag (Ac tab) 277 [.agg [.int .i64 n2,.int .i64 d2]] (· =.bool true):=by have:=fvP (n:=n2) (d:=d2);rwa [decide_eq_true hg]at this
 have q1:=KZ hf.2.2.1
 have q2:=KZ hg.2.2.1
 have q3:=KZ (AeS hf)
 have q4:=KZ (AeS hg)
 have r2:-1000000000000000≤n2∧n2≤1000000000000000:=hg.2.2.1
 have m1:=Nat.mul_le_mul q1 q4
 have m2:=Nat.mul_le_mul q2 q3
 have p1:=Aa6 hf.2.2.1 (AeS hg)
 have p2:=Aa6 (Al9 hg.2.2.1) (AeS hf)
 obtain⟨a,m,e1,e2,e3⟩:=AjE (n1:=n1) (n2:=n2) hf.1 hg.1
 have p3:=Aq2 (a:=decide (n1<0) != decide (d2<0)) (m:=n1.natAbs*d2.natAbs) (b:=decide (0-n2<0) != decide (d1<0)) (n:=(0-n2).natAbs*d1.natAbs) (by omega) (by rw[show (0-n2).natAbs=n2.natAbs by omega];omega)
 rw[e1]at p3
 have p4:=Aq3 (a:=a) (m:=m) (by omega)
 rw[e3]at p4
 refine Ad rfl rfl ?_
 (conv=>whnf);repeat' (first|((first|refine Aa v1 ?_|refine Aa v2 ?_|refine Aa p1 ?_|refine Aa p2 ?_|refine Aa p3 ?_|refine Aa p4 ?_);rintro _ rfl;conv=>whnf)|refine kA ?_;conv=>whnf|(apply Br.mk<;>intro hc<;>first|exact hc.elim|conv=>whnf)|refine kB ?_)
 all_goals first|rfl
end AI
end Go.Proofs.YthnehejdkajjhaaGreatDoor
