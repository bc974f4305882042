/- Valid fractions: the program's. The reference's validity of values: it answers. Valid fractions: the reference's. The program's wide numbers: products, sums, signs; fractions compared. The reference's wide numbers: they are reckoned without a panic. The reference's validity of values, with lists in lists. -/
import Derived.Test.YtnbibfalljlmfaaGreatDoorMag
import Derived.Test.YtnbibfalljlmfaaGreatDoorMaf
import Derived.Test.YtnbibfalljlmfaaGreatDoorMad
set_option linter.unusedVariables false
set_option maxRecDepth 4000
namespace Go.Proofs.YtnbibfalljlmfaaGreatDoor
namespace AI
theorem Aw8 (x y:Nat):Nat.gcd y (x % y)=Nat.gcd x y:=by
  rw[Nat.gcd_comm x y,Nat.gcd_rec y x,Nat.gcd_comm]
theorem absP {n:Int} (h:inR n):D8 (Dx tab) 307 [.int .i64 n] (· =.int .i64 n.natAbs):=by
  unfold inR at h
  have e:(if 0-n>n then 0-n else n)=(n.natAbs:Int):=by split<;>omega
  refine Lu rfl rfl ?_
  (conv=>whnf);repeat' (first  |((with_reducible first|apply kN|apply kW|apply kX|apply kG|apply kQ);(· exact sd);conv=>whnf)|(refine DW.mk ?_ ?_<;>intro hc<;>(try rw[List.length_nil]at hc)<;>first|(exfalso;omega)|(exact absurd rfl hc)|conv=>whnf)|(refine CB ?_ ?_<;>intro hc<;>conv=>whnf))
  rw[← e];rfl
theorem AWg {n d:Int} (hn:inR n) (hd:inR d):D8 (Dx tab) 298 [.int .i64 n,.int .i64 d] (· =.int .i64 (Nat.gcd n.natAbs d.natAbs)):=by
  have hn':=hn
  have hd':=hd
  unfold inR at hn' hd'
  refine Lu rfl rfl ?_
  (conv=>whnf);repeat' (first|(refine KH (inP (n:=n)) (fun hr=>?_) (fun hr=>absurd hn hr);conv=>whnf)|(refine KH (inP (n:=d)) (fun hr=>?_) (fun hr=>absurd hd hr);conv=>whnf)|(refine BM (absP hn) ?_;rintro _ rfl;conv=>whnf)|(refine BM (absP hd) ?_;rintro _ rfl;conv=>whnf)|((with_reducible first|apply kN|apply kW|apply kX|apply kG|apply kQ);(· exact sd);conv=>whnf)|(refine DW.mk ?_ ?_<;>intro hc<;>(try rw[List.length_nil]at hc)<;>first|(exfalso;omega)|(exact absurd rfl hc)|conv=>whnf)|(refine CB ?_ ?_<;>intro hc<;>conv=>whnf))
  refine DK (fun m env s=>∃(x y:Nat),m=1*y∧x<2^63∧y<2^63∧Nat.gcd x y=Nat.gcd n.natAbs d.natAbs∧env=[(0,.int .i64 x),(1,.int .i64 y)]∧s=⟨[],0⟩) ?_ _ _ _ ⟨n.natAbs,d.natAbs,(Nat.one_mul _).symm,by omega,by omega,rfl,rfl,rfl⟩
  clear hn hd hn' hd'
  rintro m _ _ ⟨x,y,hm,hx,hy,hg,rfl,rfl⟩
  have hm2:y=m:=by omega
  subst hm2
  refine⟨rfl,?_⟩
  (conv=>whnf);repeat' (first  |((with_reducible first|apply kN|apply kW|apply kX|apply kG|apply kQ);(· exact sd);conv=>whnf)|(refine DW.mk ?_ ?_<;>intro hc<;>(try rw[List.length_nil]at hc)<;>first|(exfalso;omega)|(exact absurd rfl hc)|conv=>whnf)|(refine CB ?_ ?_<;>intro hc<;>conv=>whnf))
  · have h0:y=0:=by omega
    subst h0
    rw[Nat.gcd_zero_right]at hg
    rw[← hg];rfl
  · have h0:0<y:=by omega
    have:=Nat.mod_lt x h0
    exact again.mk ⟨_,this,y,x % y,(Nat.one_mul _).symm,hy,by omega,by rw[Aw8];exact hg,by rw[Int.ofNat_tmod],rfl⟩
theorem AAT {n d:Int} (h:¬(1≤d∧d≤1000000000000000∧inR n)):¬VF n d:=fun hv=>h ⟨hv.1,hv.2.1,hv.2.2.1⟩
theorem fvP {n d:Int}:D8 (Dx tab) 281 [.agg [.int .i64 n,.int .i64 d]] (· =.bool (decide (VF n d))):=by
  by_cases h:1≤d∧d≤1000000000000000∧inR n
  · obtain⟨h1,h2,h3⟩:=h
    have hg:=AWg h3 (show inR d by unfold inR;omega)
    refine Lu rfl rfl ?_
    (conv=>whnf);repeat' (first|(refine KH (inP (n:=n)) (fun hr=>?_) (fun hr=>absurd h3 hr);conv=>whnf)|(refine BM hg ?_;rintro _ rfl;conv=>whnf)|((with_reducible first|apply kN|apply kW|apply kX|apply kG|apply kQ);(· exact sd);conv=>whnf)|(refine DW.mk ?_ ?_<;>intro hc<;>(try rw[List.length_nil]at hc)<;>first|(exfalso;omega)|(exact absurd rfl hc)|conv=>whnf)|(refine CB ?_ ?_<;>intro hc<;>conv=>whnf))
    all_goals first
      |exact Lp ⟨h1,h2,h3,by omega⟩
      |exact Hf fun hv=>by have:=hv.2.2.2;omega
      |trace_state
  · have hno:=AAT h
    have hnr:¬inR n∨¬(1≤d∧d≤1000000000000000):=by
      by_cases h3:inR n
      · exact .inr fun h12=>h ⟨h12.1,h12.2,h3⟩
      · exact .inl h3
    refine Lu rfl rfl ?_
    (conv=>whnf);repeat' (first|(refine KH (inP (n:=n)) (fun hr=>?_) (fun hr=>?_)<;>conv=>whnf)|((with_reducible first|apply kN|apply kW|apply kX|apply kG|apply kQ);(· exact sd);conv=>whnf)|(refine DW.mk ?_ ?_<;>intro hc<;>(try rw[List.length_nil]at hc)<;>first|(exfalso;omega)|(exact absurd rfl hc)|conv=>whnf)|(refine CB ?_ ?_<;>intro hc<;>conv=>whnf))
    all_goals first
      |exact Hf hno
      |(exfalso;rcases hnr with h|h;exact h hr;omega)
      |trace_state
theorem bare {g:GV} {n d s l:Bool}:D8 (Dx tab) 263 [g.av,.bool n,.bool d,.bool s,.bool l] (fun v=>∃b,v=.bool b):=by
  cases n<;>cases d<;>cases s<;>cases l<;>(
  refine Lu rfl rfl ?_
  (conv=>whnf);repeat' (first|((with_reducible first|apply kN|apply kW|apply kX|apply kG|apply kQ);(· exact sd);conv=>whnf)|(refine DW.mk ?_ ?_<;>intro hc<;>(try rw[List.length_nil]at hc)<;>first|(exfalso;omega)|(exact absurd rfl hc)|conv=>whnf)  |(refine CB ?_ ?_<;>intro hc<;>conv=>whnf))
  all_goals exact⟨_,rfl⟩)
theorem AVx {n:Int}:D8 (Dx tab) 264 [.int .i64 n] (fun v=>∃b,v=.bool b):=by
  refine Lu rfl rfl ?_
  (conv=>whnf);repeat' (first|((with_reducible first|apply kN|apply kW|apply kX|apply kG|apply kQ);(· exact sd);conv=>whnf)|(refine DW.mk ?_ ?_<;>intro hc<;>(try rw[List.length_nil]at hc)<;>first|(exfalso;omega)|(exact absurd rfl hc)|conv=>whnf)  |(refine CB ?_ ?_<;>intro hc<;>conv=>whnf))
  all_goals exact⟨_,rfl⟩
theorem size {n:Int} (h1:-2^62≤n) (h2:n≤2^62):D8 (Dx tab) 235 [.int .i64 n] (fun v=>∃z,v=.int .i64 z∧0≤z∧(z=n∨z=-n)):=by
  refine Lu rfl rfl ?_
  (conv=>whnf);repeat' (first|((with_reducible first|apply kN|apply kW|apply kX|apply kG|apply kQ);(· exact sd);conv=>whnf)|(refine DW.mk ?_ ?_<;>intro hc<;>(try rw[List.length_nil]at hc)<;>first|(exfalso;omega)|(exact absurd rfl hc)|conv=>whnf)  |(refine CB ?_ ?_<;>intro hc<;>conv=>whnf))
  all_goals exact⟨_,rfl,by omega,by omega⟩
theorem gcd {a b:Int} (h1:0≤a) (h2:0≤b):D8 (Dx tab) 268 [.int .i64 a,.int .i64 b] (fun v=>∃z,v=.int .i64 z):=by
  refine Lu rfl rfl ?_
  (conv=>whnf);repeat' (first|((with_reducible first|apply kN|apply kW|apply kX|apply kG|apply kQ);(· exact sd);conv=>whnf)|(refine DW.mk ?_ ?_<;>intro hc<;>(try rw[List.length_nil]at hc)<;>first|(exfalso;omega)|(exact absurd rfl hc)|conv=>whnf)  |(refine CB ?_ ?_<;>intro hc<;>conv=>whnf))
  refine DK (fun m env s=>∃(a b:Int),m=b.toNat∧0≤a∧0≤b∧env=[(0,.int .i64 a),(1,.int .i64 b)]∧s=⟨[],0⟩) ?_ _ _ _ ⟨a,b,rfl,h1,h2,rfl,rfl⟩
  clear h1 h2 a b
  rintro _ _ _ ⟨a,b,rfl,h1,h2,rfl,rfl⟩
  refine⟨rfl,?_⟩
  (conv=>whnf);repeat' (first|((with_reducible first|apply kN|apply kW|apply kX|apply kG|apply kQ);(· exact sd);conv=>whnf)|(refine DW.mk ?_ ?_<;>intro hc<;>(try rw[List.length_nil]at hc)<;>first|(exfalso;omega)|(exact absurd rfl hc)|conv=>whnf)  |(refine CB ?_ ?_<;>intro hc<;>conv=>whnf))
  · have e:a.tmod b=a % b:=Int.tmod_eq_emod_of_nonneg h1
    have:=Int.emod_lt_of_pos a (by omega:0<b)
    have:=Int.emod_nonneg a (by omega:b≠0)
    exact again.mk ⟨_,by rw[e];omega,_,_,rfl,h2,by rw[e];omega,rfl,rfl⟩
  · exact⟨_,rfl⟩
theorem AAg {n d:Int}:D8 (Dx tab) 231 [.agg [.int .i64 n,.int .i64 d]] (fun v=>∃b,v=.bool b∧(b=true→1≤d∧d≤1000000000000000∧-1000000000000000≤n∧n≤1000000000000000)):=by
  refine Lu rfl rfl ?_
  (conv=>whnf);repeat' (first|((with_reducible first|apply kN|apply kW|apply kX|apply kG|apply kQ);(· exact sd);conv=>whnf)|(refine DW.mk ?_ ?_<;>intro hc<;>(try rw[List.length_nil]at hc)<;>first|(exfalso;omega)|(exact absurd rfl hc)|conv=>whnf)|(refine BM (size (n:=n) (by omega) (by omega)) ?_;rintro _ ⟨z,rfl,hz1,hz2⟩;conv=>whnf)|(refine BM (gcd (by omega) (by omega)) ?_;rintro _ ⟨z2,rfl⟩;conv=>whnf)|(refine CB ?_ ?_<;>intro hc<;>conv=>whnf))
  all_goals first|exact⟨_,rfl,fun _=>by omega⟩|exact⟨_,rfl,fun h=>absurd h Bool.false_ne_true⟩
theorem AQQ {s:List UInt8} (hl:s.length<2^63):D8 (Dx tab) 265 [.str s] (fun v=>∃b,v=.bool b):=by
  refine Lu rfl rfl ?_
  (conv=>whnf);repeat' (first|((with_reducible first|apply kN|apply kW|apply kX|apply kG|apply kQ);(· exact sd);conv=>whnf)|(refine DW.mk ?_ ?_<;>intro hc<;>(try rw[List.length_nil]at hc)<;>first|(exfalso;omega)|(exact absurd rfl hc)|conv=>whnf)  |(refine CB ?_ ?_<;>intro hc<;>conv=>whnf))
  refine DK (fun m env s'=>∃i:Nat,m=s.length-i∧env=[(0,.str s),(3,.int .i64 i)]∧s'=⟨[],0⟩) ?_ _ _ _ ⟨0,rfl,rfl,rfl⟩
  rintro _ _ _ ⟨i,rfl,rfl,rfl⟩
  refine⟨rfl,?_⟩
  (conv=>whnf);repeat' (first|((with_reducible first|apply kN|apply kW|apply kX|apply kG|apply kQ);(· exact sd);conv=>whnf)|(refine DW.mk ?_ ?_<;>intro hc<;>(try rw[List.length_nil]at hc)<;>first|(exfalso;omega)|(exact absurd rfl hc)|conv=>whnf)  |(refine CB ?_ ?_<;>intro hc<;>conv=>whnf))
  all_goals first|exact⟨_,rfl⟩|exact again.mk ⟨_,by omega,i+1,rfl,rfl,rfl⟩
theorem AyT {g:GV} {n:Int} (h:g.k=5∨g.k=6):D8 (Dx tab) 228 [g.av,.int .i64 n] (fun v=>∃b,v=.bool b):=by
  refine Lu rfl rfl ?_
  (conv=>whnf);repeat' (first|((with_reducible first|apply kN|apply kW|apply kX|apply kG|apply kQ);(· exact sd);conv=>whnf)|(refine DW.mk ?_ ?_<;>intro hc<;>(try rw[List.length_nil]at hc)<;>first|(exfalso;omega)|(exact absurd rfl hc)|conv=>whnf)|(refine BM (bare (g:=g)) ?_;rintro _ ⟨b,rfl⟩;conv=>whnf)|(refine CB ?_ ?_<;>intro hc<;>conv=>whnf))
  all_goals exact⟨_,rfl⟩
theorem AK7 {l:List AV} {nn:Bool} (hl:l.length<2^63) (h:∀x∈l,Like Tryz.prog 48 x):D8 (Dx tab) 266 [.sl nn l] (fun v=>∃b,v=.bool b):=by
  refine Lu rfl rfl ?_
  (conv=>whnf);repeat' (first|((with_reducible first|apply kN|apply kW|apply kX|apply kG|apply kQ);(· exact sd);conv=>whnf)|(refine DW.mk ?_ ?_<;>intro hc<;>(try rw[List.length_nil]at hc)<;>first|(exfalso;omega)|(exact absurd rfl hc)|conv=>whnf)  |(refine CB ?_ ?_<;>intro hc<;>conv=>whnf))
  all_goals first|exact⟨_,rfl⟩|skip
  refine DK (fun m env s'=>∃i:Nat,m=l.length-i∧env=[(0,.sl nn l),(3,.int .i64 i)]∧s'=⟨[],0⟩) ?_ _ _ _ ⟨0,rfl,rfl,rfl⟩
  rintro _ _ _ ⟨i,rfl,rfl,rfl⟩
  refine⟨rfl,?_⟩
  obtain⟨gx,hgx⟩:=Amk h i
  (conv=>whnf);repeat' (first|((with_reducible first|apply kN|apply kW|apply kX|apply kG|apply kQ);(· exact sd);conv=>whnf)|(refine DW.mk ?_ ?_<;>intro hc<;>(try rw[List.length_nil]at hc)<;>first|(exfalso;omega)|(exact absurd rfl hc)|conv=>whnf)|(apply LX;(· exact(hgx (by omega)).1);conv=>whnf)|(refine BM (AyT (g:=gx) (by omega)) ?_;rintro _ ⟨b,rfl⟩;conv=>whnf)|(refine CB ?_ ?_<;>intro hc<;>conv=>whnf))
  all_goals first|exact⟨_,rfl⟩|exact again.mk ⟨_,by omega,i+1,rfl,rfl,rfl⟩
theorem AWb {a b:Nat} (ha:a<2^63) (hb:b<2^63):D8 (Dx tab) 268 [.int .i64 a,.int .i64 b] (· =.int .i64 (Nat.gcd a b)):=by
  refine Lu rfl rfl ?_
  (conv=>whnf);repeat' (first  |((with_reducible first|apply kN|apply kW|apply kX|apply kG|apply kQ);(· exact sd);conv=>whnf)|(refine DW.mk ?_ ?_<;>intro hc<;>(try rw[List.length_nil]at hc)<;>first|(exfalso;omega)|(exact absurd rfl hc)|conv=>whnf)|(refine CB ?_ ?_<;>intro hc<;>conv=>whnf))
  refine DK (fun m env s=>∃(x y:Nat),m=1*y∧x<2^63∧y<2^63∧Nat.gcd x y=Nat.gcd a b∧env=[(0,.int .i64 x),(1,.int .i64 y)]∧s=⟨[],0⟩) ?_ _ _ _ ⟨a,b,(Nat.one_mul _).symm,ha,hb,rfl,rfl,rfl⟩
  clear ha hb
  rintro m _ _ ⟨x,y,hm,hx,hy,hg,rfl,rfl⟩
  have hm2:y=m:=by omega
  subst hm2
  refine⟨rfl,?_⟩
  (conv=>whnf);repeat' (first  |((with_reducible first|apply kN|apply kW|apply kX|apply kG|apply kQ);(· exact sd);conv=>whnf)|(refine DW.mk ?_ ?_<;>intro hc<;>(try rw[List.length_nil]at hc)<;>first|(exfalso;omega)|(exact absurd rfl hc)|conv=>whnf)|(refine CB ?_ ?_<;>intro hc<;>conv=>whnf))
  · have h0:0<y:=by omega
    have:=Nat.mod_lt x h0
    exact again.mk ⟨_,this,y,x % y,(Nat.one_mul _).symm,hy,by omega,by rw[Aw8];exact hg,by rw[Int.ofNat_tmod],rfl⟩
  · have h0:y=0:=by omega
    subst h0
    rw[Nat.gcd_zero_right]at hg
    rw[← hg];rfl
theorem fvR {n d:Int}:D8 (Dx tab) 231 [.agg [.int .i64 n,.int .i64 d]] (· =.bool (decide (VF n d))):=by
  by_cases h:1≤d∧d≤1000000000000000∧inR n
  · obtain⟨h1,h2,h3⟩:=h
    have h3':=h3
    unfold inR at h3'
    obtain⟨dn,rfl⟩:∃k:Nat,d=k:=⟨d.toNat,by omega⟩
    obtain⟨_,⟨z,rfl,z0,z1⟩,hz⟩:=(size (n:=n) (by omega) (by omega)).det
    obtain⟨zn,rfl⟩:∃k:Nat,z=k:=⟨z.toNat,by omega⟩
    have hzn:zn=n.natAbs:=by omega
    have hg:=AWb (a:=zn) (b:=dn) (by omega) (by omega)
    refine Lu rfl rfl ?_
    (conv=>whnf);repeat' (first|(refine BM hz ?_;rintro _ rfl;conv=>whnf)|(refine BM hg ?_;rintro _ rfl;conv=>whnf)|((with_reducible first|apply kN|apply kW|apply kX|apply kG|apply kQ);(· exact sd);conv=>whnf)|(refine DW.mk ?_ ?_<;>intro hc<;>(try rw[List.length_nil]at hc)<;>first|(exfalso;omega)|(exact absurd rfl hc)|conv=>whnf)|(refine CB ?_ ?_<;>intro hc<;>conv=>whnf))
    all_goals first
      |exact Lp ⟨h1,h2,h3,by rw[← hzn,Int.natAbs_natCast];omega⟩
      |exact Hf fun hv=>by have:=hv.2.2.2;rw[← hzn]at this;simp only[Int.natAbs_natCast]at this;omega
      |trace_state
  · have hno:=AAT h
    refine Lu rfl rfl ?_
    (conv=>whnf);repeat' (first  |((with_reducible first|apply kN|apply kW|apply kX|apply kG|apply kQ);(· exact sd);conv=>whnf)|(refine DW.mk ?_ ?_<;>intro hc<;>(try rw[List.length_nil]at hc)<;>first|(exfalso;omega)|(exact absurd rfl hc)|conv=>whnf)|(refine CB ?_ ?_<;>intro hc<;>conv=>whnf))
    all_goals first
      |exact Hf hno
      |(exfalso;refine h ⟨by omega,by omega,?_⟩;unfold inR;omega)
      |trace_state
def wd (b:Bool) (m:Nat):AV:=.agg [.bool b,.int .u64 ((m / 18446744073709551616:Nat):Int),.int .u64 ((m % 18446744073709551616:Nat):Int)]
theorem wU {z:Int} {K:AV→Prop} (y:Int) (h:z % 18446744073709551616=y) (hk:K (.int .u64 y)):ARy .u64 z K:=by
  subst h
  refine ZH ?_ hk
  simp[IntKind.wrap,IntKind.bits,IntKind.signed]
theorem ACi (n:Nat):(BitVec.ofInt 64 (n:Int)).toNat=n % 18446744073709551616:=by simp
theorem ALu (n:Nat):IntKind.u64.wrap (BitVec.ofInt IntKind.u64.bits (n:Int) &&& BitVec.ofInt IntKind.u64.bits 4294967295).toNat=((n % 4294967296:Nat):Int):=by
  show IntKind.u64.wrap (BitVec.ofInt 64 (n:Int) &&& BitVec.ofInt 64 ((4294967295:Nat):Int)).toNat=_
  rw[BitVec.toNat_and,ACi,ACi]
  have:(n % 18446744073709551616) &&& (4294967295 % 18446744073709551616)=n % 4294967296:=by
    rw[show (4294967295 % 18446744073709551616:Nat)=2 ^ 32-1 by rfl,Nat.and_two_pow_sub_one_eq_mod]
    omega
  rw[this]
  simp[IntKind.wrap,IntKind.bits,IntKind.signed]
  omega
theorem or0 {a b:Nat} (ha:a<18446744073709551616) (hb:b<18446744073709551616):IntKind.u64.wrap (BitVec.ofInt IntKind.u64.bits (a:Int) ||| BitVec.ofInt IntKind.u64.bits (b:Int)).toNat=0↔a=0∧b=0:=by
  show IntKind.u64.wrap (BitVec.ofInt 64 (a:Int) ||| BitVec.ofInt 64 (b:Int)).toNat=0↔_
  have h:=(BitVec.ofInt 64 (a:Int) ||| BitVec.ofInt 64 (b:Int)).isLt
  have e:IntKind.u64.wrap (BitVec.ofInt 64 (a:Int) ||| BitVec.ofInt 64 (b:Int)).toNat=((BitVec.ofInt 64 (a:Int) ||| BitVec.ofInt 64 (b:Int)).toNat:Int):=by
    simp only[IntKind.wrap,IntKind.bits,IntKind.signed,Bool.false_and,Bool.false_eq_true,if_false]
    omega
  rw[e,BitVec.toNat_or,ACi,ACi,Nat.mod_eq_of_lt ha,Nat.mod_eq_of_lt hb]
  constructor
  · intro h
    have h:a ||| b=0:=by omega
    exact Nat.or_eq_zero_iff.1 h
  · rintro⟨rfl,rfl⟩;rfl
theorem Aqh (n:Nat):((n:Int)).fdiv (2 ^ (min (Int.toNat 32) IntKind.u64.bits))=((n / 4294967296:Nat):Int):=by
  rw[show (2:Int) ^ (min (Int.toNat 32) IntKind.u64.bits)=4294967296 by rfl,Int.fdiv_eq_ediv_of_nonneg _ (by omega)]
  rfl
theorem mulN {a b:Nat} {A B:Nat} (ha:a≤A) (hb:b≤B) (h:A*B<18446744073709551616):((a:Int)*(b:Int)) % 18446744073709551616=((a*b:Nat):Int):=by
  have:a*b≤A*B:=Nat.mul_le_mul ha hb
  rw[Int.natCast_mul]
  have h2:((a*b:Nat):Int)<18446744073709551616:=by omega
  rw[← Int.natCast_mul]
  omega
theorem ACj (x0 x1 y0 y1:Nat):(x1*4294967296+x0)*(y1*4294967296+y0)=x1*y1*18446744073709551616+(x1*y0+x0*y1)*4294967296+x0*y0:=by
  rw[Nat.add_mul,Nat.mul_add,Nat.mul_add]
  have e1:x1*4294967296*(y1*4294967296)=x1*y1*18446744073709551616:=by
    rw[Nat.mul_mul_mul_comm]
  have e2:x1*4294967296*y0=x1*y0*4294967296:=by rw[Nat.mul_right_comm]
  have e3:x0*(y1*4294967296)=x0*y1*4294967296:=by rw[Nat.mul_assoc]
  rw[e1,e2,e3]
  omega
theorem ALv {x y:Nat} (hx:x<2^60) (hy:y<2^60):D8 (Dx tab) 299 [.int .u64 x,.int .u64 y] (· =.tup [.int .u64 ((x*y / 18446744073709551616:Nat):Int),.int .u64 ((x*y % 18446744073709551616:Nat):Int)]):=by
  obtain⟨x0,hx0⟩:∃x0,x % 4294967296=x0:=⟨_,rfl⟩
  obtain⟨x1,hx1⟩:∃x1,x / 4294967296=x1:=⟨_,rfl⟩
  obtain⟨y0,hy0⟩:∃y0,y % 4294967296=y0:=⟨_,rfl⟩
  obtain⟨y1,hy1⟩:∃y1,y / 4294967296=y1:=⟨_,rfl⟩
  have bx0:x0≤4294967295:=by omega
  have bx1:x1≤268435455:=by omega
  have by0:y0≤4294967295:=by omega
  have by1:y1≤268435455:=by omega
  have ex:=ACj x0 x1 y0 y1
  rw[show x1*4294967296+x0=x by omega,show y1*4294967296+y0=y by omega]at ex
  have p00:=Nat.mul_le_mul bx0 by0
  have p10:=Nat.mul_le_mul bx1 by0
  have p01:=Nat.mul_le_mul bx0 by1
  have p11:=Nat.mul_le_mul bx1 by1
  refine Lu rfl rfl ?_
  conv=>whnf
  repeat (first|(refine LM (by first|rfl|omega) ?_;conv=>whnf))
  refine KJ ((ALu x).trans (congrArg _ hx0)) ?_
  conv=>whnf
  repeat (first|(refine LM (by first|rfl|omega) ?_;conv=>whnf))
  refine KJ ((Aqh x).trans (congrArg _ hx1)) ?_
  conv=>whnf
  repeat (first|(refine LM (by first|rfl|omega) ?_;conv=>whnf))
  refine KJ ((ALu y).trans (congrArg _ hy0)) ?_
  conv=>whnf
  repeat (first|(refine LM (by first|rfl|omega) ?_;conv=>whnf))
  refine KJ ((Aqh y).trans (congrArg _ hy1)) ?_
  conv=>whnf
  repeat (first|(refine LM (by first|rfl|omega) ?_;conv=>whnf))
  refine wU _ (mulN bx0 by0 (by decide)) ?_
  conv=>whnf
  repeat (first|(refine LM (by first|rfl|omega) ?_;conv=>whnf))
  refine wU _ (mulN bx1 by0 (by decide)) ?_
  conv=>whnf
  repeat (first|(refine LM (by first|rfl|omega) ?_;conv=>whnf))
  refine KJ (Aqh _) ?_
  conv=>whnf
  repeat (first|(refine LM (by first|rfl|omega) ?_;conv=>whnf))
  refine wU ((x1*y0+x0*y0 / 4294967296:Nat):Int) (by omega) ?_
  conv=>whnf
  repeat (first|(refine LM (by first|rfl|omega) ?_;conv=>whnf))
  refine KJ (ALu _) ?_
  conv=>whnf
  repeat (first|(refine LM (by first|rfl|omega) ?_;conv=>whnf))
  refine KJ (Aqh _) ?_
  conv=>whnf
  repeat (first|(refine LM (by first|rfl|omega) ?_;conv=>whnf))
  refine wU _ (mulN bx0 by1 (by decide)) ?_
  conv=>whnf
  repeat (first|(refine LM (by first|rfl|omega) ?_;conv=>whnf))
  refine wU (((x1*y0+x0*y0 / 4294967296) % 4294967296+x0*y1:Nat):Int) (by omega) ?_
  conv=>whnf
  repeat (first|(refine LM (by first|rfl|omega) ?_;conv=>whnf))
  refine wU _ (mulN bx1 by1 (by decide)) ?_
  conv=>whnf
  repeat (first|(refine LM (by first|rfl|omega) ?_;conv=>whnf))
  refine wU ((x1*y1+(x1*y0+x0*y0 / 4294967296) / 4294967296:Nat):Int) (by omega) ?_
  conv=>whnf
  repeat (first|(refine LM (by first|rfl|omega) ?_;conv=>whnf))
  refine KJ (Aqh _) ?_
  conv=>whnf
  repeat (first|(refine LM (by first|rfl|omega) ?_;conv=>whnf))
  refine wU ((x1*y1+(x1*y0+x0*y0 / 4294967296) / 4294967296+((x1*y0+x0*y0 / 4294967296) % 4294967296+x0*y1) / 4294967296:Nat):Int) (by omega) ?_
  conv=>whnf
  repeat (first|(refine LM (by first|rfl|omega) ?_;conv=>whnf))
  refine wU ((x*y % 18446744073709551616:Nat):Int) (by rw[← Int.natCast_mul];omega) ?_
  conv=>whnf
  rw[ex]
  repeat (refine Ez rfl ?_;conv=>whnf)
  have e1:∀z z':Nat,z=z'→∀w:AV,AV.tup [.int .u64 ((z:Nat):Int),w]=.tup [.int .u64 ((z':Nat):Int),w]:=fun z z' h w=>by rw[h]
  exact e1 _ _ (by omega) _
theorem Afz {n:Int} (h:inR n):n.natAbs≤1000000000000000:=by unfold inR at h;omega
theorem AAO {n:Int} (h:inR n):D8 (Dx tab) 300 [.int .i64 n] (· =.int .u64 (n.natAbs:Int)):=by
  unfold inR at h
  refine Lu rfl rfl ?_
  (conv=>whnf);repeat' (first|(refine wU (n+18446744073709551616) (by omega) ?_;conv=>whnf)|(refine wU (n.natAbs:Int) (by omega) ?_;conv=>whnf)|((with_reducible first|apply kN|apply kW|apply kX|apply kG|apply kQ);(· exact sd);conv=>whnf)|(refine DW.mk ?_ ?_<;>intro hc<;>(try rw[List.length_nil]at hc)<;>first|(exfalso;omega)|(exact absurd rfl hc)|conv=>whnf)|(refine CB ?_ ?_<;>intro hc<;>conv=>whnf))
  all_goals first | rfl | (trace_state; fail "sizeP")
theorem Aqi {b:Bool} {m:Nat} {x y:Int} {c:Bool} (h1:b=c) (h2:((m / 18446744073709551616:Nat):Int)=x) (h3:((m % 18446744073709551616:Nat):Int)=y):AV.agg [.bool c,.int .u64 x,.int .u64 y]=wd b m:=by
  subst h1 h2 h3;rfl
theorem Aqf {a b:Int} (ha:inR a) (hb:inR b):D8 (Dx tab) 282 [.int .i64 a,.int .i64 b] (· =wd (decide (a<0) != decide (b<0)) (a.natAbs*b.natAbs)):=by
  have h1:=Afz ha
  have h2:=Afz hb
  have h3:=ALv (x:=a.natAbs) (y:=b.natAbs) (by omega) (by omega)
  refine Lu rfl rfl ?_
  (conv=>whnf);repeat' (first|(refine BM (AAO ha) ?_;rintro _ rfl;conv=>whnf)|(refine BM (AAO hb) ?_;rintro _ rfl;conv=>whnf)|(refine BM h3 ?_;rintro _ rfl;conv=>whnf)|((with_reducible first|apply kN|apply kW|apply kX|apply kG|apply kQ);(· exact sd);conv=>whnf)|(refine DW.mk ?_ ?_<;>intro hc<;>(try rw[List.length_nil]at hc)<;>first|(exfalso;omega)|(exact absurd rfl hc)|conv=>whnf)|(refine CB ?_ ?_<;>intro hc<;>conv=>whnf))
  all_goals first
    |exact Aqi (by rw[decide_eq_true (show a<0 by omega),decide_eq_true (show b<0 by omega)];rfl) rfl rfl
    |exact Aqi (by rw[decide_eq_true (show a<0 by omega),decide_eq_false (show ¬b<0 by omega)];rfl) rfl rfl
    |exact Aqi (by rw[decide_eq_false (show ¬a<0 by omega),decide_eq_true (show b<0 by omega)];rfl) rfl rfl
    |exact Aqi (by rw[decide_eq_false (show ¬a<0 by omega),decide_eq_false (show ¬b<0 by omega)];rfl) rfl rfl
    | (trace_state; fail "productP")
theorem ARz {x y c:Nat} (hc:c≤1):D8 (Dx tab) 301 [.int .u64 x,.int .u64 y,.int .u64 c] (· =.tup [.int .u64 (((x+y+c) % 18446744073709551616:Nat):Int),.int .u64 (((x+y+c) / 18446744073709551616:Nat):Int)]):=by
  refine Ay4 (sp:=addSpec) (v:=.tup [.int .u64 (((x+y+c) % 18446744073709551616:Nat):Int),.int .u64 (((x+y+c) / 18446744073709551616:Nat):Int)]) (s:=⟨[],0⟩) rfl ?_ rfl rfl
  show(if 0≤(x:Int)∧0≤(y:Int)∧0≤(c:Int)∧(c:Int)≤1 then _ else _)=_
  rw[if_pos ⟨by omega,by omega,by omega,by omega⟩]
  rfl
theorem ACk {x y c:Nat} (hc:c≤1) (h:y+c≤x+18446744073709551616):D8 (Dx tab) 303 [.int .u64 x,.int .u64 y,.int .u64 c] (· =.tup [.int .u64 (((x+18446744073709551616-y-c) % 18446744073709551616:Nat):Int),.int .u64 ((if x<y+c then 1 else 0:Nat):Int)]):=by
  refine Ay4 (sp:=AyA) (v:=.tup [.int .u64 (((x+18446744073709551616-y-c) % 18446744073709551616:Nat):Int),.int .u64 ((if x<y+c then 1 else 0:Nat):Int)]) (s:=⟨[],0⟩) rfl ?_ rfl rfl
  show(if 0≤(x:Int)∧0≤(y:Int)∧0≤(c:Int)∧(c:Int)≤1∧(y:Int)+c≤x+m64 then _ else _)=_
  rw[if_pos ⟨by omega,by omega,by omega,by omega,by unfold m64;omega⟩]
  have e1:((x:Int)+m64-y-c) % m64=(((x+18446744073709551616-y-c) % 18446744073709551616:Nat):Int):=by
    unfold m64;omega
  have e2:(if (x:Int)<y+c then(1:Int)else 0)=((if x<y+c then 1 else 0:Nat):Int):=by
    split<;>split<;>omega
  rw[e1,e2]
theorem AAP {a b:Bool} {m n:Nat}:D8 (Dx tab) 302 [wd a m,wd b n] (· =.bool (decide (m<n))):=by
  refine Lu rfl rfl ?_
  (conv=>whnf);repeat' (first  |((with_reducible first|apply kN|apply kW|apply kX|apply kG|apply kQ);(· exact sd);conv=>whnf)|(refine DW.mk ?_ ?_<;>intro hc<;>(try rw[List.length_nil]at hc)<;>first|(exfalso;omega)|(exact absurd rfl hc)|conv=>whnf)|(refine CB ?_ ?_<;>intro hc<;>conv=>whnf))
  all_goals first | exact Lp (by omega) | exact Hf (by omega) | (trace_state; fail "lessP")
def Aw5 (a:Bool) (m:Nat) (b:Bool) (n:Nat):AV:=if a=b then wd a (m+n)else if m<n then wd b (n-m)else wd a (m-n)
theorem ARr {a b:Bool} {m n:Nat} (hm:m<2^120) (hn:n<2^120):D8 (Dx tab) 283 [wd a m,wd b n] (· =Aw5 a m b n):=by
  have c1:=ARz (x:=m % 18446744073709551616) (y:=n % 18446744073709551616) (c:=0) (by omega)
  have c2:=ARz (x:=m / 18446744073709551616) (y:=n / 18446744073709551616) (c:=(m % 18446744073709551616+n % 18446744073709551616+0) / 18446744073709551616) (by omega)
  have d1:=ACk (x:=m % 18446744073709551616) (y:=n % 18446744073709551616) (c:=0) (by omega) (by omega)
  have d2:=ACk (x:=m / 18446744073709551616) (y:=n / 18446744073709551616) (c:=if m % 18446744073709551616<n % 18446744073709551616+0 then 1 else 0) (by split<;>omega) (by split<;>omega)
  have f1:=ACk (x:=n % 18446744073709551616) (y:=m % 18446744073709551616) (c:=0) (by omega) (by omega)
  have f2:=ACk (x:=n / 18446744073709551616) (y:=m / 18446744073709551616) (c:=if n % 18446744073709551616<m % 18446744073709551616+0 then 1 else 0) (by split<;>omega) (by split<;>omega)
  by_cases hab:a=b
  · have e:Aw5 a m b n=wd a (m+n):=if_pos hab
    rw[e]
    subst hab
    cases a
    all_goals
      refine Lu rfl rfl ?_
      (conv=>whnf);repeat' (first|(refine BM c1 ?_;rintro _ rfl;conv=>whnf)|(refine BM c2 ?_;rintro _ rfl;conv=>whnf)|((with_reducible first|apply kN|apply kW|apply kX|apply kG|apply kQ);(· exact sd);conv=>whnf)|(refine DW.mk ?_ ?_<;>intro hc<;>(try rw[List.length_nil]at hc)<;>first|(exfalso;omega)|(exact absurd rfl hc)|conv=>whnf)|(refine CB ?_ ?_<;>intro hc<;>conv=>whnf))
      all_goals first | (show AV.agg [.bool _, .int .u64 ((_ : Nat) : Int), .int .u64 ((_ : Nat) : Int)] = wd _ _; exact Aqi rfl (by omega) (by omega)) | (trace_state; fail "plusA")
  by_cases hlt:m<n
  · have e:Aw5 a m b n=wd b (n-m):=by unfold Aw5;rw[if_neg hab,if_pos hlt]
    have hl:D8 (Dx tab) 302 [wd a m,wd b n] (· =.bool true):=by
      have:=AAP (a:=a) (b:=b) (m:=m) (n:=n);rwa [decide_eq_true hlt]at this
    rw[e]
    cases a<;>cases b<;>(try exact absurd rfl hab)
    all_goals
      refine Lu rfl rfl ?_
      (conv=>whnf);repeat' (first|(refine BM hl ?_;rintro _ rfl;conv=>whnf)|(refine BM f1 ?_;rintro _ rfl;conv=>whnf)|(refine BM f2 ?_;rintro _ rfl;conv=>whnf)|((with_reducible first|apply kN|apply kW|apply kX|apply kG|apply kQ);(· exact sd);conv=>whnf)|(refine DW.mk ?_ ?_<;>intro hc<;>(try rw[List.length_nil]at hc)<;>first|(exfalso;omega)|(exact absurd rfl hc)|conv=>whnf)|(refine CB ?_ ?_<;>intro hc<;>conv=>whnf))
      all_goals first | (show AV.agg [.bool _, .int .u64 ((_ : Nat) : Int), .int .u64 ((_ : Nat) : Int)] = wd _ _; exact Aqi rfl (by split <;> omega) (by omega)) | (trace_state; fail "plusB")
  · have e:Aw5 a m b n=wd a (m-n):=by unfold Aw5;rw[if_neg hab,if_neg hlt]
    have hl:D8 (Dx tab) 302 [wd a m,wd b n] (· =.bool false):=by
      have:=AAP (a:=a) (b:=b) (m:=m) (n:=n);rwa [decide_eq_false hlt]at this
    rw[e]
    cases a<;>cases b<;>(try exact absurd rfl hab)
    all_goals
      refine Lu rfl rfl ?_
      (conv=>whnf);repeat' (first|(refine BM hl ?_;rintro _ rfl;conv=>whnf)|(refine BM d1 ?_;rintro _ rfl;conv=>whnf)|(refine BM d2 ?_;rintro _ rfl;conv=>whnf)|((with_reducible first|apply kN|apply kW|apply kX|apply kG|apply kQ);(· exact sd);conv=>whnf)|(refine DW.mk ?_ ?_<;>intro hc<;>(try rw[List.length_nil]at hc)<;>first|(exfalso;omega)|(exact absurd rfl hc)|conv=>whnf)|(refine CB ?_ ?_<;>intro hc<;>conv=>whnf))
      all_goals first | (show AV.agg [.bool _, .int .u64 ((_ : Nat) : Int), .int .u64 ((_ : Nat) : Int)] = wd _ _; exact Aqi rfl (by split <;> omega) (by omega)) | (trace_state; fail "plusC")
def sgW (a:Bool) (m:Nat):Int:=if m=0 then 0 else if a=true then -1 else 1
theorem AHk {a:Bool} {m:Nat} (hm:m<2^127):D8 (Dx tab) 284 [wd a m] (· =.int .i64 (sgW a m)):=by
  obtain⟨z,hz,hz0⟩:∃z,IntKind.u64.wrap (BitVec.ofInt IntKind.u64.bits ((m / 18446744073709551616:Nat):Int) ||| BitVec.ofInt IntKind.u64.bits ((m % 18446744073709551616:Nat):Int)).toNat=z∧(z=0↔m=0):=⟨_,rfl,by
    rw[or0 (by omega) (by omega)];omega⟩
  refine Lu rfl rfl ?_
  (conv=>whnf);repeat' (first|(refine KJ hz ?_;conv=>whnf)|((with_reducible first|apply kN|apply kW|apply kX|apply kG|apply kQ);(· exact sd);conv=>whnf)|(refine DW.mk ?_ ?_<;>intro hc<;>(try rw[List.length_nil]at hc)<;>first|(exfalso;omega)|(exact absurd rfl hc)|conv=>whnf)|(refine CB ?_ ?_<;>intro hc<;>conv=>whnf))
  all_goals first
    |exact congrArg (AV.int .i64) (by unfold sgW;rw[if_pos (by omega)])
    |exact congrArg (AV.int .i64) (by unfold sgW;rw[if_neg (by omega),if_pos (by assumption)])
    |exact congrArg (AV.int .i64) (by unfold sgW;rw[if_neg (by omega)];simp_all)
    | (trace_state; fail "signP")
def Dig (l:List Int):Prop:=l.length=14∧∀x∈l,0≤x∧x≤999
theorem Dig.set {l:List Int} (h:Dig l) {k:Nat} {y:Int} (hy:0≤y∧y≤999):Dig (l.set k y):=by
  refine⟨by rw[List.length_set];exact h.1,fun x hx=>?_⟩
  rcases List.mem_or_eq_of_mem_set hx with hx|rfl
  · exact h.2 x hx
  · exact hy
theorem Anq {d e:Int} (h1:0≤d) (h2:d≤999) (h3:0≤e) (h4:e≤999):0≤d*e∧d*e≤998001:=
  ⟨Int.mul_nonneg h1 h3,by
    have:=Int.mul_le_mul h2 h4 h3 (by omega:(0:Int)≤999)
    omega⟩
theorem tmE {c:Int} (h:0≤c):c.tmod 1000=c % 1000:=Int.tmod_eq_emod_of_nonneg h
theorem tdE {c:Int} (h:0≤c):c.tdiv 1000=c / 1000:=Int.tdiv_eq_ediv_of_nonneg h
def Left (j:Nat) (c:Int):Prop:=0≤c∧((j=0∧c<1000000000000000000)∨(j=1∧c<1000000000000000)∨(j=2∧c<1000000000000)∨(j=3∧c<1000000000)∨(j=4∧c<1000000)∨(j=5∧c<1000)∨(6≤j∧c=0))
def Carry (j:Nat) (y:Int):Prop:=0≤y∧((j≤6∧y≤999)∨(j=7∧y≤1)∨(j=8∧y=0))
theorem Ajt {j:Nat} {c:Int} (h:Left j c):Left (j+1) (c.tdiv 1000):=by
  have e:=tdE h.1
  unfold Left at *;omega
theorem Aqg {j:Nat} {c y x d:Int} (h:Left j c) (hy:Carry j y) (hj:0<c∨0<y) (hx:0≤x∧x≤999∧(j=7→x=0)) (hd:0≤d∧d≤999):Carry (j+1) ((y+x+d*c.tmod 1000).tdiv 1000):=by
  have e1:=tmE h.1
  have hm:=h.1
  obtain⟨m1,m2⟩:=Anq hd.1 hd.2 (e:=c.tmod 1000) (by omega) (by omega)
  have hy0:=hy.1
  have e2:=tdE (c:=y+x+d*c.tmod 1000) (by omega)
  have hc:c.tmod 1000=0∨j≤5:=by unfold Left at h;omega
  rw[e2]
  rcases hc with h0|h0
  · have hm0:d*c.tmod 1000=0:=by rw[h0];exact Int.mul_zero _
    rw[hm0]
    unfold Carry Left at *;omega
  · unfold Carry Left at *;omega
theorem ALt {i:Nat} {dd:Int} {A:Int} {l:List Int} {Q:Je→Env→Sto→Prop} (hi:i≤5) (hl:Dig l) (hz:∀q (h:q<l.length),i+7≤q→l[q]=0) (hd:0≤dd∧dd≤999) {B C:Int} (hB:0≤C∧C≤1000000000000000)
    (hQ:∀(l':List Int) (c k y:Int),Dig l'→(∀ q (h:q<l'.length),i+8≤q→l'[q]=0)→Q (.exit 2) [(0,.int .i64 A),(1,.int .i64 B),(5,.own 0 0 0 14),(6,.int .i64 i),(7,.int .i64 dd),(8,.int .i64 c),(9,.int .i64 y),(10,.int .i64 k),(27,.bool false)] ⟨[.arr 0 1 true true (ints l')],1⟩):
    Run (Dx tab) (.loop l234_0_h l234_0_b) [(0,.int .i64 A),(1,.int .i64 B),(5,.own 0 0 0 14),(6,.int .i64 i),(7,.int .i64 dd),(8,.int .i64 C),(9,.int .i64 0),(10,.int .i64 i)] ⟨[.arr 0 1 true true (ints l)],1⟩ Q:=by
  refine DK (fun m env s=>∃(j k:Nat) (c y:Int) (l:List Int),m=8-j∧k=i+j∧Left j c∧Carry j y∧Dig l∧(∀ q (h:q<l.length),i+7≤q→k≤q→l[q]=0)∧
    env=[(0,.int .i64 A),(1,.int .i64 B),(5,.own 0 0 0 14),(6,.int .i64 i),(7,.int .i64 dd),(8,.int .i64 c),(9,.int .i64 y),(10,.int .i64 k)]∧s=⟨[.arr 0 1 true true (ints l)],1⟩) ?_ _ _ _ ⟨0,i,C,0,l,rfl,rfl,by unfold Left;omega,by unfold Carry;omega,hl,fun q h h1 h2=>hz q h h1,rfl,rfl⟩
  clear hl hz hB
  rintro _ _ _ ⟨j,k,c,y,l,rfl,hk,hc0,hy,hl,hz,rfl,rfl⟩
  refine⟨rfl,?_⟩
  have hll:=hl.1
  have hj7:0<c∨0<y→j≤7:=by unfold Left Carry at *;omega
  have hk8:k≤i+8:=by unfold Carry at hy;omega
  have c0:=hc0.1
  have y0:=hy.1
  have c1:c<1000000000000000000:=by unfold Left at hc0;omega
  have y1:y≤999:=by unfold Carry at hy;omega
  have e2:=tdE c0
  obtain⟨m0,m1,m2⟩:∃m,dd*c.tmod 1000=m∧0≤m∧m≤998001:=⟨_,rfl,by have:=tmE c0;exact Anq hd.1 hd.2 (by omega) (by omega)⟩
  obtain⟨x,hx⟩:∃x:Int,∀h:k<l.length,l[k]=x∧0≤x∧x≤999∧(j=7→x=0):=by
    by_cases h:k<l.length
    · exact⟨l[k],fun _=>⟨rfl,(hl.2 _ (List.getElem_mem h)).1,(hl.2 _ (List.getElem_mem h)).2,fun h7=>hz k h (by omega) (by omega)⟩⟩
    · exact⟨0,fun h'=>absurd h' h⟩
  have hkl:0<c∨0<y→k<l.length:=by intro h;have:=hj7 h;omega
  have hq:∀h:k<l.length,(y+x+dd*c.tmod 1000).tdiv 1000=(y+x+dd*c.tmod 1000) / 1000∧0≤y+x+dd*c.tmod 1000∧y+x+dd*c.tmod 1000≤2000000:=by
    intro h
    have h1:=hx h
    have h2:0≤y+x+dd*c.tmod 1000:=by omega
    exact⟨tdE h2,h2,by omega⟩
  clear hj7
  by_cases hstop:0<c∨0<y
  · have hk1:=hkl hstop
    obtain⟨q1,q2,q3⟩:=hq hk1
    obtain⟨x0,x1,x2,x3⟩:=hx hk1
    have fin:∀k',k'=(k:Int)+1→again (fun m env s=>∃(j k:Nat) (c y:Int) (l:List Int),m=8-j∧k=i+j∧Left j c∧Carry j y∧Dig l∧(∀ q (h:q<l.length),i+7≤q→k≤q→l[q]=0)∧
        env=[(0,.int .i64 A),(1,.int .i64 B),(5,.own 0 0 0 14),(6,.int .i64 i),(7,.int .i64 dd),(8,.int .i64 c),(9,.int .i64 y),(10,.int .i64 k)]∧s=⟨[.arr 0 1 true true (ints l)],1⟩) (8-j)
        [(0,.int .i64 A),(1,.int .i64 B),(5,.own 0 0 0 14),(6,.int .i64 i),(7,.int .i64 dd),(8,.int .i64 (c.tdiv 1000)),(9,.int .i64 ((y+x+dd*c.tmod 1000).tdiv 1000)),(10,.int .i64 k')] ⟨[.arr 0 1 true true (ints (l.set k ((y+x+dd*c.tmod 1000).tmod 1000)))],1⟩:=by
      intro k' hk'
      have e3:=tmE q2
      refine again.mk ⟨_,?_,j+1,k+1,_,_,_,rfl,by omega,Ajt hc0,Aqg hc0 hy hstop ⟨x1,x2,x3⟩ hd,hl.set (by rw[e3];omega),fun q h h1 h2=>?_,by rw[hk'];rfl,rfl⟩
      · have:j≤7:=by unfold Left Carry at *;omega
        omega
      · rw[List.length_set]at h
        rw[List.getElem_set_ne (by omega)]
        exact hz q h h1 (by omega)
    clear hx hq hkl hz hl hc0 hy m2
    (conv=>whnf);repeat' (first|((with_reducible first|apply kN|apply kW|apply kX|apply kG|apply kQ);(· exact sd);conv=>whnf)|(refine DW.mk ?_ ?_<;>intro hc<;>(try rw[List.length_nil]at hc)<;>first|(exfalso;omega)|(exact absurd rfl hc)|conv=>whnf)|(rw [x0];conv=>whnf)|(refine CB ?_ ?_<;>intro hc<;>conv=>whnf))
    all_goals exact fin _ rfl
  · clear hx hq hkl
    (conv=>whnf);repeat' (first|((with_reducible first|apply kN|apply kW|apply kX|apply kG|apply kQ);(· exact sd);conv=>whnf)|(refine DW.mk ?_ ?_<;>intro hc<;>(try rw[List.length_nil]at hc)<;>first|(exfalso;omega)|(exact absurd rfl hc)|conv=>whnf)  |(refine CB ?_ ?_<;>intro hc<;>conv=>whnf))
    exact hQ l _ _ _ hl (fun q h h1=>hz q h (by omega) (by omega))
theorem AQX {l:List AV} {nn:Bool} (hl:l.length<2^63):D8 (Dx tab) 267 [.sl nn l,.int .i64 0] (fun v=>∃b,v=.bool b):=by
  refine Lu rfl rfl ?_
  (conv=>whnf);repeat' (first|((with_reducible first|apply kN|apply kW|apply kX|apply kG|apply kQ);(· exact sd);conv=>whnf)|(refine DW.mk ?_ ?_<;>intro hc<;>(try rw[List.length_nil]at hc)<;>first|(exfalso;omega)|(exact absurd rfl hc)|conv=>whnf)  |(refine CB ?_ ?_<;>intro hc<;>conv=>whnf))
  all_goals exact⟨_,rfl⟩
theorem AQY {n:Nat} (ih:∀{g:GV},g.ok→D8 (Dx tab) 228 [g.av,.int .i64 n] (fun v=>∃b,v=.bool b)) (hn:n<2^60) {l:List AV} {nn:Bool} (hl:l.length<2^63) (h:∀x∈l,Like Tryz.prog 48 x):
    D8 (Dx tab) 267 [.sl nn l,.int .i64 (n+1:Nat)] (fun v=>∃b,v=.bool b):=by
  refine Lu rfl rfl ?_
  (conv=>whnf);repeat' (first|((with_reducible first|apply kN|apply kW|apply kX|apply kG|apply kQ);(· exact sd);conv=>whnf)|(refine DW.mk ?_ ?_<;>intro hc<;>(try rw[List.length_nil]at hc)<;>first|(exfalso;omega)|(exact absurd rfl hc)|conv=>whnf)  |(refine CB ?_ ?_<;>intro hc<;>conv=>whnf))
  all_goals first|exact⟨_,rfl⟩|skip
  refine DK (fun m env s'=>∃i:Nat,m=l.length-i∧env=[(0,.sl nn l),(1,.int .i64 (n+1:Nat)),(5,.int .i64 i)]∧s'=⟨[],0⟩) ?_ _ _ _ ⟨0,rfl,rfl,rfl⟩
  rintro _ _ _ ⟨i,rfl,rfl,rfl⟩
  refine⟨rfl,?_⟩
  obtain⟨gx,hgx⟩:=Amk h i
  have ih':∀{g:GV},g.ok→D8 (Dx tab) 228 [g.av,.int .i64 (((n+1:Nat):Int)-1)] (fun v=>∃b,v=.bool b):=by
    rw[show ((n+1:Nat):Int)-1=(n:Int) by omega];exact ih
  (conv=>whnf);repeat' (first|((with_reducible first|apply kN|apply kW|apply kX|apply kG|apply kQ);(· exact sd);conv=>whnf)|(refine DW.mk ?_ ?_<;>intro hc<;>(try rw[List.length_nil]at hc)<;>first|(exfalso;omega)|(exact absurd rfl hc)|conv=>whnf)|(apply LX;(· exact(hgx (by omega)).1);conv=>whnf)|(refine BM (ih' (g:=gx) (hgx (by omega)).2.2) ?_;rintro _ ⟨b,rfl⟩;conv=>whnf)|(refine CB ?_ ?_<;>intro hc<;>conv=>whnf))
  all_goals first|exact⟨_,rfl⟩|exact again.mk ⟨_,by omega,i+1,rfl,rfl,rfl⟩
theorem AAz {n:Int} {g:GV} (hg:g.ok) (hlist:D8 (Dx tab) 267 [.sl g.nn g.l,.int .i64 n] (fun v=>∃b,v=.bool b)):
    D8 (Dx tab) 228 [g.av,.int .i64 n] (fun v=>∃b,v=.bool b):=by
  obtain⟨g1,g2,g3,g4,g5,g6,g7⟩:=hg
  unfold Ln at g4 g5
  refine Lu rfl rfl ?_
  (conv=>whnf);repeat' (first|((with_reducible first|apply kN|apply kW|apply kX|apply kG|apply kQ);(· exact sd);conv=>whnf)|(refine DW.mk ?_ ?_<;>intro hc<;>(try rw[List.length_nil]at hc)<;>first|(exfalso;omega)|(exact absurd rfl hc)|conv=>whnf)|(refine BM (bare (g:=g)) ?_;rintro _ ⟨b,rfl⟩;conv=>whnf)|(refine BM (AVx (n:=g.n)) ?_;rintro _ ⟨b,rfl⟩;conv=>whnf)|(refine BM (AAg (n:=g.n) (d:=g.d)) ?_;rintro _ ⟨b,rfl,_⟩;conv=>whnf)|(refine BM (AQQ g4) ?_;rintro _ ⟨b,rfl⟩;conv=>whnf)|(refine BM (AK7 g5 g7) ?_;rintro _ ⟨b,rfl⟩;conv=>whnf)|(refine BM hlist ?_;rintro _ ⟨b,rfl⟩;conv=>whnf)|(refine CB ?_ ?_<;>intro hc<;>conv=>whnf))
  all_goals exact⟨_,rfl⟩
theorem valid {n:Nat} (hn:n<2^60):∀{g:GV},g.ok→D8 (Dx tab) 228 [g.av,.int .i64 n] (fun v=>∃b,v=.bool b):=by
  induction n with
  |zero=>intro g hg;exact AAz hg (AQX hg.2.2.2.2.1)
  |succ n ih=>intro g hg;exact AAz hg (AQY (ih (by omega)) (by omega) hg.2.2.2.2.1 hg.2.2.2.2.2.2)
theorem Valid {g:GV} (hg:g.ok):D8 (Dx tab) 164 [g.av] (fun v=>∃b,v=.bool b):=by
  refine Lu rfl rfl ?_
  (conv=>whnf);repeat' (first|((with_reducible first|apply kN|apply kW|apply kX|apply kG|apply kQ);(· exact sd);conv=>whnf)|(refine DW.mk ?_ ?_<;>intro hc<;>(try rw[List.length_nil]at hc)<;>first|(exfalso;omega)|(exact absurd rfl hc)|conv=>whnf)|(refine BM (valid (n:=8) (by omega) hg) ?_;rintro _ ⟨b,rfl⟩;conv=>whnf)|(refine CB ?_ ?_<;>intro hc<;>conv=>whnf))
  all_goals exact⟨_,rfl⟩
end AI
end Go.Proofs.YtnbibfalljlmfaaGreatDoor
