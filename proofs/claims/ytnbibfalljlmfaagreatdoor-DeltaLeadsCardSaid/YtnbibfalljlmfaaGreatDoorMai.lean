/- The reference's numbers, classes, strings compared. The reference's comparison of a fraction with itself. Numbers by their digits to the base 1000: plain. The reference's wide numbers: what their product and their order are. -/
import Derived.Test.YtnbibfalljlmfaaGreatDoorMah
set_option linter.unusedVariables false
set_option maxRecDepth 4000
namespace Go.Proofs.YtnbibfalljlmfaaGreatDoor
namespace AI
theorem number {g:GV} (hg:g.ok):D8 (Dx tab) 169 [g.av] (fun v=>∃n d b,v=.tup [.agg [.int .i64 n,.int .i64 d],.bool b]):=by
  refine Lu rfl rfl ?_
  (conv=>whnf);repeat' (first|((with_reducible first|apply kN|apply kW|apply kX|apply kG|apply kQ);(· exact sd);conv=>whnf)|(refine DW.mk ?_ ?_<;>intro hc<;>(try rw[List.length_nil]at hc)<;>first|(exfalso;omega)|(exact absurd rfl hc)|conv=>whnf)|(refine BM (Valid hg) ?_;rintro _ ⟨b,rfl⟩;conv=>whnf)|(refine CB ?_ ?_<;>intro hc<;>conv=>whnf))
  all_goals exact⟨_,_,_,rfl⟩
theorem AKK {k:Int}:D8 (Dx tab) 168 [.int .i64 k] (fun v=>∃z,v=.int .i64 z):=by
  refine Lu rfl rfl ?_
  (conv=>whnf);repeat' (first|((with_reducible first|apply kN|apply kW|apply kX|apply kG|apply kQ);(· exact sd);conv=>whnf)|(refine DW.mk ?_ ?_<;>intro hc<;>(try rw[List.length_nil]at hc)<;>first|(exfalso;omega)|(exact absurd rfl hc)|conv=>whnf)  |(refine CB ?_ ?_<;>intro hc<;>conv=>whnf))
  all_goals exact⟨_,rfl⟩
theorem Az0 {k:Int}:D8 (Dx tab) 167 [.int .i64 k,.int .i64 k] (· =.int .i64 0):=by
  refine Lu rfl rfl ?_
  (conv=>whnf);repeat' (first|((with_reducible first|apply kN|apply kW|apply kX|apply kG|apply kQ);(· exact sd);conv=>whnf)|(refine DW.mk ?_ ?_<;>intro hc<;>(try rw[List.length_nil]at hc)<;>first|(exfalso;omega)|(exact absurd rfl hc)|conv=>whnf)  |(refine CB ?_ ?_<;>intro hc<;>conv=>whnf))
  all_goals rfl
theorem At3:∀s:List UInt8,Op.bytesLess s s=false
  |[]=>rfl
  |a::s=>by simp[Op.bytesLess,At3 s]
theorem Az1 {s:List UInt8}:D8 (Dx tab) 229 [.str s,.str s] (· =.int .i64 0):=by
  refine Lu rfl rfl ?_
  (conv=>whnf);repeat' (first|((with_reducible first|apply kN|apply kW|apply kX|apply kG|apply kQ);(· exact sd);conv=>whnf)|(refine DW.mk ?_ ?_<;>intro hc<;>(try rw[List.length_nil]at hc)<;>first|(exfalso;omega)|(exact absurd rfl hc)|conv=>whnf)  |(refine CB ?_ ?_<;>intro hc<;>conv=>whnf))
  all_goals first|rfl|(exfalso;simp[At3]at hc)
theorem times {a b:Int} (ha:0≤a∧a≤1000000000000000) (hb:0≤b∧b≤1000000000000000):D8 (Dx tab) 234 [.int .i64 a,.int .i64 b] (fun v=>∃nn l,v=isl nn l∧Dig l):=by
  refine Lu rfl rfl ?_
  (conv=>whnf);repeat' (first|((with_reducible first|apply kN|apply kW|apply kX|apply kG|apply kQ);(· exact sd);conv=>whnf)|(refine DW.mk ?_ ?_<;>intro hc<;>(try rw[List.length_nil]at hc)<;>first|(exfalso;omega)|(exact absurd rfl hc)|conv=>whnf)  |(refine CB ?_ ?_<;>intro hc<;>conv=>whnf))
  refine DK (fun m env s=>∃(i:Nat) (a:Int) (l:List Int),m=7-i∧i≤6∧Left i a∧Dig l∧(∀ q (h:q<l.length),i+7≤q→l[q]=0)∧env=[(0,.int .i64 a),(1,.int .i64 b),(5,.own 0 0 0 14),(6,.int .i64 i)]∧s=⟨[.arr 0 1 true true (ints l)],1⟩) ?_ _ _ _ ⟨0,a,List.replicate 14 0,rfl,by omega,by unfold Left;omega,⟨by simp,by intro x hx;have:=List.eq_of_mem_replicate hx;omega⟩,fun q h _=>List.getElem_replicate _,rfl,rfl⟩
  clear ha a
  rintro _ _ _ ⟨i,a,l,rfl,hi,hL,hl,hz,rfl,rfl⟩
  refine⟨rfl,?_⟩
  have a0:=hL.1
  have e1:=tmE a0
  have e2:=tdE a0
  have a1:a<1000000000000000000:=by unfold Left at hL;omega
  (conv=>whnf);repeat' (first|((with_reducible first|apply kN|apply kW|apply kX|apply kG|apply kQ);(· exact sd);conv=>whnf)|(refine DW.mk ?_ ?_<;>intro hc<;>(try rw[List.length_nil]at hc)<;>first|(exfalso;omega)|(exact absurd rfl hc)|conv=>whnf)  |(refine CB ?_ ?_<;>intro hc<;>conv=>whnf))
  · have hi5:i≤5:=by unfold Left at hL;omega
    refine ALt (dd:=a.tmod 1000) hi5 hl hz (by omega) hb ?_
    intro l' c k y hl' hz'
    (conv=>whnf);repeat' (first|((with_reducible first|apply kN|apply kW|apply kX|apply kG|apply kQ);(· exact sd);conv=>whnf)|(refine DW.mk ?_ ?_<;>intro hc<;>(try rw[List.length_nil]at hc)<;>first|(exfalso;omega)|(exact absurd rfl hc)|conv=>whnf)  |(refine CB ?_ ?_<;>intro hc<;>conv=>whnf))
    exact again.mk ⟨_,by omega,i+1,_,l',rfl,by omega,Ajt hL,hl',hz',rfl,rfl⟩
  · refine need.mk ⟨rfl,by rw[lI,hl.1];omega⟩ (KJ (b:=ints l) ?_ ⟨true,l,rfl,hl⟩)
    have:=@uI l
    rw[hl.1]at this
    exact this
theorem plus {x y:List Int} {na nb:Bool} (hx:Dig x) (hy:Dig y):D8 (Dx tab) 269 [isl na x,isl nb y] (fun v=>∃nn l,v=isl nn l):=by
  have hxl:=hx.1
  have hyl:=hy.1
  refine Lu rfl rfl ?_
  (conv=>whnf);repeat' (first|((with_reducible first|apply kN|apply kW|apply kX|apply kG|apply kQ);(· exact sd);conv=>whnf)|(refine DW.mk ?_ ?_<;>intro hc<;>(try rw[List.length_nil]at hc)<;>first|(exfalso;omega)|(exact absurd rfl hc)|conv=>whnf)  |(refine CB ?_ ?_<;>intro hc<;>conv=>whnf))
  refine DK (fun m env s=>∃(k:Nat) (c:Int) (l:List Int),m=14-k∧0≤c∧c≤1∧l.length=14∧env=[(0,isl na x),(1,isl nb y),(5,.own 0 0 0 (Int.toNat (Nat.cast x.length))),(6,.int .i64 c),(7,.int .i64 k)]∧s=⟨[.arr 0 1 true true (ints l)],1⟩) ?_ _ _ _ ⟨0,0,List.replicate x.length 0,rfl,by omega,by omega,by simp[hxl],rfl,rfl⟩
  rintro _ _ _ ⟨k,c,l,rfl,c0,c1,hl,rfl,rfl⟩
  refine⟨rfl,?_⟩
  have bx:∀h:k<x.length,0≤x[k]∧x[k]≤999:=fun h=>hx.2 _ (List.getElem_mem h)
  have bY:∀h:k<y.length,0≤y[k]∧y[k]≤999:=fun h=>hy.2 _ (List.getElem_mem h)
  have hq:∀(h:k<x.length) (h2:k<y.length),(c+x[k]+y[k]).tdiv 1000=(c+x[k]+y[k]) / 1000∧0≤x[k]∧x[k]≤999∧0≤y[k]∧y[k]≤999:=by
    intro h h2
    have:=bx h
    have:=bY h2
    exact⟨tdE (by omega),by omega⟩
  (conv=>whnf);repeat' (first|((with_reducible first|apply kN|apply kW|apply kX|apply kG|apply kQ);(· exact sd);conv=>whnf)|(refine DW.mk ?_ ?_<;>intro hc<;>(try rw[List.length_nil]at hc)<;>first|(exfalso;omega)|(exact absurd rfl hc)|conv=>whnf)|(have hwr:=hq (by omega) (by omega);apply ZH;(· exact wrap_i64 (by omega) (by omega));clear hwr;conv=>whnf)|(refine CB ?_ ?_<;>intro hc<;>conv=>whnf))
  · obtain⟨q1,q2⟩:=hq (by omega) (by omega)
    exact again.mk ⟨_,by omega,k+1,_,_,rfl,by omega,by omega,by rw[List.length_set];exact hl,rfl,rfl⟩
  · refine⟨true,l,?_⟩
    rw[hxl]
    have:=@uI l
    rw[hl]at this
    exact congrArg (AV.sl true) this
theorem AHr {c0:Nat} {x y:List Int} (hx:Dig x) (hy:Dig y):H6 (Dx tab) 269 [.own 0 0 0 14,.own 1 1 0 14] ⟨[.arr 0 1 true true (ints x),.arr 1 1 true true (ints y)],c0⟩ fun out s'=>∃l:List Int,out=.ok (.own 2 c0 0 14)∧s'=⟨[.arr 0 1 true true (ints x),.arr 1 1 true true (ints y),.arr c0 1 true true (ints l)],c0+1⟩∧l.length=14:=by
  have hxl:=hx.1
  have hyl:=hy.1
  refine FH rfl rfl ?_
  (conv=>whnf);repeat' (first|((with_reducible first|apply kN|apply kW|apply kX|apply kG|apply kQ);(· exact sd);conv=>whnf)|(refine DW.mk ?_ ?_<;>intro hc<;>(try rw[List.length_nil]at hc)<;>first|(exfalso;omega)|(exact absurd rfl hc)|conv=>whnf)  |(refine CB ?_ ?_<;>intro hc<;>conv=>whnf))
  refine DK (fun m env s=>∃(k:Nat) (c:Int) (l:List Int),m=14-k∧0≤c∧c≤1∧l.length=14∧env=[(0,.own 0 0 0 14),(1,.own 1 1 0 14),(5,.own 2 c0 0 14),(6,.int .i64 c),(7,.int .i64 k)]∧s=⟨[.arr 0 1 true true (ints x),.arr 1 1 true true (ints y),.arr c0 1 true true (ints l)],c0+1⟩) ?_ _ _ _ ⟨0,0,List.replicate 14 0,rfl,by omega,by omega,by simp,rfl,rfl⟩
  rintro _ _ _ ⟨k,c,l,rfl,c2,c1,hl,rfl,rfl⟩
  refine⟨rfl,?_⟩
  have bx:∀h:k<x.length,0≤x[k]∧x[k]≤999:=fun h=>hx.2 _ (List.getElem_mem h)
  have bY:∀h:k<y.length,0≤y[k]∧y[k]≤999:=fun h=>hy.2 _ (List.getElem_mem h)
  have hq:∀(h:k<x.length) (h2:k<y.length),(c+x[k]+y[k]).tdiv 1000=(c+x[k]+y[k]) / 1000∧0≤x[k]∧x[k]≤999∧0≤y[k]∧y[k]≤999:=by
    intro h h2
    have:=bx h
    have:=bY h2
    exact⟨tdE (by omega),by omega⟩
  (conv=>whnf);repeat' (first|((with_reducible first|apply kN|apply kW|apply kX|apply kG|apply kQ);(· exact sd);conv=>whnf)|(refine DW.mk ?_ ?_<;>intro hc<;>(try rw[List.length_nil]at hc)<;>first|(exfalso;omega)|(exact absurd rfl hc)|conv=>whnf)|(have hwr:=hq (by omega) (by omega);apply ZH;(· exact wrap_i64 (by omega) (by omega));clear hwr;conv=>whnf)|(refine CB ?_ ?_<;>intro hc<;>conv=>whnf))
  · obtain⟨q1,q2⟩:=hq (by omega) (by omega)
    exact again.mk ⟨_,by omega,k+1,_,_,rfl,by omega,by omega,by rw[List.length_set];exact hl,rfl,rfl⟩
  · exact⟨l,rfl,rfl,hl⟩
theorem AEf:Dig (List.replicate 14 0):=⟨by simp,by intro x hx;have:=List.eq_of_mem_replicate hx;omega⟩
theorem ANq {x:List Int} {na:Bool} (hx:Dig x):D8 (Dx tab) 270 [isl na x,isl na x] (· =.int .i64 0):=by
  have hxl:=hx.1
  refine Lu rfl rfl ?_
  (conv=>whnf);repeat' (first|((with_reducible first|apply kN|apply kW|apply kX|apply kG|apply kQ);(· exact sd);conv=>whnf)|(refine DW.mk ?_ ?_<;>intro hc<;>(try rw[List.length_nil]at hc)<;>first|(exfalso;omega)|(exact absurd rfl hc)|conv=>whnf)  |(refine CB ?_ ?_<;>intro hc<;>conv=>whnf))
  refine DK (fun m env s=>∃(k:Int),m=(k+1).toNat∧-1≤k∧k≤13∧env=[(0,isl na x),(1,isl na x),(5,.int .i64 k)]∧s=⟨[],0⟩) ?_ _ _ _ ⟨_,rfl,?_,?_,rfl,rfl⟩
  rotate_left
  · omega
  · omega
  rintro _ _ _ ⟨k,rfl,k0,k1,rfl,rfl⟩
  refine⟨rfl,?_⟩
  (conv=>whnf);repeat' (first|((with_reducible first|apply kN|apply kW|apply kX|apply kG|apply kQ);(· exact sd);conv=>whnf)|(refine DW.mk ?_ ?_<;>intro hc<;>(try rw[List.length_nil]at hc)<;>first|(exfalso;omega)|(exact absurd rfl hc)|conv=>whnf)  |(refine CB ?_ ?_<;>intro hc<;>conv=>whnf))
  · exact again.mk ⟨_,by omega,_,rfl,by omega,by omega,rfl,rfl⟩
  · rfl
theorem ARK {an:Int} {na:Bool} {l:List Int} (hl:Dig l):D8 (Dx tab) 232 [.int .i64 an,isl na l,.int .i64 (0-an),isl na l] (fun v=>∃n2 l2,v=.tup [.int .i64 0,isl n2 l2]):=by
  refine Lu rfl rfl ?_
  (conv=>whnf);repeat' (first|((with_reducible first|apply kN|apply kW|apply kX|apply kG|apply kQ);(· exact sd);conv=>whnf)|(refine DW.mk ?_ ?_<;>intro hc<;>(try rw[List.length_nil]at hc)<;>first|(exfalso;omega)|(exact absurd rfl hc)|conv=>whnf)|(refine BM (plus hl hl) ?_;rintro _ ⟨nn,l,rfl⟩;conv=>whnf)|(refine BM (ANq hl) ?_;rintro _ rfl;conv=>whnf)|(refine CB ?_ ?_<;>intro hc<;>conv=>whnf))
  · exact⟨_,_,by rw[show an=0 by omega];rfl⟩
  · refine H6.mono (K:=fun out s'=>∃l:List Int,out=.ok (.own 2 4 0 14)∧s'=⟨[.arr 0 1 true true (ints (List.replicate 14 0)),.arr 1 1 true true (ints (List.replicate 14 0)),.arr 4 1 true true (ints l)],5⟩∧l.length=14) (AHr (c0:=4) AEf AEf) ?_
    rintro _ _ ⟨l2,rfl,rfl,hl2⟩
    (conv=>whnf);repeat' (first|((with_reducible first|apply kN|apply kW|apply kX|apply kG|apply kQ);(· exact sd);conv=>whnf)|(refine DW.mk ?_ ?_<;>intro hc<;>(try rw[List.length_nil]at hc)<;>first|(exfalso;omega)|(exact absurd rfl hc)|conv=>whnf)  |(refine CB ?_ ?_<;>intro hc<;>conv=>whnf))
    refine⟨true,l2,?_⟩
    have:=@uI l2
    rw[hl2]at this
    exact congrArg (fun q=>AV.tup [.int .i64 0,.sl true q]) this
def sgn (n:Int):Int:=if n<0 then -1 else if 0<n then 1 else 0
theorem sign {n:Int}:D8 (Dx tab) 233 [.int .i64 n] (· =.int .i64 (sgn n)):=by
  refine Lu rfl rfl ?_
  (conv=>whnf);repeat' (first|((with_reducible first|apply kN|apply kW|apply kX|apply kG|apply kQ);(· exact sd);conv=>whnf)|(refine DW.mk ?_ ?_<;>intro hc<;>(try rw[List.length_nil]at hc)<;>first|(exfalso;omega)|(exact absurd rfl hc)|conv=>whnf)  |(refine CB ?_ ?_<;>intro hc<;>conv=>whnf))
  all_goals unfold sgn;first|(rw [if_pos (by omega)];rfl)|(rw [if_neg (by omega),if_pos (by omega)];rfl)|(rw [if_neg (by omega),if_neg (by omega)];rfl)
theorem Aqc (n:Int):-1≤sgn n∧sgn n≤1:=by unfold sgn;repeat' split;all_goals omega
theorem cmp0 {n d:Int}:D8 (Dx tab) 170 [.agg [.int .i64 n,.int .i64 d],.agg [.int .i64 n,.int .i64 d]] (· =.int .i64 0):=by
  obtain⟨_,⟨b,rfl,hb⟩,hP⟩:=(AAg (n:=n) (d:=d)).det
  have hs0:=Aqc n
  have hs1:=Aqc 0
  cases b with
  | true=>
    obtain⟨d1,d2,n1,n2⟩:=hb rfl
    obtain⟨_,⟨z,rfl,z0,z1⟩,hz⟩:=(size (n:=n) (by omega) (by omega)).det
    obtain⟨_,⟨nn,l,rfl,hl⟩,ht⟩:=(times (a:=z) (b:=d) (by omega) (by omega)).det
    refine Lu rfl rfl ?_
    (conv=>whnf);repeat' (first|((with_reducible first|apply kN|apply kW|apply kX|apply kG|apply kQ);(· exact sd);conv=>whnf)|(refine DW.mk ?_ ?_<;>intro hc<;>(try rw[List.length_nil]at hc)<;>first|(exfalso;omega)|(exact absurd rfl hc)|conv=>whnf)|(refine BM hP ?_;rintro _ rfl;conv=>whnf)|(refine BM (sign (n:=n)) ?_;rintro _ rfl;conv=>whnf)|(refine BM hz ?_;rintro _ rfl;conv=>whnf)|(refine BM ht ?_;rintro _ rfl;conv=>whnf)|(refine BM (ARK (an:=sgn n) hl) ?_;rintro _ ⟨n2,l2,rfl⟩;conv=>whnf)|(refine CB ?_ ?_<;>intro hc<;>conv=>whnf))
    all_goals rfl
  | false=>
    obtain⟨_,⟨z,rfl,z0,z1⟩,hz⟩:=(size (n:=0) (by omega) (by omega)).det
    obtain⟨_,⟨nn,l,rfl,hl⟩,ht⟩:=(times (a:=z) (b:=1) (by omega) (by omega)).det
    refine Lu rfl rfl ?_
    (conv=>whnf);repeat' (first|((with_reducible first|apply kN|apply kW|apply kX|apply kG|apply kQ);(· exact sd);conv=>whnf)|(refine DW.mk ?_ ?_<;>intro hc<;>(try rw[List.length_nil]at hc)<;>first|(exfalso;omega)|(exact absurd rfl hc)|conv=>whnf)|(refine BM hP ?_;rintro _ rfl;conv=>whnf)|(refine BM (sign (n:=0)) ?_;rintro _ rfl;conv=>whnf)|(refine BM hz ?_;rintro _ rfl;conv=>whnf)|(refine BM ht ?_;rintro _ rfl;conv=>whnf)|(refine BM (ARK (an:=sgn 0) hl) ?_;rintro _ ⟨n2,l2,rfl⟩;conv=>whnf)|(refine CB ?_ ?_<;>intro hc<;>conv=>whnf))
    all_goals rfl
def val:List Int→Int
  |[]=>0
  |x::l=>x+1000*val l
def pw:Nat→Int
  |0=>1
  |k+1=>1000*pw k
theorem AyE:∀{l:List Int} {k:Nat} {y:Int} (h:k<l.length),val (l.set k y)=val l+(y-l[k])*pw k
  |[],k,y,h=>by simp at h
  | x::l,0,y,h=>by
    show y+1000*val l=x+1000*val l+(y-x)*1
    omega
  | x::l,k+1,y,h=>by
    have h':k<l.length:=by simpa using h
    have ih:=AyE (l:=l) (k:=k) (y:=y) h'
    show x+1000*val (l.set k y)=x+1000*val l+(y-l[k])*(1000*pw k)
    rw[ih,←Int.mul_assoc,Int.mul_comm (y-l[k]) 1000,Int.mul_assoc]
    omega
theorem val_inj:∀{a b:List Int},a.length=b.length→(∀ x∈a,0≤x∧x≤999)→(∀ x∈b,0≤x∧x≤999)→val a=val b→a=b
  |[],[],_,_,_,_=>rfl
  |[],y::b,h,_,_,_=>by simp at h
  |x::a,[],h,_,_,_=>by simp at h
  | x::a,y::b,h,ha,hb,e=>by
    have h1:=ha x (List.mem_cons_self ..)
    have h2:=hb y (List.mem_cons_self ..)
    have e':x+1000*val a=y+1000*val b:=e
    obtain rfl:x=y:=by omega
    rw[val_inj (by simpa using h) (fun z hz=>ha z (List.mem_cons_of_mem _ hz)) (fun z hz=>hb z (List.mem_cons_of_mem _ hz)) (by omega)]
theorem AUC {a b:List Int} (ha:Dig a) (hb:Dig b) (e:val a=val b):a=b:=val_inj (ha.1.trans hb.1.symm) ha.2 hb.2 e
theorem val_zero:∀n,val (List.replicate n 0)=0
  |0=>rfl
  | n+1=>by
    show 0+1000*val (List.replicate n 0)=0
    rw[val_zero n];rfl
theorem row_step {v x y dd c r y1 c1 m p:Int} (h1:r+1000*y1=y+x+dd*m) (h2:c=1000*c1+m):v+(r-x)*p+y1*(1000*p)+dd*c1*(1000*p)=v+y*p+dd*c*p:=by
  have e1:y1*(1000*p)=(1000*y1)*p:=by rw[← Int.mul_assoc,Int.mul_comm y1 1000]
  have e2:dd*c1*(1000*p)=(1000*(dd*c1))*p:=by rw[← Int.mul_assoc,Int.mul_comm (dd*c1) 1000]
  have e3:dd*c=1000*(dd*c1)+dd*m:=by rw[h2,Int.mul_add,←Int.mul_assoc,Int.mul_comm dd 1000,Int.mul_assoc]
  rw[e1,e2,e3]
  have e4:v+(r-x)*p+1000*y1*p+1000*(dd*c1)*p=v+((r-x)+1000*y1+1000*(dd*c1))*p:=by rw[Int.add_mul,Int.add_mul];omega
  have e5:v+y*p+(1000*(dd*c1)+dd*m)*p=v+(y+(1000*(dd*c1)+dd*m))*p:=by rw[Int.add_mul y];omega
  rw[e4,e5,show(r-x)+1000*y1+1000*(dd*c1)=y+(1000*(dd*c1)+dd*m) by omega]
theorem AA0 {v a b p m a1 v1:Int} (h:a=1000*a1+m) (hv:v1=v+m*b*p):v1+a1*b*(1000*p)=v+a*b*p:=by
  have e1:a1*b*(1000*p)=(1000*a1)*b*p:=by rw[← Int.mul_assoc,Int.mul_comm (a1*b) 1000,←Int.mul_assoc 1000 a1 b]
  rw[hv,e1,h,Int.add_mul,Int.add_mul]
  omega
theorem AEg {i:Nat} {dd:Int} {A:Int} {l0:List Int} {Q:Je→Env→Sto→Prop} (hi:i≤5) (hl:Dig l0) (hz:∀q (h:q<l0.length),i+7≤q→l0[q]=0) (hd:0≤dd∧dd≤999) {B C:Int} (hB:0≤C∧C≤1000000000000000)
    (hQ:∀(l':List Int) (c k y:Int),Dig l'→(∀ q (h:q<l'.length),i+8≤q→l'[q]=0)→val l'=val l0+dd*C*pw i→Q (.exit 2) [(0,.int .i64 A),(1,.int .i64 B),(5,.own 0 0 0 14),(6,.int .i64 i),(7,.int .i64 dd),(8,.int .i64 c),(9,.int .i64 y),(10,.int .i64 k),(27,.bool false)] ⟨[.arr 0 1 true true (ints l')],1⟩):
    Run (Dx tab) (.loop l234_0_h l234_0_b) [(0,.int .i64 A),(1,.int .i64 B),(5,.own 0 0 0 14),(6,.int .i64 i),(7,.int .i64 dd),(8,.int .i64 C),(9,.int .i64 0),(10,.int .i64 i)] ⟨[.arr 0 1 true true (ints l0)],1⟩ Q:=by
  obtain⟨V,hV⟩:∃V,val l0+dd*C*pw i=V:=⟨_,rfl⟩
  rw[hV]at hQ
  refine DK (fun m env s=>∃(j k:Nat) (c y:Int) (l:List Int),m=8-j∧k=i+j∧Left j c∧Carry j y∧Dig l∧(∀ q (h:q<l.length),i+7≤q→k≤q→l[q]=0)∧val l+y*pw k+dd*c*pw k=V∧
    env=[(0,.int .i64 A),(1,.int .i64 B),(5,.own 0 0 0 14),(6,.int .i64 i),(7,.int .i64 dd),(8,.int .i64 c),(9,.int .i64 y),(10,.int .i64 k)]∧s=⟨[.arr 0 1 true true (ints l)],1⟩) ?_ _ _ _ ⟨0,i,C,0,l0,rfl,rfl,by unfold Left;omega,by unfold Carry;omega,hl,fun q h h1 h2=>hz q h h1,by rw[Int.zero_mul];omega,rfl,rfl⟩
  clear hl hz hB hV
  rintro _ _ _ ⟨j,k,c,y,l,rfl,hk,hc0,hy,hl,hz,hv,rfl,rfl⟩
  refine⟨rfl,?_⟩
  have hll:=hl.1
  have hj7:0<c∨0<y→j≤7:=by unfold Left Carry at *;omega
  have hk8:k≤i+8:=by unfold Carry at hy;omega
  have c0:=hc0.1
  have y0:=hy.1
  have c1:c<1000000000000000000:=by unfold Left at hc0;omega
  have y1:y≤999:=by unfold Carry at hy;omega
  have e2:=tdE c0
  obtain⟨m0,m1,m2⟩:∃m,dd*c.tmod 1000=m∧0≤m∧m≤998001:=⟨_,rfl,by have:=tmE c0;exact Anq hd.1 hd.2 (by omega) (by omega)⟩
  obtain⟨x,hx⟩:∃x:Int,∀h:k<l.length,l[k]=x∧0≤x∧x≤999∧(j=7→x=0):=by
    by_cases h:k<l.length
    · exact⟨l[k],fun _=>⟨rfl,(hl.2 _ (List.getElem_mem h)).1,(hl.2 _ (List.getElem_mem h)).2,fun h7=>hz k h (by omega) (by omega)⟩⟩
    · exact⟨0,fun h'=>absurd h' h⟩
  have hkl:0<c∨0<y→k<l.length:=by intro h;have:=hj7 h;omega
  have hq:∀h:k<l.length,(y+x+dd*c.tmod 1000).tdiv 1000=(y+x+dd*c.tmod 1000) / 1000∧0≤y+x+dd*c.tmod 1000∧y+x+dd*c.tmod 1000≤2000000:=by
    intro h
    have h1:=hx h
    have h2:0≤y+x+dd*c.tmod 1000:=by omega
    exact⟨tdE h2,h2,by omega⟩
  clear hj7
  by_cases hstop:0<c∨0<y
  · have hk1:=hkl hstop
    obtain⟨q1,q2,q3⟩:=hq hk1
    obtain⟨x0,x1,x2,x3⟩:=hx hk1
    have hv2:val (l.set k ((y+x+dd*c.tmod 1000).tmod 1000))+(y+x+dd*c.tmod 1000).tdiv 1000*pw (k+1)+dd*c.tdiv 1000*pw (k+1)=V:=by
      have e3:=tmE q2
      have e4:=tmE c0
      rw[AyE hk1,←hv,x0]
      exact row_step (m:=c.tmod 1000) (by omega) (by omega)
    have fin:∀k',k'=(k:Int)+1→again (fun m env s=>∃(j k:Nat) (c y:Int) (l:List Int),m=8-j∧k=i+j∧Left j c∧Carry j y∧Dig l∧(∀ q (h:q<l.length),i+7≤q→k≤q→l[q]=0)∧val l+y*pw k+dd*c*pw k=V∧
        env=[(0,.int .i64 A),(1,.int .i64 B),(5,.own 0 0 0 14),(6,.int .i64 i),(7,.int .i64 dd),(8,.int .i64 c),(9,.int .i64 y),(10,.int .i64 k)]∧s=⟨[.arr 0 1 true true (ints l)],1⟩) (8-j)
        [(0,.int .i64 A),(1,.int .i64 B),(5,.own 0 0 0 14),(6,.int .i64 i),(7,.int .i64 dd),(8,.int .i64 (c.tdiv 1000)),(9,.int .i64 ((y+x+dd*c.tmod 1000).tdiv 1000)),(10,.int .i64 k')] ⟨[.arr 0 1 true true (ints (l.set k ((y+x+dd*c.tmod 1000).tmod 1000)))],1⟩:=by
      intro k' hk'
      have e3:=tmE q2
      refine again.mk ⟨_,?_,j+1,k+1,_,_,_,rfl,by omega,Ajt hc0,Aqg hc0 hy hstop ⟨x1,x2,x3⟩ hd,hl.set (by rw[e3];omega),fun q h h1 h2=>?_,hv2,by rw[hk'];rfl,rfl⟩
      · have:j≤7:=by unfold Left Carry at *;omega
        omega
      · rw[List.length_set]at h
        rw[List.getElem_set_ne (by omega)]
        exact hz q h h1 (by omega)
    clear hx hq hkl hz hl hc0 hy m2 hv hv2
    (conv=>whnf);repeat' (first|((with_reducible first|apply kN|apply kW|apply kX|apply kG|apply kQ);(· exact sd);conv=>whnf)|(refine DW.mk ?_ ?_<;>intro hc<;>(try rw[List.length_nil]at hc)<;>first|(exfalso;omega)|(exact absurd rfl hc)|conv=>whnf)|(rw [x0];conv=>whnf)|(refine CB ?_ ?_<;>intro hc<;>conv=>whnf))
    all_goals exact fin _ rfl
  · clear hx hq hkl
    have hv2:val l=V:=by
      obtain rfl:c=0:=by omega
      obtain rfl:y=0:=by omega
      rw[Int.mul_zero,Int.zero_mul]at hv
      omega
    clear hv
    (conv=>whnf);repeat' (first|((with_reducible first|apply kN|apply kW|apply kX|apply kG|apply kQ);(· exact sd);conv=>whnf)|(refine DW.mk ?_ ?_<;>intro hc<;>(try rw[List.length_nil]at hc)<;>first|(exfalso;omega)|(exact absurd rfl hc)|conv=>whnf)  |(refine CB ?_ ?_<;>intro hc<;>conv=>whnf))
    exact hQ l _ _ _ hl (fun q h h1=>hz q h (by omega) (by omega)) hv2
theorem AAL {a b:Int} (ha:0≤a∧a≤1000000000000000) (hb:0≤b∧b≤1000000000000000):D8 (Dx tab) 234 [.int .i64 a,.int .i64 b] (fun v=>∃l,v=isl true l∧Dig l∧val l=a*b):=by
  obtain⟨V,hV⟩:∃V,a*b=V:=⟨_,rfl⟩
  rw[hV]
  refine Lu rfl rfl ?_
  (conv=>whnf);repeat' (first|((with_reducible first|apply kN|apply kW|apply kX|apply kG|apply kQ);(· exact sd);conv=>whnf)|(refine DW.mk ?_ ?_<;>intro hc<;>(try rw[List.length_nil]at hc)<;>first|(exfalso;omega)|(exact absurd rfl hc)|conv=>whnf)  |(refine CB ?_ ?_<;>intro hc<;>conv=>whnf))
  refine DK (fun m env s=>∃(i:Nat) (a:Int) (l:List Int),m=7-i∧i≤6∧Left i a∧Dig l∧(∀ q (h:q<l.length),i+7≤q→l[q]=0)∧val l+a*b*pw i=V∧env=[(0,.int .i64 a),(1,.int .i64 b),(5,.own 0 0 0 14),(6,.int .i64 i)]∧s=⟨[.arr 0 1 true true (ints l)],1⟩) ?_ _ _ _ ⟨0,a,List.replicate 14 0,rfl,by omega,by unfold Left;omega,⟨by simp,by intro x hx;have:=List.eq_of_mem_replicate hx;omega⟩,fun q h _=>List.getElem_replicate _,by rw[val_zero];show 0+a*b*1=V;omega,rfl,rfl⟩
  clear ha hV a
  rintro _ _ _ ⟨i,a,l,rfl,hi,hL,hl,hz,hv,rfl,rfl⟩
  refine⟨rfl,?_⟩
  have a0:=hL.1
  have e1:=tmE a0
  have e2:=tdE a0
  have a1:a<1000000000000000000:=by unfold Left at hL;omega
  have hst:∀v1,v1=val l+a.tmod 1000*b*pw i→v1+a.tdiv 1000*b*pw (i+1)=V:=fun v1 h=>by
    rw[← hv]
    exact AA0 (by omega) h
  have hend:¬0<a→val l=V:=fun h=>by
    obtain rfl:a=0:=by omega
    rw[Int.zero_mul,Int.zero_mul]at hv
    omega
  clear hv
  (conv=>whnf);repeat' (first|((with_reducible first|apply kN|apply kW|apply kX|apply kG|apply kQ);(· exact sd);conv=>whnf)|(refine DW.mk ?_ ?_<;>intro hc<;>(try rw[List.length_nil]at hc)<;>first|(exfalso;omega)|(exact absurd rfl hc)|conv=>whnf)  |(refine CB ?_ ?_<;>intro hc<;>conv=>whnf))
  · have hi5:i≤5:=by unfold Left at hL;omega
    refine AEg (dd:=a.tmod 1000) hi5 hl hz (by omega) hb ?_
    intro l' c k y hl' hz' hv'
    have hv':=hst _ hv'
    (conv=>whnf);repeat' (first|((with_reducible first|apply kN|apply kW|apply kX|apply kG|apply kQ);(· exact sd);conv=>whnf)|(refine DW.mk ?_ ?_<;>intro hc<;>(try rw[List.length_nil]at hc)<;>first|(exfalso;omega)|(exact absurd rfl hc)|conv=>whnf)  |(refine CB ?_ ?_<;>intro hc<;>conv=>whnf))
    exact again.mk ⟨_,by omega,i+1,_,l',rfl,by omega,Ajt hL,hl',hz',hv',rfl,rfl⟩
  · refine need.mk ⟨rfl,by rw[lI,hl.1];omega⟩ (KJ (b:=ints l) ?_ ⟨l,rfl,hl,hend (by assumption)⟩)
    have:=@uI l
    rw[hl.1]at this
    exact this
theorem AxO:∀{l:List Int},(∀ x∈l,0≤x∧x≤999)→0≤val l
  |[],_=>Int.le_refl 0
  | x::l,h=>by
    have h1:=h x (List.mem_cons_self ..)
    have h2:=AxO (l:=l) fun y hy=>h y (List.mem_cons_of_mem _ hy)
    show 0≤x+1000*val l
    omega
theorem AxP:∀{a b:List Int} {k:Nat} (h:k<a.length) (h':k<b.length),(∀ x∈a,0≤x∧x≤999)→(∀ x∈b,0≤x∧x≤999)→a.drop (k+1)=b.drop (k+1)→a[k]<b[k]→val a<val b
  |[],_,_,h,_,_,_,_,_=>by simp at h
  |_::_,[],_,_,h,_,_,_,_=>by simp at h
  | x::a,y::b,0,h,h',ha,hb,e,hlt=>by
    have h1:=ha x (List.mem_cons_self ..)
    have h2:=hb y (List.mem_cons_self ..)
    simp only[List.drop_succ_cons,List.drop_zero,List.getElem_cons_zero]at e hlt
    subst e
    show x+1000*val a<y+1000*val a
    omega
  | x::a,y::b,k+1,h,h',ha,hb,e,hlt=>by
    have h1:=ha x (List.mem_cons_self ..)
    have h2:=hb y (List.mem_cons_self ..)
    simp only[List.drop_succ_cons,List.getElem_cons_succ]at e hlt
    have:=AxP (a:=a) (b:=b) (k:=k) (by simpa using h) (by simpa using h') (fun z hz=>ha z (List.mem_cons_of_mem _ hz)) (fun z hz=>hb z (List.mem_cons_of_mem _ hz)) e hlt
    show x+1000*val a<y+1000*val b
    omega
theorem Ayx {n:Int} (h:n<0):sgn n=-1:=if_pos h
theorem Ayy {n:Int} (h:0<n):sgn n=1:=by unfold sgn;rw[if_neg (by omega),if_pos h]
theorem ARP:sgn 0=0:=rfl
theorem ANr {x y:List Int} (hx:Dig x) (hy:Dig y):D8 (Dx tab) 270 [isl true x,isl true y] (· =.int .i64 (sgn (val x-val y))):=by
  have hxl:=hx.1
  have hyl:=hy.1
  refine Lu rfl rfl ?_
  (conv=>whnf);repeat' (first|((with_reducible first|apply kN|apply kW|apply kX|apply kG|apply kQ);(· exact sd);conv=>whnf)|(refine DW.mk ?_ ?_<;>intro hc<;>(try rw[List.length_nil]at hc)<;>first|(exfalso;omega)|(exact absurd rfl hc)|conv=>whnf)  |(refine CB ?_ ?_<;>intro hc<;>conv=>whnf))
  refine DK (fun m env s=>∃(k:Nat) (z:Int),m=k∧z=(k:Int)-1∧k≤14∧x.drop k=y.drop k∧env=[(0,isl true x),(1,isl true y),(5,.int .i64 z)]∧s=⟨[],0⟩) ?_ _ _ _ ⟨14,_,rfl,?_,by omega,by rw[List.drop_eq_nil_of_le (by omega),List.drop_eq_nil_of_le (by omega)],rfl,rfl⟩
  rotate_left
  · omega
  rintro k _ _ ⟨_,z,rfl,hz,hk,hd,rfl,rfl⟩
  refine⟨rfl,?_⟩
  cases k with
  | zero=>
    obtain rfl:x=y:=by simpa using hd
    (conv=>whnf);repeat' (first|((with_reducible first|apply kN|apply kW|apply kX|apply kG|apply kQ);(· exact sd);conv=>whnf)|(refine DW.mk ?_ ?_<;>intro hc<;>(try rw[List.length_nil]at hc)<;>first|(exfalso;omega)|(exact absurd rfl hc)|conv=>whnf)  |(refine CB ?_ ?_<;>intro hc<;>conv=>whnf))
    rw[Int.sub_self];rfl
  | succ k=>
    obtain rfl:z=(k:Nat):=by omega
    have h1:x[k]'(by omega)<y[k]'(by omega)→AV.int .i64 (-1)=.int .i64 (sgn (val x-val y)):=fun h=>by
      rw[Ayx (by have:=AxP (by omega) (by omega) hx.2 hy.2 hd h;omega)]
    have h2:y[k]'(by omega)<x[k]'(by omega)→AV.int .i64 1=.int .i64 (sgn (val x-val y)):=fun h=>by
      rw[Ayy (by have:=AxP (by omega) (by omega) hy.2 hx.2 hd.symm h;omega)]
    (conv=>whnf);repeat' (first|((with_reducible first|apply kN|apply kW|apply kX|apply kG|apply kQ);(· exact sd);conv=>whnf)|(refine DW.mk ?_ ?_<;>intro hc<;>(try rw[List.length_nil]at hc)<;>first|(exfalso;omega)|(exact absurd rfl hc)|conv=>whnf)  |(refine CB ?_ ?_<;>intro hc<;>conv=>whnf))
    · exact h1 (by assumption)
    · exact h2 (by assumption)
    · refine again.mk ⟨_,by omega,k,_,rfl,rfl,by omega,?_,rfl,rfl⟩
      rw[List.drop_eq_getElem_cons (by omega),List.drop_eq_getElem_cons (l:=y) (by omega),hd,show x[k]'(by omega)=y[k]'(by omega) by omega]
theorem AA3 {x y:List Int} (hx:Dig x) (hy:Dig y):D8 (Dx tab) 271 [isl true x,isl true y] (fun v=>∃nn l,v=isl nn l):=by
  have hxl:=hx.1
  have hyl:=hy.1
  refine Lu rfl rfl ?_
  (conv=>whnf);repeat' (first|((with_reducible first|apply kN|apply kW|apply kX|apply kG|apply kQ);(· exact sd);conv=>whnf)|(refine DW.mk ?_ ?_<;>intro hc<;>(try rw[List.length_nil]at hc)<;>first|(exfalso;omega)|(exact absurd rfl hc)|conv=>whnf)  |(refine CB ?_ ?_<;>intro hc<;>conv=>whnf))
  refine DK (fun m env s=>∃(k:Nat) (c:Int) (l:List Int),m=14-k∧-1≤c∧c≤0∧l.length=14∧env=[(0,isl true x),(1,isl true y),(5,.own 0 0 0 (Int.toNat (Nat.cast x.length))),(6,.int .i64 c),(7,.int .i64 k)]∧s=⟨[.arr 0 1 true true (ints l)],1⟩) ?_ _ _ _ ⟨0,0,List.replicate x.length 0,rfl,by omega,by omega,by simp[hxl],rfl,rfl⟩
  rintro _ _ _ ⟨k,c,l,rfl,c0,c1,hl,rfl,rfl⟩
  refine⟨rfl,?_⟩
  have bx:∀h:k<x.length,0≤x[k]∧x[k]≤999:=fun h=>hx.2 _ (List.getElem_mem h)
  have bY:∀h:k<y.length,0≤y[k]∧y[k]≤999:=fun h=>hy.2 _ (List.getElem_mem h)
  have hq:∀(h:k<x.length) (h2:k<y.length),0≤x[k]∧x[k]≤999∧0≤y[k]∧y[k]≤999:=fun h h2=>⟨(bx h).1,(bx h).2,(bY h2).1,(bY h2).2⟩
  (conv=>whnf);repeat' (first|((with_reducible first|apply kN|apply kW|apply kX|apply kG|apply kQ);(· exact sd);conv=>whnf)|(refine DW.mk ?_ ?_<;>intro hc<;>(try rw[List.length_nil]at hc)<;>first|(exfalso;omega)|(exact absurd rfl hc)|conv=>whnf)|(have hwr:=hq (by omega) (by omega);apply ZH;(· exact wrap_i64 (by omega) (by omega));clear hwr;conv=>whnf)|(refine CB ?_ ?_<;>intro hc<;>conv=>whnf))
  · exact again.mk ⟨_,by omega,k+1,_,_,rfl,by omega,by omega,by rw[List.length_set];exact hl,rfl,rfl⟩
  · exact again.mk ⟨_,by omega,k+1,_,_,rfl,by omega,by omega,by rw[List.length_set];exact hl,rfl,rfl⟩
  · refine⟨true,l,?_⟩
    rw[hxl]
    have:=@uI l
    rw[hl]at this
    exact congrArg (AV.sl true) this
def Aig (an:Int) (x:Int) (bn:Int) (y:Int):Int:=if an=bn∨bn=0 then an else if an=0 then bn else if x=y then 0 else if y<x then an else bn
theorem AV2 {an bn:Int} {x y:List Int} (hx:Dig x) (hy:Dig y):D8 (Dx tab) 232 [.int .i64 an,isl true x,.int .i64 bn,isl true y] (fun v=>∃n2 l2,v=.tup [.int .i64 (Aig an (val x) bn (val y)),isl n2 l2]):=by
  have key:∀k:Int,k=Aig an (val x) bn (val y)→∀n2 l2,∃n3 l3,AV.tup [.int .i64 k,isl n2 l2]=.tup [.int .i64 (Aig an (val x) bn (val y)),isl n3 l3]:=fun k h n2 l2=>⟨n2,l2,by rw[h]⟩
  obtain⟨z,hz⟩:∃z,sgn (val x-val y)=z:=⟨_,rfl⟩
  have ho:=ANr hx hy
  rw[hz]at ho
  have z1:z=0→val x=val y:=fun h=>by subst h;unfold sgn at hz;split at hz<;>(try split at hz)<;>omega
  have z2:0<z→val y<val x:=fun h=>by subst hz;unfold sgn at h;split at h<;>(try split at h)<;>omega
  have z3:z≠0→¬0<z→val x<val y:=fun h h'=>by subst hz;unfold sgn at h h';split at h<;>(try split at h)<;>simp_all<;>omega
  by_cases h1:an=bn
  · have e:an=Aig an (val x) bn (val y):=by unfold Aig;rw[if_pos (.inl h1)]
    refine Lu rfl rfl ?_
    (conv=>whnf);repeat' (first|((with_reducible first|apply kN|apply kW|apply kX|apply kG|apply kQ);(· exact sd);conv=>whnf)|(refine DW.mk ?_ ?_<;>intro hc<;>(try rw[List.length_nil]at hc)<;>first|(exfalso;omega)|(exact absurd rfl hc)|conv=>whnf)|(refine BM (plus hx hy) ?_;rintro _ ⟨nn,l,rfl⟩;conv=>whnf)|(refine CB ?_ ?_<;>intro hc<;>conv=>whnf))
    all_goals first | exact key _ e _ _ | (trace_state; fail "sumA")
  by_cases h2:bn=0
  · have e:an=Aig an (val x) bn (val y):=by unfold Aig;rw[if_pos (.inr h2)]
    refine Lu rfl rfl ?_
    (conv=>whnf);repeat' (first|((with_reducible first|apply kN|apply kW|apply kX|apply kG|apply kQ);(· exact sd);conv=>whnf)|(refine DW.mk ?_ ?_<;>intro hc<;>(try rw[List.length_nil]at hc)<;>first|(exfalso;omega)|(exact absurd rfl hc)|conv=>whnf)|(refine BM (plus hx hy) ?_;rintro _ ⟨nn,l,rfl⟩;conv=>whnf)|(refine CB ?_ ?_<;>intro hc<;>conv=>whnf))
    all_goals first | exact key _ e _ _ | (trace_state; fail "sumB")
  by_cases h3:an=0
  · have e:bn=Aig an (val x) bn (val y):=by unfold Aig;rw[if_neg (by omega),if_pos h3]
    refine Lu rfl rfl ?_
    (conv=>whnf);repeat' (first|((with_reducible first|apply kN|apply kW|apply kX|apply kG|apply kQ);(· exact sd);conv=>whnf)|(refine DW.mk ?_ ?_<;>intro hc<;>(try rw[List.length_nil]at hc)<;>first|(exfalso;omega)|(exact absurd rfl hc)|conv=>whnf)  |(refine CB ?_ ?_<;>intro hc<;>conv=>whnf))
    all_goals first | exact key _ e _ _ | (trace_state; fail "sumC")
  by_cases h4:z=0
  · have e:0=Aig an (val x) bn (val y):=by unfold Aig;rw[if_neg (by omega),if_neg h3,if_pos (z1 h4)]
    refine Lu rfl rfl ?_
    (conv=>whnf);repeat' (first|((with_reducible first|apply kN|apply kW|apply kX|apply kG|apply kQ);(· exact sd);conv=>whnf)|(refine DW.mk ?_ ?_<;>intro hc<;>(try rw[List.length_nil]at hc)<;>first|(exfalso;omega)|(exact absurd rfl hc)|conv=>whnf)|(refine BM ho ?_;rintro _ rfl;conv=>whnf)|(refine CB ?_ ?_<;>intro hc<;>conv=>whnf))
    refine H6.mono (K:=fun out s'=>∃l:List Int,out=.ok (.own 2 4 0 14)∧s'=⟨[.arr 0 1 true true (ints (List.replicate 14 0)),.arr 1 1 true true (ints (List.replicate 14 0)),.arr 4 1 true true (ints l)],5⟩∧l.length=14) (AHr (c0:=4) AEf AEf) ?_
    rintro _ _ ⟨l2,rfl,rfl,hl2⟩
    (conv=>whnf);repeat' (first|((with_reducible first|apply kN|apply kW|apply kX|apply kG|apply kQ);(· exact sd);conv=>whnf)|(refine DW.mk ?_ ?_<;>intro hc<;>(try rw[List.length_nil]at hc)<;>first|(exfalso;omega)|(exact absurd rfl hc)|conv=>whnf)  |(refine CB ?_ ?_<;>intro hc<;>conv=>whnf))
    obtain⟨n3,l3,h⟩:=key 0 e true l2
    refine⟨n3,l3,?_⟩
    rw[← h]
    have:=@uI l2
    rw[hl2]at this
    exact congrArg (fun q=>AV.tup [.int .i64 0,.sl true q]) this
  by_cases h5:0<z
  · have e:an=Aig an (val x) bn (val y):=by
      have:=z2 h5
      unfold Aig;rw[if_neg (by omega),if_neg h3,if_neg (by omega),if_pos this]
    refine Lu rfl rfl ?_
    (conv=>whnf);repeat' (first|((with_reducible first|apply kN|apply kW|apply kX|apply kG|apply kQ);(· exact sd);conv=>whnf)|(refine DW.mk ?_ ?_<;>intro hc<;>(try rw[List.length_nil]at hc)<;>first|(exfalso;omega)|(exact absurd rfl hc)|conv=>whnf)|(refine BM ho ?_;rintro _ rfl;conv=>whnf)|(refine BM (AA3 hx hy) ?_;rintro _ ⟨nn,l,rfl⟩;conv=>whnf)|(refine CB ?_ ?_<;>intro hc<;>conv=>whnf))
    all_goals first | exact key _ e _ _ | (trace_state; fail "sumD")
  · have e:bn=Aig an (val x) bn (val y):=by
      have:=z3 h4 h5
      unfold Aig;rw[if_neg (by omega),if_neg h3,if_neg (by omega),if_neg (by omega)]
    refine Lu rfl rfl ?_
    (conv=>whnf);repeat' (first|((with_reducible first|apply kN|apply kW|apply kX|apply kG|apply kQ);(· exact sd);conv=>whnf)|(refine DW.mk ?_ ?_<;>intro hc<;>(try rw[List.length_nil]at hc)<;>first|(exfalso;omega)|(exact absurd rfl hc)|conv=>whnf)|(refine BM ho ?_;rintro _ rfl;conv=>whnf)|(refine BM (AA3 hy hx) ?_;rintro _ ⟨nn,l,rfl⟩;conv=>whnf)|(refine CB ?_ ?_<;>intro hc<;>conv=>whnf))
    all_goals first | exact key _ e _ _ | (trace_state; fail "sumE")
end AI
end Go.Proofs.YtnbibfalljlmfaaGreatDoor
