/- The reference's comparison of a fraction with itself. -/
import Derived.Test.YtnbibfalljlmfaaGreatDoorGlT
import Derived.Test.YtnbibfalljlmfaaGreatDoorGlB2
set_option linter.unusedVariables false
set_option maxRecDepth 4000
namespace Go.Proofs.YtnbibfalljlmfaaGreatDoor
namespace AI
theorem times {a b:Int} (ha:0≤a∧a≤1000000000000000) (hb:0≤b∧b≤1000000000000000):D8 (Dx tab) 234 [.int .i64 a,.int .i64 b] (fun v=>∃nn l,v=isl nn l∧Dig l):=by
  refine Lu rfl rfl ?_
  (conv=>whnf);repeat' (first|((with_reducible first|apply kN|apply kW|apply kX|apply kG|apply kQ);(· exact sd);conv=>whnf)|(refine DW.mk ?_ ?_<;>intro hc<;>(try rw[List.length_nil]at hc)<;>first|(exfalso;omega)|(exact absurd rfl hc)|conv=>whnf)  |(refine CB ?_ ?_<;>intro hc<;>conv=>whnf))
  refine DK (fun m env s=>∃(i:Nat) (a:Int) (l:List Int),m=7-i∧i≤6∧Left i a∧Dig l∧(∀ q (h:q<l.length),i+7≤q→l[q]=0)∧env=[(0,.int .i64 a),(1,.int .i64 b),(5,.own 0 0 0 14),(6,.int .i64 i)]∧s=⟨[.arr 0 1 true true (ints l)],1⟩) ?_ _ _ _ ⟨0,a,List.replicate 14 0,rfl,by omega,by unfold Left;omega,⟨by simp,by intro x hx;have:=List.eq_of_mem_replicate hx;omega⟩,fun q h _=>List.getElem_replicate _,rfl,rfl⟩
  clear ha a
  rintro _ _ _ ⟨i,a,l,rfl,hi,hL,hl,hz,rfl,rfl⟩
  refine⟨rfl,?_⟩
  have a0:=hL.1
  have e1:=tmE a0
  have e2:=tdE a0
  have a1:a<1000000000000000000:=by unfold Left at hL;omega
  (conv=>whnf);repeat' (first|((with_reducible first|apply kN|apply kW|apply kX|apply kG|apply kQ);(· exact sd);conv=>whnf)|(refine DW.mk ?_ ?_<;>intro hc<;>(try rw[List.length_nil]at hc)<;>first|(exfalso;omega)|(exact absurd rfl hc)|conv=>whnf)  |(refine CB ?_ ?_<;>intro hc<;>conv=>whnf))
  · have hi5:i≤5:=by unfold Left at hL;omega
    refine ALt (dd:=a.tmod 1000) hi5 hl hz (by omega) hb ?_
    intro l' c k y hl' hz'
    (conv=>whnf);repeat' (first|((with_reducible first|apply kN|apply kW|apply kX|apply kG|apply kQ);(· exact sd);conv=>whnf)|(refine DW.mk ?_ ?_<;>intro hc<;>(try rw[List.length_nil]at hc)<;>first|(exfalso;omega)|(exact absurd rfl hc)|conv=>whnf)  |(refine CB ?_ ?_<;>intro hc<;>conv=>whnf))
    exact again.mk ⟨_,by omega,i+1,_,l',rfl,by omega,Ajt hL,hl',hz',rfl,rfl⟩
  · refine need.mk ⟨rfl,by rw[lI,hl.1];omega⟩ (KJ (b:=ints l) ?_ ⟨true,l,rfl,hl⟩)
    have:=@uI l
    rw[hl.1]at this
    exact this
theorem plus {x y:List Int} {na nb:Bool} (hx:Dig x) (hy:Dig y):D8 (Dx tab) 269 [isl na x,isl nb y] (fun v=>∃nn l,v=isl nn l):=by
  have hxl:=hx.1
  have hyl:=hy.1
  refine Lu rfl rfl ?_
  (conv=>whnf);repeat' (first|((with_reducible first|apply kN|apply kW|apply kX|apply kG|apply kQ);(· exact sd);conv=>whnf)|(refine DW.mk ?_ ?_<;>intro hc<;>(try rw[List.length_nil]at hc)<;>first|(exfalso;omega)|(exact absurd rfl hc)|conv=>whnf)  |(refine CB ?_ ?_<;>intro hc<;>conv=>whnf))
  refine DK (fun m env s=>∃(k:Nat) (c:Int) (l:List Int),m=14-k∧0≤c∧c≤1∧l.length=14∧env=[(0,isl na x),(1,isl nb y),(5,.own 0 0 0 (Int.toNat (Nat.cast x.length))),(6,.int .i64 c),(7,.int .i64 k)]∧s=⟨[.arr 0 1 true true (ints l)],1⟩) ?_ _ _ _ ⟨0,0,List.replicate x.length 0,rfl,by omega,by omega,by simp[hxl],rfl,rfl⟩
  rintro _ _ _ ⟨k,c,l,rfl,c0,c1,hl,rfl,rfl⟩
  refine⟨rfl,?_⟩
  have bx:∀h:k<x.length,0≤x[k]∧x[k]≤999:=fun h=>hx.2 _ (List.getElem_mem h)
  have bY:∀h:k<y.length,0≤y[k]∧y[k]≤999:=fun h=>hy.2 _ (List.getElem_mem h)
  have hq:∀(h:k<x.length) (h2:k<y.length),(c+x[k]+y[k]).tdiv 1000=(c+x[k]+y[k]) / 1000∧0≤x[k]∧x[k]≤999∧0≤y[k]∧y[k]≤999:=by
    intro h h2
    have:=bx h
    have:=bY h2
    exact⟨tdE (by omega),by omega⟩
  (conv=>whnf);repeat' (first|((with_reducible first|apply kN|apply kW|apply kX|apply kG|apply kQ);(· exact sd);conv=>whnf)|(refine DW.mk ?_ ?_<;>intro hc<;>(try rw[List.length_nil]at hc)<;>first|(exfalso;omega)|(exact absurd rfl hc)|conv=>whnf)|(have hwr:=hq (by omega) (by omega);apply ZH;(· exact wrap_i64 (by omega) (by omega));clear hwr;conv=>whnf)|(refine CB ?_ ?_<;>intro hc<;>conv=>whnf))
  · obtain⟨q1,q2⟩:=hq (by omega) (by omega)
    exact again.mk ⟨_,by omega,k+1,_,_,rfl,by omega,by omega,by rw[List.length_set];exact hl,rfl,rfl⟩
  · refine⟨true,l,?_⟩
    rw[hxl]
    have:=@uI l
    rw[hl]at this
    exact congrArg (AV.sl true) this
theorem AHr {c0:Nat} {x y:List Int} (hx:Dig x) (hy:Dig y):H6 (Dx tab) 269 [.own 0 0 0 14,.own 1 1 0 14] ⟨[.arr 0 1 true true (ints x),.arr 1 1 true true (ints y)],c0⟩ fun out s'=>∃l:List Int,out=.ok (.own 2 c0 0 14)∧s'=⟨[.arr 0 1 true true (ints x),.arr 1 1 true true (ints y),.arr c0 1 true true (ints l)],c0+1⟩∧l.length=14:=by
  have hxl:=hx.1
  have hyl:=hy.1
  refine FH rfl rfl ?_
  (conv=>whnf);repeat' (first|((with_reducible first|apply kN|apply kW|apply kX|apply kG|apply kQ);(· exact sd);conv=>whnf)|(refine DW.mk ?_ ?_<;>intro hc<;>(try rw[List.length_nil]at hc)<;>first|(exfalso;omega)|(exact absurd rfl hc)|conv=>whnf)  |(refine CB ?_ ?_<;>intro hc<;>conv=>whnf))
  refine DK (fun m env s=>∃(k:Nat) (c:Int) (l:List Int),m=14-k∧0≤c∧c≤1∧l.length=14∧env=[(0,.own 0 0 0 14),(1,.own 1 1 0 14),(5,.own 2 c0 0 14),(6,.int .i64 c),(7,.int .i64 k)]∧s=⟨[.arr 0 1 true true (ints x),.arr 1 1 true true (ints y),.arr c0 1 true true (ints l)],c0+1⟩) ?_ _ _ _ ⟨0,0,List.replicate 14 0,rfl,by omega,by omega,by simp,rfl,rfl⟩
  rintro _ _ _ ⟨k,c,l,rfl,c2,c1,hl,rfl,rfl⟩
  refine⟨rfl,?_⟩
  have bx:∀h:k<x.length,0≤x[k]∧x[k]≤999:=fun h=>hx.2 _ (List.getElem_mem h)
  have bY:∀h:k<y.length,0≤y[k]∧y[k]≤999:=fun h=>hy.2 _ (List.getElem_mem h)
  have hq:∀(h:k<x.length) (h2:k<y.length),(c+x[k]+y[k]).tdiv 1000=(c+x[k]+y[k]) / 1000∧0≤x[k]∧x[k]≤999∧0≤y[k]∧y[k]≤999:=by
    intro h h2
    have:=bx h
    have:=bY h2
    exact⟨tdE (by omega),by omega⟩
  (conv=>whnf);repeat' (first|((with_reducible first|apply kN|apply kW|apply kX|apply kG|apply kQ);(· exact sd);conv=>whnf)|(refine DW.mk ?_ ?_<;>intro hc<;>(try rw[List.length_nil]at hc)<;>first|(exfalso;omega)|(exact absurd rfl hc)|conv=>whnf)|(have hwr:=hq (by omega) (by omega);apply ZH;(· exact wrap_i64 (by omega) (by omega));clear hwr;conv=>whnf)|(refine CB ?_ ?_<;>intro hc<;>conv=>whnf))
  · obtain⟨q1,q2⟩:=hq (by omega) (by omega)
    exact again.mk ⟨_,by omega,k+1,_,_,rfl,by omega,by omega,by rw[List.length_set];exact hl,rfl,rfl⟩
  · exact⟨l,rfl,rfl,hl⟩
theorem AEf:Dig (List.replicate 14 0):=⟨by simp,by intro x hx;have:=List.eq_of_mem_replicate hx;omega⟩
theorem ANq {x:List Int} {na:Bool} (hx:Dig x):D8 (Dx tab) 270 [isl na x,isl na x] (· =.int .i64 0):=by
  have hxl:=hx.1
  refine Lu rfl rfl ?_
  (conv=>whnf);repeat' (first|((with_reducible first|apply kN|apply kW|apply kX|apply kG|apply kQ);(· exact sd);conv=>whnf)|(refine DW.mk ?_ ?_<;>intro hc<;>(try rw[List.length_nil]at hc)<;>first|(exfalso;omega)|(exact absurd rfl hc)|conv=>whnf)  |(refine CB ?_ ?_<;>intro hc<;>conv=>whnf))
  refine DK (fun m env s=>∃(k:Int),m=(k+1).toNat∧-1≤k∧k≤13∧env=[(0,isl na x),(1,isl na x),(5,.int .i64 k)]∧s=⟨[],0⟩) ?_ _ _ _ ⟨_,rfl,?_,?_,rfl,rfl⟩
  rotate_left
  · omega
  · omega
  rintro _ _ _ ⟨k,rfl,k0,k1,rfl,rfl⟩
  refine⟨rfl,?_⟩
  (conv=>whnf);repeat' (first|((with_reducible first|apply kN|apply kW|apply kX|apply kG|apply kQ);(· exact sd);conv=>whnf)|(refine DW.mk ?_ ?_<;>intro hc<;>(try rw[List.length_nil]at hc)<;>first|(exfalso;omega)|(exact absurd rfl hc)|conv=>whnf)  |(refine CB ?_ ?_<;>intro hc<;>conv=>whnf))
  · exact again.mk ⟨_,by omega,_,rfl,by omega,by omega,rfl,rfl⟩
  · rfl
theorem ARK {an:Int} {na:Bool} {l:List Int} (hl:Dig l):D8 (Dx tab) 232 [.int .i64 an,isl na l,.int .i64 (0-an),isl na l] (fun v=>∃n2 l2,v=.tup [.int .i64 0,isl n2 l2]):=by
  refine Lu rfl rfl ?_
  (conv=>whnf);repeat' (first|((with_reducible first|apply kN|apply kW|apply kX|apply kG|apply kQ);(· exact sd);conv=>whnf)|(refine DW.mk ?_ ?_<;>intro hc<;>(try rw[List.length_nil]at hc)<;>first|(exfalso;omega)|(exact absurd rfl hc)|conv=>whnf)|(refine BM (plus hl hl) ?_;rintro _ ⟨nn,l,rfl⟩;conv=>whnf)|(refine BM (ANq hl) ?_;rintro _ rfl;conv=>whnf)|(refine CB ?_ ?_<;>intro hc<;>conv=>whnf))
  · exact⟨_,_,by rw[show an=0 by omega];rfl⟩
  · refine H6.mono (K:=fun out s'=>∃l:List Int,out=.ok (.own 2 4 0 14)∧s'=⟨[.arr 0 1 true true (ints (List.replicate 14 0)),.arr 1 1 true true (ints (List.replicate 14 0)),.arr 4 1 true true (ints l)],5⟩∧l.length=14) (AHr (c0:=4) AEf AEf) ?_
    rintro _ _ ⟨l2,rfl,rfl,hl2⟩
    (conv=>whnf);repeat' (first|((with_reducible first|apply kN|apply kW|apply kX|apply kG|apply kQ);(· exact sd);conv=>whnf)|(refine DW.mk ?_ ?_<;>intro hc<;>(try rw[List.length_nil]at hc)<;>first|(exfalso;omega)|(exact absurd rfl hc)|conv=>whnf)  |(refine CB ?_ ?_<;>intro hc<;>conv=>whnf))
    refine⟨true,l2,?_⟩
    have:=@uI l2
    rw[hl2]at this
    exact congrArg (fun q=>AV.tup [.int .i64 0,.sl true q]) this
def sgn (n:Int):Int:=if n<0 then -1 else if 0<n then 1 else 0
theorem sign {n:Int}:D8 (Dx tab) 233 [.int .i64 n] (· =.int .i64 (sgn n)):=by
  refine Lu rfl rfl ?_
  (conv=>whnf);repeat' (first|((with_reducible first|apply kN|apply kW|apply kX|apply kG|apply kQ);(· exact sd);conv=>whnf)|(refine DW.mk ?_ ?_<;>intro hc<;>(try rw[List.length_nil]at hc)<;>first|(exfalso;omega)|(exact absurd rfl hc)|conv=>whnf)  |(refine CB ?_ ?_<;>intro hc<;>conv=>whnf))
  all_goals unfold sgn;first|(rw [if_pos (by omega)];rfl)|(rw [if_neg (by omega),if_pos (by omega)];rfl)|(rw [if_neg (by omega),if_neg (by omega)];rfl)
theorem Aqc (n:Int):-1≤sgn n∧sgn n≤1:=by unfold sgn;repeat' split;all_goals omega
theorem cmp0 {n d:Int}:D8 (Dx tab) 170 [.agg [.int .i64 n,.int .i64 d],.agg [.int .i64 n,.int .i64 d]] (· =.int .i64 0):=by
  obtain⟨_,⟨b,rfl,hb⟩,hP⟩:=(AAg (n:=n) (d:=d)).det
  have hs0:=Aqc n
  have hs1:=Aqc 0
  cases b with
  | true=>
    obtain⟨d1,d2,n1,n2⟩:=hb rfl
    obtain⟨_,⟨z,rfl,z0,z1⟩,hz⟩:=(size (n:=n) (by omega) (by omega)).det
    obtain⟨_,⟨nn,l,rfl,hl⟩,ht⟩:=(times (a:=z) (b:=d) (by omega) (by omega)).det
    refine Lu rfl rfl ?_
    (conv=>whnf);repeat' (first|((with_reducible first|apply kN|apply kW|apply kX|apply kG|apply kQ);(· exact sd);conv=>whnf)|(refine DW.mk ?_ ?_<;>intro hc<;>(try rw[List.length_nil]at hc)<;>first|(exfalso;omega)|(exact absurd rfl hc)|conv=>whnf)|(refine BM hP ?_;rintro _ rfl;conv=>whnf)|(refine BM (sign (n:=n)) ?_;rintro _ rfl;conv=>whnf)|(refine BM hz ?_;rintro _ rfl;conv=>whnf)|(refine BM ht ?_;rintro _ rfl;conv=>whnf)|(refine BM (ARK (an:=sgn n) hl) ?_;rintro _ ⟨n2,l2,rfl⟩;conv=>whnf)|(refine CB ?_ ?_<;>intro hc<;>conv=>whnf))
    all_goals rfl
  | false=>
    obtain⟨_,⟨z,rfl,z0,z1⟩,hz⟩:=(size (n:=0) (by omega) (by omega)).det
    obtain⟨_,⟨nn,l,rfl,hl⟩,ht⟩:=(times (a:=z) (b:=1) (by omega) (by omega)).det
    refine Lu rfl rfl ?_
    (conv=>whnf);repeat' (first|((with_reducible first|apply kN|apply kW|apply kX|apply kG|apply kQ);(· exact sd);conv=>whnf)|(refine DW.mk ?_ ?_<;>intro hc<;>(try rw[List.length_nil]at hc)<;>first|(exfalso;omega)|(exact absurd rfl hc)|conv=>whnf)|(refine BM hP ?_;rintro _ rfl;conv=>whnf)|(refine BM (sign (n:=0)) ?_;rintro _ rfl;conv=>whnf)|(refine BM hz ?_;rintro _ rfl;conv=>whnf)|(refine BM ht ?_;rintro _ rfl;conv=>whnf)|(refine BM (ARK (an:=sgn 0) hl) ?_;rintro _ ⟨n2,l2,rfl⟩;conv=>whnf)|(refine CB ?_ ?_<;>intro hc<;>conv=>whnf))
    all_goals rfl
end AI
end Go.Proofs.YtnbibfalljlmfaaGreatDoor
