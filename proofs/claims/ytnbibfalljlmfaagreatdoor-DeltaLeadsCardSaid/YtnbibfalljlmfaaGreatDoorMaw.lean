/- The methods that collect changes: the program's walks. Deletions: the program's walk. -/
import Derived.Test.YtnbibfalljlmfaaGreatDoorMal
import Derived.Test.YtnbibfalljlmfaaGreatDoorCtn0
import Derived.Test.YtnbibfalljlmfaaGreatDoorMam
set_option linter.unusedVariables false
set_option maxRecDepth 4000
namespace Go.Proofs.YtnbibfalljlmfaaGreatDoor
namespace AI
theorem Qa {op id:Int} {l m:List (List UInt8)}:(Gf op id l m).length≤l.length:=by unfold Gf;rw[List.length_map];exact List.length_filter_le ..
theorem UK {op id:Int} {a b:List GP}:(valuesL op id a b).length≤b.length:=by unfold valuesL;rw[List.length_map];exact List.length_filter_le ..
theorem AA9 {l:List GP} {k:List UInt8}:AgH l k=(OA l k).av:=by
  unfold AgH OA
  have e:isK k=AtO k:=rfl
  rw[e]
  cases l.find? (AtO k)<;>rfl
theorem ATv {a b:GV} (ha:a.ok∧AcF 12 a.av) (hb:b.ok∧AcF 12 b.av):D8 (Dx tab) 114 [a.av,b.av] (· =.int .i64 (QK 12 a b)):=Ape 12 ha.1 hb.1 (AaI ha.2) (AaI hb.2)
theorem AJ3 {l:List GP} {nn:Bool} (h:Ud l) {k:List UInt8}:D8 (Dx tab) 138 [.sl nn (vs GP.av l),.str k] (· =(OA l k).av):=by
  have:=AG1 (nn:=nn) (k:=k) (by have:=h.1;omega) h.2
  rwa [AA9]at this
theorem Aua {l:List GP} {nn:Bool} (hl:l.length≤2000):D8 (Dx tab) 79 [.sl nn (vs GP.av l)] (· =.sl true (vs .str (keysOf l))):=by
  refine Lu rfl rfl ?_
  (conv=>whnf);repeat' (first  |((with_reducible first|apply kN|apply kW|apply kX|apply kG|apply kQ);(· exact sd);conv=>whnf)|(refine DW.mk ?_ ?_<;>intro hc<;>(try rw[List.length_nil]at hc)<;>first|(exfalso;omega)|(exact absurd rfl hc)|conv=>whnf)|(refine CB ?_ ?_<;>intro hc<;>conv=>whnf))
  refine DK (fun z env s=>∃(i c:Nat) (D:List (List UInt8)),z=l.length-i∧i≤l.length∧D=Ao1 l i∧D.length=l.length∧env=[(3,.own 0 0 0 l.length),(9,.sl nn (vs GP.av l)),(10,.int .i64 l.length),(11,.int .i64 i)]∧s=⟨[.arr 0 1 true true (vs .str D)],c⟩) ?_ _ _ _ ⟨0,_,Ao1 l 0,rfl,by omega,rfl,AAv (by omega),by first|rfl|(rw [← lV (f:=GP.av) l];rfl),by first|(rw [AAx];rfl)|(rw [AAx,←lV (f:=GP.av) l];rfl)⟩
  rintro _ _ _ ⟨i,c,D,rfl,hi,hD,hDl,rfl,rfl⟩
  refine⟨rfl,?_⟩
  by_cases hlt:i<l.length
  · have hs:Ao1 l (i+1)=D.set i l[i].key:=by rw[hD,AyW hlt]
    (conv=>whnf);repeat' (first|((with_reducible show Iw _ _ _);refine nPK (i) ?_;conv=>whnf)|(with_reducible show Iw _ _ _;refine nV ?_;omega)|((with_reducible show eqK _ _);refine tV (es:=1) (fun _=>rfl) (i) ?_;conv=>whnf)|((with_reducible first|apply kN|apply kW|apply kX|apply kG|apply kQ);(· exact sd);conv=>whnf)|(refine DW.mk ?_ ?_<;>intro hc<;>(try rw[List.length_nil]at hc)<;>first|(exfalso;omega)|(exact absurd rfl hc)|conv=>whnf)|(refine CB ?_ ?_<;>intro hc<;>conv=>whnf))
    all_goals first | exact again.mk ⟨_, by omega, i + 1, _, D.set i l[i].key, rfl, by omega, hs.symm, by simpa using hDl, rfl, rfl⟩ | (exfalso; omega) | (trace_state; fail "keys1")
  · have e:i=l.length:=by omega
    subst e
    rw[AAw]at hD
    subst hD
    (conv=>whnf);repeat' (first  |((with_reducible first|apply kN|apply kW|apply kX|apply kG|apply kQ);(· exact sd);conv=>whnf)|(refine DW.mk ?_ ?_<;>intro hc<;>(try rw[List.length_nil]at hc)<;>first|(exfalso;omega)|(exact absurd rfl hc)|conv=>whnf)|(refine CB ?_ ?_<;>intro hc<;>conv=>whnf))
    all_goals first | exact congrArg (AV.sl true) (by rw [QD, List.drop_zero, List.take_of_length_le (by omega)]) | (trace_state; fail "keys2")
theorem add4 {o0 o1 r1 r2 r3 r4:Obj} {ga gs c n:Nat} {fa fb:Bool} {A:List GC} {x:GC} (hn:n=A.length) (hA:A.length≤100000):H6 (Dx tab) 76 [.ref 3 gs 0 0,x.av] ⟨[o0,o1,.arr ga 10 fa true (vs GC.av A),.arr gs 1 true false [cl fb (.own 2 ga 0 n)],r1,r2,r3,r4],c⟩ (fun out s'=>∃(c' ga':Nat) (fa' fb':Bool),out=.ok (.tup [])∧s'=⟨[o0,o1,.arr ga' 10 fa' true (vs GC.av (A++[x])),.arr gs 1 true false [cl fb' (.own 2 ga' 0 ((A++[x])).length)],r1,r2,r3,r4],c'⟩):=by
  rw[show (A++[x]).length=A.length+1 by simp]
  refine FH rfl rfl ?_
  cases fb
  all_goals
    (conv=>whnf);repeat' (first|(refine KI (f:=GC.av) (l:=A) (x:=x) Kv hn (by omega) ?_;conv=>whnf)|((with_reducible first|apply kN|apply kW|apply kX|apply kG|apply kQ);(· exact sd);conv=>whnf)|(refine DW.mk ?_ ?_<;>intro hc<;>(try rw[List.length_nil]at hc)<;>first|(exfalso;omega)|(exact absurd rfl hc)|conv=>whnf)|(refine CB ?_ ?_<;>intro hc<;>conv=>whnf))
    exact⟨_,_,_,false,rfl,rfl⟩
theorem ARv {o0 o1 r1 r2 r3 r4 r5 r6:Obj} {ga gs c n:Nat} {fa fb:Bool} {A:List GC} {x:GC} (hn:n=A.length) (hA:A.length≤100000):H6 (Dx tab) 76 [.ref 3 gs 0 0,x.av] ⟨[o0,o1,.arr ga 10 fa true (vs GC.av A),.arr gs 1 true false [cl fb (.own 2 ga 0 n)],r1,r2,r3,r4,r5,r6],c⟩ (fun out s'=>∃(c' ga':Nat) (fa' fb':Bool),out=.ok (.tup [])∧s'=⟨[o0,o1,.arr ga' 10 fa' true (vs GC.av (A++[x])),.arr gs 1 true false [cl fb' (.own 2 ga' 0 ((A++[x])).length)],r1,r2,r3,r4,r5,r6],c'⟩):=by
  rw[show (A++[x]).length=A.length+1 by simp]
  refine FH rfl rfl ?_
  cases fb
  all_goals
    (conv=>whnf);repeat' (first|(refine KI (f:=GC.av) (l:=A) (x:=x) Kv hn (by omega) ?_;conv=>whnf)|((with_reducible first|apply kN|apply kW|apply kX|apply kG|apply kQ);(· exact sd);conv=>whnf)|(refine DW.mk ?_ ?_<;>intro hc<;>(try rw[List.length_nil]at hc)<;>first|(exfalso;omega)|(exact absurd rfl hc)|conv=>whnf)|(refine CB ?_ ?_<;>intro hc<;>conv=>whnf))
    exact⟨_,_,_,false,rfl,rfl⟩
theorem AWt {o0 o1 r1 r2 r3 r4 r5 r6 r7:Obj} {ga gs c n:Nat} {fa fb:Bool} {A:List GC} {x:GC} (hn:n=A.length) (hA:A.length≤100000):H6 (Dx tab) 76 [.ref 3 gs 0 0,x.av] ⟨[o0,o1,.arr ga 10 fa true (vs GC.av A),.arr gs 1 true false [cl fb (.own 2 ga 0 n)],r1,r2,r3,r4,r5,r6,r7],c⟩ (fun out s'=>∃(c' ga':Nat) (fa' fb':Bool),out=.ok (.tup [])∧s'=⟨[o0,o1,.arr ga' 10 fa' true (vs GC.av (A++[x])),.arr gs 1 true false [cl fb' (.own 2 ga' 0 ((A++[x])).length)],r1,r2,r3,r4,r5,r6,r7],c'⟩):=by
  rw[show (A++[x]).length=A.length+1 by simp]
  refine FH rfl rfl ?_
  cases fb
  all_goals
    (conv=>whnf);repeat' (first|(refine KI (f:=GC.av) (l:=A) (x:=x) Kv hn (by omega) ?_;conv=>whnf)|((with_reducible first|apply kN|apply kW|apply kX|apply kG|apply kQ);(· exact sd);conv=>whnf)|(refine DW.mk ?_ ?_<;>intro hc<;>(try rw[List.length_nil]at hc)<;>first|(exfalso;omega)|(exact absurd rfl hc)|conv=>whnf)|(refine CB ?_ ?_<;>intro hc<;>conv=>whnf))
    exact⟨_,_,_,false,rfl,rfl⟩
theorem add8 {o0 o1 r1 r2 r3 r4 r5 r6 r7 r8:Obj} {ga gs c n:Nat} {fa fb:Bool} {A:List GC} {x:GC} (hn:n=A.length) (hA:A.length≤100000):H6 (Dx tab) 76 [.ref 3 gs 0 0,x.av] ⟨[o0,o1,.arr ga 10 fa true (vs GC.av A),.arr gs 1 true false [cl fb (.own 2 ga 0 n)],r1,r2,r3,r4,r5,r6,r7,r8],c⟩ (fun out s'=>∃(c' ga':Nat) (fa' fb':Bool),out=.ok (.tup [])∧s'=⟨[o0,o1,.arr ga' 10 fa' true (vs GC.av (A++[x])),.arr gs 1 true false [cl fb' (.own 2 ga' 0 ((A++[x])).length)],r1,r2,r3,r4,r5,r6,r7,r8],c'⟩):=by
  rw[show (A++[x]).length=A.length+1 by simp]
  refine FH rfl rfl ?_
  cases fb
  all_goals
    (conv=>whnf);repeat' (first|(refine KI (f:=GC.av) (l:=A) (x:=x) Kv hn (by omega) ?_;conv=>whnf)|((with_reducible first|apply kN|apply kW|apply kX|apply kG|apply kQ);(· exact sd);conv=>whnf)|(refine DW.mk ?_ ?_<;>intro hc<;>(try rw[List.length_nil]at hc)<;>first|(exfalso;omega)|(exact absurd rfl hc)|conv=>whnf)|(refine CB ?_ ?_<;>intro hc<;>conv=>whnf))
    exact⟨_,_,_,false,rfl,rfl⟩
theorem AWu {o0 o1 r1 r2 r3 r4 r5 r6 r7 r8 r9:Obj} {ga gs c n:Nat} {fa fb:Bool} {A:List GC} {x:GC} (hn:n=A.length) (hA:A.length≤100000):H6 (Dx tab) 76 [.ref 3 gs 0 0,x.av] ⟨[o0,o1,.arr ga 10 fa true (vs GC.av A),.arr gs 1 true false [cl fb (.own 2 ga 0 n)],r1,r2,r3,r4,r5,r6,r7,r8,r9],c⟩ (fun out s'=>∃(c' ga':Nat) (fa' fb':Bool),out=.ok (.tup [])∧s'=⟨[o0,o1,.arr ga' 10 fa' true (vs GC.av (A++[x])),.arr gs 1 true false [cl fb' (.own 2 ga' 0 ((A++[x])).length)],r1,r2,r3,r4,r5,r6,r7,r8,r9],c'⟩):=by
  rw[show (A++[x]).length=A.length+1 by simp]
  refine FH rfl rfl ?_
  cases fb
  all_goals
    (conv=>whnf);repeat' (first|(refine KI (f:=GC.av) (l:=A) (x:=x) Kv hn (by omega) ?_;conv=>whnf)|((with_reducible first|apply kN|apply kW|apply kX|apply kG|apply kQ);(· exact sd);conv=>whnf)|(refine DW.mk ?_ ?_<;>intro hc<;>(try rw[List.length_nil]at hc)<;>first|(exfalso;omega)|(exact absurd rfl hc)|conv=>whnf)|(refine CB ?_ ?_<;>intro hc<;>conv=>whnf))
    exact⟨_,_,_,false,rfl,rfl⟩
theorem AxG {o0 o1 r1 r2 r3 r4 r5 r6:Obj} {ga gs c n:Nat} {fa fb:Bool} {A:List GC} {op id:Int} {l m:List (List UInt8)} {nl nm:Bool} (hn:n=A.length) (hA:A.length≤90000) (hl:l.length≤2000) (hm:m.length≤2000):
    H6 (Dx tab) 78 [.ref 3 gs 0 0,.int .i64 op,.int .i64 id,.sl nl (vs .str l),.sl nm (vs .str m)] ⟨[o0,o1,.arr ga 10 fa true (vs GC.av A),.arr gs 1 true false [cl fb (.own 2 ga 0 n)],r1,r2,r3,r4,r5,r6],c⟩ (fun out s'=>∃(c' ga':Nat) (fa' fb':Bool),out=.ok (.tup [])∧s'=⟨[o0,o1,.arr ga' 10 fa' true (vs GC.av (A++Gf op id l m)),.arr gs 1 true false [cl fb' (.own 2 ga' 0 ((A++Gf op id l m)).length)],r1,r2,r3,r4,r5,r6],c'⟩):=by
  refine FH rfl rfl ?_
  (conv=>whnf);repeat' (first  |((with_reducible first|apply kN|apply kW|apply kX|apply kG|apply kQ);(· exact sd);conv=>whnf)|(refine DW.mk ?_ ?_<;>intro hc<;>(try rw[List.length_nil]at hc)<;>first|(exfalso;omega)|(exact absurd rfl hc)|conv=>whnf)|(refine CB ?_ ?_<;>intro hc<;>conv=>whnf))
  refine DK (fun z env s=>∃(i c ga n:Nat) (fa fb:Bool) (D:List GC),z=l.length-i∧i≤l.length∧D=A++Gf op id (l.take i) m∧n=D.length∧D.length≤A.length+i∧env=[(0,.ref 3 gs 0 0),(1,.int .i64 op),(2,.int .i64 id),(4,.sl nm (vs .str m)),(12,.sl nl (vs .str l)),(13,.int .i64 l.length),(14,.int .i64 i)]∧s=⟨[o0,o1,.arr ga 10 fa true (vs GC.av D),.arr gs 1 true false [cl fb (.own 2 ga 0 n)],r1,r2,r3,r4,r5,r6],c⟩) ?_ _ _ _ ⟨0,_,_,_,_,_,A,rfl,by omega,by simp[Gf],hn,by omega,by first|rfl|(rw [← lV (f:=AV.str) l];rfl),rfl⟩
  clear hn
  rintro _ _ _ ⟨i,c,ga,n,fa,fb,D,rfl,hi,hD,hn,hDl,rfl,rfl⟩
  refine⟨rfl,?_⟩
  by_cases hlt:i<l.length
  · have hs:Gf op id (l.take (i+1)) m=Gf op id (l.take i) m++if decide (l[i]∉m)=true then[mkC op id l[i]]else[]:=ND hlt
    have hcs:=AGW (l:=m) (x:=l[i]) (nn:=nm) (by omega)
    by_cases hx:l[i]∈m
    · rw[if_neg (by simpa using hx),List.append_nil]at hs
      rw[← hs]at hD
      rw[decide_eq_true hx]at hcs
      (conv=>whnf);repeat' (first|(refine BM hcs ?_;rintro _ rfl;conv=>whnf)|((with_reducible first|apply kN|apply kW|apply kX|apply kG|apply kQ);(· exact sd);conv=>whnf)|(refine DW.mk ?_ ?_<;>intro hc<;>(try rw[List.length_nil]at hc)<;>first|(exfalso;omega)|(exact absurd rfl hc)|conv=>whnf)|(refine CB ?_ ?_<;>intro hc<;>conv=>whnf))
      all_goals first | exact again.mk ⟨_, by omega, i + 1, _, _, _, _, _, D, rfl, by omega, hD, hn, by omega, rfl, rfl⟩ | (exfalso; omega) | (trace_state; fail "names1")
    · rw[if_pos (by simpa using hx)]at hs
      have hD2:D++[mkC op id l[i]]=A++Gf op id (l.take (i+1)) m:=by rw[hs,hD,List.append_assoc]
      rw[decide_eq_false hx]at hcs
      (conv=>whnf);repeat' (first|(refine BM hcs ?_;rintro _ rfl;conv=>whnf)|((with_reducible first|apply kN|apply kW|apply kX|apply kG|apply kQ);(· exact sd);conv=>whnf)|(refine DW.mk ?_ ?_<;>intro hc<;>(try rw[List.length_nil]at hc)<;>first|(exfalso;omega)|(exact absurd rfl hc)|conv=>whnf)|(refine CB ?_ ?_<;>intro hc<;>conv=>whnf))
      refine(ARv (A:=D) (x:=mkC op id l[i]) hn (by omega)).mono ?_
      rintro _ _ ⟨c2,ga2,fa2,fb2,rfl,rfl⟩
      conv=>whnf
      try (apply Ez rfl;conv=>whnf)
      (conv=>whnf);repeat' (first  |((with_reducible first|apply kN|apply kW|apply kX|apply kG|apply kQ);(· exact sd);conv=>whnf)|(refine DW.mk ?_ ?_<;>intro hc<;>(try rw[List.length_nil]at hc)<;>first|(exfalso;omega)|(exact absurd rfl hc)|conv=>whnf)|(refine CB ?_ ?_<;>intro hc<;>conv=>whnf))
      all_goals first | exact again.mk ⟨_, by omega, i + 1, _, _, _, _, _, D ++ [mkC op id l[i]], rfl, by omega, hD2, rfl, by simp; omega, rfl, rfl⟩ | (exfalso; omega) | (trace_state; fail "names2")
  · rw[List.take_of_length_le (by omega)]at hD
    subst hn
    rw[hD]
    (conv=>whnf);repeat' (first  |((with_reducible first|apply kN|apply kW|apply kX|apply kG|apply kQ);(· exact sd);conv=>whnf)|(refine DW.mk ?_ ?_<;>intro hc<;>(try rw[List.length_nil]at hc)<;>first|(exfalso;omega)|(exact absurd rfl hc)|conv=>whnf)|(refine CB ?_ ?_<;>intro hc<;>conv=>whnf))
    exact⟨_,_,_,_,rfl,rfl⟩
theorem names8 {o0 o1 r1 r2 r3 r4 r5 r6 r7 r8:Obj} {ga gs c n:Nat} {fa fb:Bool} {A:List GC} {op id:Int} {l m:List (List UInt8)} {nl nm:Bool} (hn:n=A.length) (hA:A.length≤90000) (hl:l.length≤2000) (hm:m.length≤2000):
    H6 (Dx tab) 78 [.ref 3 gs 0 0,.int .i64 op,.int .i64 id,.sl nl (vs .str l),.sl nm (vs .str m)] ⟨[o0,o1,.arr ga 10 fa true (vs GC.av A),.arr gs 1 true false [cl fb (.own 2 ga 0 n)],r1,r2,r3,r4,r5,r6,r7,r8],c⟩ (fun out s'=>∃(c' ga':Nat) (fa' fb':Bool),out=.ok (.tup [])∧s'=⟨[o0,o1,.arr ga' 10 fa' true (vs GC.av (A++Gf op id l m)),.arr gs 1 true false [cl fb' (.own 2 ga' 0 ((A++Gf op id l m)).length)],r1,r2,r3,r4,r5,r6,r7,r8],c'⟩):=by
  refine FH rfl rfl ?_
  (conv=>whnf);repeat' (first  |((with_reducible first|apply kN|apply kW|apply kX|apply kG|apply kQ);(· exact sd);conv=>whnf)|(refine DW.mk ?_ ?_<;>intro hc<;>(try rw[List.length_nil]at hc)<;>first|(exfalso;omega)|(exact absurd rfl hc)|conv=>whnf)|(refine CB ?_ ?_<;>intro hc<;>conv=>whnf))
  refine DK (fun z env s=>∃(i c ga n:Nat) (fa fb:Bool) (D:List GC),z=l.length-i∧i≤l.length∧D=A++Gf op id (l.take i) m∧n=D.length∧D.length≤A.length+i∧env=[(0,.ref 3 gs 0 0),(1,.int .i64 op),(2,.int .i64 id),(4,.sl nm (vs .str m)),(12,.sl nl (vs .str l)),(13,.int .i64 l.length),(14,.int .i64 i)]∧s=⟨[o0,o1,.arr ga 10 fa true (vs GC.av D),.arr gs 1 true false [cl fb (.own 2 ga 0 n)],r1,r2,r3,r4,r5,r6,r7,r8],c⟩) ?_ _ _ _ ⟨0,_,_,_,_,_,A,rfl,by omega,by simp[Gf],hn,by omega,by first|rfl|(rw [← lV (f:=AV.str) l];rfl),rfl⟩
  clear hn
  rintro _ _ _ ⟨i,c,ga,n,fa,fb,D,rfl,hi,hD,hn,hDl,rfl,rfl⟩
  refine⟨rfl,?_⟩
  by_cases hlt:i<l.length
  · have hs:Gf op id (l.take (i+1)) m=Gf op id (l.take i) m++if decide (l[i]∉m)=true then[mkC op id l[i]]else[]:=ND hlt
    have hcs:=AGW (l:=m) (x:=l[i]) (nn:=nm) (by omega)
    by_cases hx:l[i]∈m
    · rw[if_neg (by simpa using hx),List.append_nil]at hs
      rw[← hs]at hD
      rw[decide_eq_true hx]at hcs
      (conv=>whnf);repeat' (first|(refine BM hcs ?_;rintro _ rfl;conv=>whnf)|((with_reducible first|apply kN|apply kW|apply kX|apply kG|apply kQ);(· exact sd);conv=>whnf)|(refine DW.mk ?_ ?_<;>intro hc<;>(try rw[List.length_nil]at hc)<;>first|(exfalso;omega)|(exact absurd rfl hc)|conv=>whnf)|(refine CB ?_ ?_<;>intro hc<;>conv=>whnf))
      all_goals first | exact again.mk ⟨_, by omega, i + 1, _, _, _, _, _, D, rfl, by omega, hD, hn, by omega, rfl, rfl⟩ | (exfalso; omega) | (trace_state; fail "names1")
    · rw[if_pos (by simpa using hx)]at hs
      have hD2:D++[mkC op id l[i]]=A++Gf op id (l.take (i+1)) m:=by rw[hs,hD,List.append_assoc]
      rw[decide_eq_false hx]at hcs
      (conv=>whnf);repeat' (first|(refine BM hcs ?_;rintro _ rfl;conv=>whnf)|((with_reducible first|apply kN|apply kW|apply kX|apply kG|apply kQ);(· exact sd);conv=>whnf)|(refine DW.mk ?_ ?_<;>intro hc<;>(try rw[List.length_nil]at hc)<;>first|(exfalso;omega)|(exact absurd rfl hc)|conv=>whnf)|(refine CB ?_ ?_<;>intro hc<;>conv=>whnf))
      refine(add8 (A:=D) (x:=mkC op id l[i]) hn (by omega)).mono ?_
      rintro _ _ ⟨c2,ga2,fa2,fb2,rfl,rfl⟩
      conv=>whnf
      try (apply Ez rfl;conv=>whnf)
      (conv=>whnf);repeat' (first  |((with_reducible first|apply kN|apply kW|apply kX|apply kG|apply kQ);(· exact sd);conv=>whnf)|(refine DW.mk ?_ ?_<;>intro hc<;>(try rw[List.length_nil]at hc)<;>first|(exfalso;omega)|(exact absurd rfl hc)|conv=>whnf)|(refine CB ?_ ?_<;>intro hc<;>conv=>whnf))
      all_goals first | exact again.mk ⟨_, by omega, i + 1, _, _, _, _, _, D ++ [mkC op id l[i]], rfl, by omega, hD2, rfl, by simp; omega, rfl, rfl⟩ | (exfalso; omega) | (trace_state; fail "names2")
  · rw[List.take_of_length_le (by omega)]at hD
    subst hn
    rw[hD]
    (conv=>whnf);repeat' (first  |((with_reducible first|apply kN|apply kW|apply kX|apply kG|apply kQ);(· exact sd);conv=>whnf)|(refine DW.mk ?_ ?_<;>intro hc<;>(try rw[List.length_nil]at hc)<;>first|(exfalso;omega)|(exact absurd rfl hc)|conv=>whnf)|(refine CB ?_ ?_<;>intro hc<;>conv=>whnf))
    exact⟨_,_,_,_,rfl,rfl⟩
theorem ACh {o0 o1 r1 r2 r3 r4 r5 r6:Obj} {ga gs c n:Nat} {fa fb:Bool} {A:List GC} {op id:Int} {a b:List GP} {na nb:Bool} (hn:n=A.length) (hA:A.length≤90000) (ha:Ud a) (hb:Ud b):
    H6 (Dx tab) 80 [.ref 3 gs 0 0,.int .i64 op,.int .i64 id,.sl na (vs GP.av a),.sl nb (vs GP.av b)] ⟨[o0,o1,.arr ga 10 fa true (vs GC.av A),.arr gs 1 true false [cl fb (.own 2 ga 0 n)],r1,r2,r3,r4,r5,r6],c⟩ (fun out s'=>∃(c' ga':Nat) (fa' fb':Bool),out=.ok (.tup [])∧s'=⟨[o0,o1,.arr ga' 10 fa' true (vs GC.av (A++valuesL op id a b)),.arr gs 1 true false [cl fb' (.own 2 ga' 0 ((A++valuesL op id a b)).length)],r1,r2,r3,r4,r5,r6],c'⟩):=by
  have hbl:=hb.1
  refine FH rfl rfl ?_
  (conv=>whnf);repeat' (first  |((with_reducible first|apply kN|apply kW|apply kX|apply kG|apply kQ);(· exact sd);conv=>whnf)|(refine DW.mk ?_ ?_<;>intro hc<;>(try rw[List.length_nil]at hc)<;>first|(exfalso;omega)|(exact absurd rfl hc)|conv=>whnf)|(refine CB ?_ ?_<;>intro hc<;>conv=>whnf))
  refine DK (fun z env s=>∃(i c ga n:Nat) (fa fb:Bool) (D:List GC),z=b.length-i∧i≤b.length∧D=A++valuesL op id a (b.take i)∧n=D.length∧D.length≤A.length+i∧env=[(0,.ref 3 gs 0 0),(1,.int .i64 op),(2,.int .i64 id),(3,.sl na (vs GP.av a)),(12,.sl nb (vs GP.av b)),(13,.int .i64 b.length),(14,.int .i64 i)]∧s=⟨[o0,o1,.arr ga 10 fa true (vs GC.av D),.arr gs 1 true false [cl fb (.own 2 ga 0 n)],r1,r2,r3,r4,r5,r6],c⟩) ?_ _ _ _ ⟨0,_,_,_,_,_,A,rfl,by omega,by simp[valuesL],hn,by omega,by first|rfl|(rw [← lV (f:=GP.av) b];rfl),rfl⟩
  clear hn
  rintro _ _ _ ⟨i,c,ga,n,fa,fb,D,rfl,hi,hD,hn,hDl,rfl,rfl⟩
  refine⟨rfl,?_⟩
  by_cases hlt:i<b.length
  · have hs:valuesL op id a (b.take (i+1))=valuesL op id a (b.take i)++if decide (QK 12 (OA a b[i].key) b[i].v≠0)=true then[⟨op,id,0,0,b[i].key,b[i].v⟩]else[]:=ND hlt
    have hp:=AJ3 (nn:=na) ha (k:=b[i].key)
    have hb0:=hb.2 _ (List.getElem_mem hlt)
    have hcv:=ATv (Ali ha.2 b[i].key) ⟨hb0.1.2,hb0.2⟩
    by_cases hx:QK 12 (OA a b[i].key) b[i].v=0
    · rw[if_neg (by simpa using hx),List.append_nil]at hs
      rw[← hs]at hD
      (conv=>whnf);repeat' (first|(refine BM hp ?_;rintro _ rfl;conv=>whnf)|(refine BM hcv ?_;rintro _ rfl;conv=>whnf)|((with_reducible first|apply kN|apply kW|apply kX|apply kG|apply kQ);(· exact sd);conv=>whnf)|(refine DW.mk ?_ ?_<;>intro hc<;>(try rw[List.length_nil]at hc)<;>first|(exfalso;omega)|(exact absurd rfl hc)|conv=>whnf)|(refine CB ?_ ?_<;>intro hc<;>conv=>whnf))
      all_goals first | exact again.mk ⟨_, by omega, i + 1, _, _, _, _, _, D, rfl, by omega, hD, hn, by omega, rfl, rfl⟩ | (exfalso; omega) | (trace_state; fail "values1")
    · rw[if_pos (by simpa using hx)]at hs
      have hD2:D++[⟨op,id,0,0,b[i].key,b[i].v⟩]=A++valuesL op id a (b.take (i+1)):=by rw[hs,hD,List.append_assoc]
      (conv=>whnf);repeat' (first|(refine BM hp ?_;rintro _ rfl;conv=>whnf)|(refine BM hcv ?_;rintro _ rfl;conv=>whnf)|((with_reducible first|apply kN|apply kW|apply kX|apply kG|apply kQ);(· exact sd);conv=>whnf)|(refine DW.mk ?_ ?_<;>intro hc<;>(try rw[List.length_nil]at hc)<;>first|(exfalso;omega)|(exact absurd rfl hc)|conv=>whnf)|(refine CB ?_ ?_<;>intro hc<;>conv=>whnf))
      all_goals try (exfalso;omega)
      refine(AWt (A:=D) (x:=⟨op,id,0,0,b[i].key,b[i].v⟩) hn (by omega)).mono ?_
      rintro _ _ ⟨c2,ga2,fa2,fb2,rfl,rfl⟩
      conv=>whnf
      try (apply Ez rfl;conv=>whnf)
      (conv=>whnf);repeat' (first  |((with_reducible first|apply kN|apply kW|apply kX|apply kG|apply kQ);(· exact sd);conv=>whnf)|(refine DW.mk ?_ ?_<;>intro hc<;>(try rw[List.length_nil]at hc)<;>first|(exfalso;omega)|(exact absurd rfl hc)|conv=>whnf)|(refine CB ?_ ?_<;>intro hc<;>conv=>whnf))
      all_goals first | exact again.mk ⟨_, by omega, i + 1, _, _, _, _, _, D ++ [⟨op, id, 0, 0, b[i].key, b[i].v⟩], rfl, by omega, hD2, rfl, by simp; omega, rfl, rfl⟩ | (exfalso; omega) | (trace_state; fail "values2")
  · rw[List.take_of_length_le (by omega)]at hD
    subst hn
    rw[hD]
    (conv=>whnf);repeat' (first  |((with_reducible first|apply kN|apply kW|apply kX|apply kG|apply kQ);(· exact sd);conv=>whnf)|(refine DW.mk ?_ ?_<;>intro hc<;>(try rw[List.length_nil]at hc)<;>first|(exfalso;omega)|(exact absurd rfl hc)|conv=>whnf)|(refine CB ?_ ?_<;>intro hc<;>conv=>whnf))
    exact⟨_,_,_,_,rfl,rfl⟩
theorem AuH {o0 o1 r1 r2 r3 r4 r5 r6 r7 r8:Obj} {ga gs c n:Nat} {fa fb:Bool} {A:List GC} {op id:Int} {a b:List GP} {na nb:Bool} (hn:n=A.length) (hA:A.length≤90000) (ha:Ud a) (hb:Ud b):
    H6 (Dx tab) 80 [.ref 3 gs 0 0,.int .i64 op,.int .i64 id,.sl na (vs GP.av a),.sl nb (vs GP.av b)] ⟨[o0,o1,.arr ga 10 fa true (vs GC.av A),.arr gs 1 true false [cl fb (.own 2 ga 0 n)],r1,r2,r3,r4,r5,r6,r7,r8],c⟩ (fun out s'=>∃(c' ga':Nat) (fa' fb':Bool),out=.ok (.tup [])∧s'=⟨[o0,o1,.arr ga' 10 fa' true (vs GC.av (A++valuesL op id a b)),.arr gs 1 true false [cl fb' (.own 2 ga' 0 ((A++valuesL op id a b)).length)],r1,r2,r3,r4,r5,r6,r7,r8],c'⟩):=by
  have hbl:=hb.1
  refine FH rfl rfl ?_
  (conv=>whnf);repeat' (first  |((with_reducible first|apply kN|apply kW|apply kX|apply kG|apply kQ);(· exact sd);conv=>whnf)|(refine DW.mk ?_ ?_<;>intro hc<;>(try rw[List.length_nil]at hc)<;>first|(exfalso;omega)|(exact absurd rfl hc)|conv=>whnf)|(refine CB ?_ ?_<;>intro hc<;>conv=>whnf))
  refine DK (fun z env s=>∃(i c ga n:Nat) (fa fb:Bool) (D:List GC),z=b.length-i∧i≤b.length∧D=A++valuesL op id a (b.take i)∧n=D.length∧D.length≤A.length+i∧env=[(0,.ref 3 gs 0 0),(1,.int .i64 op),(2,.int .i64 id),(3,.sl na (vs GP.av a)),(12,.sl nb (vs GP.av b)),(13,.int .i64 b.length),(14,.int .i64 i)]∧s=⟨[o0,o1,.arr ga 10 fa true (vs GC.av D),.arr gs 1 true false [cl fb (.own 2 ga 0 n)],r1,r2,r3,r4,r5,r6,r7,r8],c⟩) ?_ _ _ _ ⟨0,_,_,_,_,_,A,rfl,by omega,by simp[valuesL],hn,by omega,by first|rfl|(rw [← lV (f:=GP.av) b];rfl),rfl⟩
  clear hn
  rintro _ _ _ ⟨i,c,ga,n,fa,fb,D,rfl,hi,hD,hn,hDl,rfl,rfl⟩
  refine⟨rfl,?_⟩
  by_cases hlt:i<b.length
  · have hs:valuesL op id a (b.take (i+1))=valuesL op id a (b.take i)++if decide (QK 12 (OA a b[i].key) b[i].v≠0)=true then[⟨op,id,0,0,b[i].key,b[i].v⟩]else[]:=ND hlt
    have hp:=AJ3 (nn:=na) ha (k:=b[i].key)
    have hb0:=hb.2 _ (List.getElem_mem hlt)
    have hcv:=ATv (Ali ha.2 b[i].key) ⟨hb0.1.2,hb0.2⟩
    by_cases hx:QK 12 (OA a b[i].key) b[i].v=0
    · rw[if_neg (by simpa using hx),List.append_nil]at hs
      rw[← hs]at hD
      (conv=>whnf);repeat' (first|(refine BM hp ?_;rintro _ rfl;conv=>whnf)|(refine BM hcv ?_;rintro _ rfl;conv=>whnf)|((with_reducible first|apply kN|apply kW|apply kX|apply kG|apply kQ);(· exact sd);conv=>whnf)|(refine DW.mk ?_ ?_<;>intro hc<;>(try rw[List.length_nil]at hc)<;>first|(exfalso;omega)|(exact absurd rfl hc)|conv=>whnf)|(refine CB ?_ ?_<;>intro hc<;>conv=>whnf))
      all_goals first | exact again.mk ⟨_, by omega, i + 1, _, _, _, _, _, D, rfl, by omega, hD, hn, by omega, rfl, rfl⟩ | (exfalso; omega) | (trace_state; fail "values1")
    · rw[if_pos (by simpa using hx)]at hs
      have hD2:D++[⟨op,id,0,0,b[i].key,b[i].v⟩]=A++valuesL op id a (b.take (i+1)):=by rw[hs,hD,List.append_assoc]
      (conv=>whnf);repeat' (first|(refine BM hp ?_;rintro _ rfl;conv=>whnf)|(refine BM hcv ?_;rintro _ rfl;conv=>whnf)|((with_reducible first|apply kN|apply kW|apply kX|apply kG|apply kQ);(· exact sd);conv=>whnf)|(refine DW.mk ?_ ?_<;>intro hc<;>(try rw[List.length_nil]at hc)<;>first|(exfalso;omega)|(exact absurd rfl hc)|conv=>whnf)|(refine CB ?_ ?_<;>intro hc<;>conv=>whnf))
      all_goals try (exfalso;omega)
      refine(AWu (A:=D) (x:=⟨op,id,0,0,b[i].key,b[i].v⟩) hn (by omega)).mono ?_
      rintro _ _ ⟨c2,ga2,fa2,fb2,rfl,rfl⟩
      conv=>whnf
      try (apply Ez rfl;conv=>whnf)
      (conv=>whnf);repeat' (first  |((with_reducible first|apply kN|apply kW|apply kX|apply kG|apply kQ);(· exact sd);conv=>whnf)|(refine DW.mk ?_ ?_<;>intro hc<;>(try rw[List.length_nil]at hc)<;>first|(exfalso;omega)|(exact absurd rfl hc)|conv=>whnf)|(refine CB ?_ ?_<;>intro hc<;>conv=>whnf))
      all_goals first | exact again.mk ⟨_, by omega, i + 1, _, _, _, _, _, D ++ [⟨op, id, 0, 0, b[i].key, b[i].v⟩], rfl, by omega, hD2, rfl, by simp; omega, rfl, rfl⟩ | (exfalso; omega) | (trace_state; fail "values2")
  · rw[List.take_of_length_le (by omega)]at hD
    subst hn
    rw[hD]
    (conv=>whnf);repeat' (first  |((with_reducible first|apply kN|apply kW|apply kX|apply kG|apply kQ);(· exact sd);conv=>whnf)|(refine DW.mk ?_ ?_<;>intro hc<;>(try rw[List.length_nil]at hc)<;>first|(exfalso;omega)|(exact absurd rfl hc)|conv=>whnf)|(refine CB ?_ ?_<;>intro hc<;>conv=>whnf))
    exact⟨_,_,_,_,rfl,rfl⟩
theorem ABV {x y:GE}:D8 (Dx tab) 75 [x.av,y.av] (· =.bool (Lr x y)):=by
  refine Lu rfl rfl ?_
  (conv=>whnf);repeat' (first  |((with_reducible first|apply kN|apply kW|apply kX|apply kG|apply kQ);(· exact sd);conv=>whnf)|(refine DW.mk ?_ ?_<;>intro hc<;>(try rw[List.length_nil]at hc)<;>first|(exfalso;omega)|(exact absurd rfl hc)|conv=>whnf)|(refine CB ?_ ?_<;>intro hc<;>conv=>whnf))
  all_goals first | exact Lp (fun h => absurd h.1 (by assumption)) | exact Lp (fun h => absurd h.2.1 (by assumption)) | exact Lp (fun h => absurd h.2.2 (by assumption)) | exact Hf (fun h => h ⟨by assumption, by assumption, by assumption⟩) | (trace_state; fail "movP")
theorem Ap0 (x y:GE):Lr x y=Lr y x:=by
  unfold Lr
  exact decide_eq_decide.2 (not_congr ⟨fun h=>⟨h.1.symm,h.2.1.symm,h.2.2.symm⟩,fun h=>⟨h.1.symm,h.2.1.symm,h.2.2.symm⟩⟩)
theorem PG.AzQ {g:GG} (h:PG g):∀n∈g.nodes,AgE n:=fun n hn=>⟨by have:=(h.nodes n hn).2.1;omega,(h.nodes n hn).1.2.2.1,(h.nodes n hn).1.2.2.2.2.2.1,(h.nodes n hn).2.2.2.1⟩
theorem PG.AzR {g:GG} (h:PG g):∀n∈g.edges,AgF n:=fun n hn=>⟨(h.edges n hn).1.2.2.2.2.2.1,(h.edges n hn).2.2.1⟩
theorem AAb {g:GG} (h:PG g) {id:Int}:D8 (Dx tab) 74 [g.av,.int .i64 id] (· =Yn g.edges id):=AzV (by have:=h.en;omega) h.AzR
theorem AAi {g:GG} (h:PG g) {id:Int}:D8 (Dx tab) 77 [g.av,.int .i64 id] (· =Yk g.nodes id):=AzT (by have:=h.nn;omega) h.AzQ
set_option maxHeartbeats 1000000 in
theorem AQT {o0 o1:Obj} {ga gs c0 n:Nat} {fa fb:Bool} {A:List GC} {a b:GG} (hn:n=A.length) (hA:A.length≤10) (ha:PG a) (hb:PG b):
    H6 (Dx tab) 37 [.ref 3 gs 0 0,a.av,b.av] ⟨[o0,o1,.arr ga 10 fa true (vs GC.av A),.arr gs 1 true false [cl fb (.own 2 ga 0 n)]],c0⟩ (fun out s'=>∃(c' ga':Nat) (fa' fb':Bool) (r1 r2:Obj),out=.ok (.tup [])∧s'=⟨[o0,o1,.arr ga' 10 fa' true (vs GC.av (A++YI a b)),.arr gs 1 true false [cl fb' (.own 2 ga' 0 (A++YI a b).length)],r1,r2],c'⟩):=by
  have a1:=ha.nn
  have a2:=ha.en
  have b1:=hb.nn
  have b2:=hb.en
  refine FH rfl rfl ?_
  (conv=>whnf);repeat' (first  |((with_reducible first|apply kN|apply kW|apply kX|apply kG|apply kQ);(· exact sd);conv=>whnf)|(refine DW.mk ?_ ?_<;>intro hc<;>(try rw[List.length_nil]at hc)<;>first|(exfalso;omega)|(exact absurd rfl hc)|conv=>whnf)|(refine CB ?_ ?_<;>intro hc<;>conv=>whnf))
  refine DK (fun z env s=>∃(i c ga n:Nat) (fa fb:Bool) (D:List GC),z=a.edges.length-i∧i≤a.edges.length∧D=A++((a.edges.take i).filter (JQ b.edges)).map (fun x=>mkC 7 x.id [])∧n=D.length∧D.length≤A.length+i∧env=[(0,.ref 3 gs 0 0),(4,.ref 4 c0 0 0),(5,.ref 5 (c0+1) 0 0),(15,.sl a.en (vs GE.av a.edges)),(16,.int .i64 a.edges.length),(17,.int .i64 i)]∧s=⟨[o0,o1,.arr ga 10 fa true (vs GC.av D),.arr gs 1 true false [cl fb (.own 2 ga 0 n)],.arr c0 4 true true [a.av],.arr (c0+1) 4 true true [b.av]],c⟩) ?_ _ _ _ ⟨0,_,_,_,_,_,A,rfl,by omega,by simp,hn,by omega,by first|rfl|(rw [← lV (f:=GE.av) a.edges];rfl),rfl⟩
  clear hn
  rintro _ _ _ ⟨i,c,ga,n,fa,fb,D,rfl,hi,hD,hn,hDl,rfl,rfl⟩
  refine⟨rfl,?_⟩
  by_cases hlt:i<a.edges.length
  · have hs:((a.edges.take (i+1)).filter (JQ b.edges)).map (fun x=>mkC 7 x.id [])=((a.edges.take i).filter (JQ b.edges)).map (fun x=>mkC 7 x.id [])++if JQ b.edges a.edges[i]=true then[(fun x=>mkC 7 x.id []) a.edges[i]]else[]:=ND hlt
    have hq:=AAb hb (id:=a.edges[i].id)
    unfold Yn at hq
    cases hf:b.edges.find? (isE a.edges[i].id)with
    | none=>
      rw[hf]at hq
      have hg:JQ b.edges a.edges[i]=true:=by unfold JQ;rw[hf]
      · rw[if_pos hg]at hs
        have hD2:D++[(fun x=>mkC 7 x.id []) a.edges[i]]=A++((a.edges.take (i+1)).filter (JQ b.edges)).map (fun x=>mkC 7 x.id []):=by rw[hs,hD,List.append_assoc]
        (conv=>whnf);repeat' (first|(refine BM hq ?_;rintro _ rfl;conv=>whnf)|((with_reducible first|apply kN|apply kW|apply kX|apply kG|apply kQ);(· exact sd);conv=>whnf)|(refine DW.mk ?_ ?_<;>intro hc<;>(try rw[List.length_nil]at hc)<;>first|(exfalso;omega)|(exact absurd rfl hc)|conv=>whnf)|(refine CB ?_ ?_<;>intro hc<;>conv=>whnf))
        all_goals try (exfalso;omega)
        refine(add4 (A:=D) (x:=(fun x=>mkC 7 x.id []) a.edges[i]) hn (by omega)).mono ?_
        rintro _ _ ⟨c2,ga2,fa2,fb2,rfl,rfl⟩
        conv=>whnf
        try (apply Ez rfl;conv=>whnf)
        (conv=>whnf);repeat' (first  |((with_reducible first|apply kN|apply kW|apply kX|apply kG|apply kQ);(· exact sd);conv=>whnf)|(refine DW.mk ?_ ?_<;>intro hc<;>(try rw[List.length_nil]at hc)<;>first|(exfalso;omega)|(exact absurd rfl hc)|conv=>whnf)|(refine CB ?_ ?_<;>intro hc<;>conv=>whnf))
        all_goals first | exact again.mk ⟨_, by omega, i + 1, _, _, _, _, _, D ++ [(fun x => mkC 7 x.id []) a.edges[i]], rfl, by omega, hD2, hn, by omega, rfl, rfl⟩ | exact again.mk ⟨_, by omega, i + 1, _, _, _, _, _, D ++ [(fun x => mkC 7 x.id []) a.edges[i]], rfl, by omega, hD2, rfl, by simp; omega, rfl, rfl⟩ | (exfalso; omega) | (trace_state; fail "ag")
    | some y=>
      rw[hf]at hq
      have hg:JQ b.edges a.edges[i]=Lr a.edges[i] y:=by unfold JQ;rw[hf]
      have hm:=ABV (x:=a.edges[i]) (y:=y)
      cases hmv:Lr a.edges[i] y
      · rw[hmv]at hg hm
        · rw[if_neg (by rw[hg];exact Bool.false_ne_true),List.append_nil]at hs
          rw[← hs]at hD
          (conv=>whnf);repeat' (first|(refine BM hq ?_;rintro _ rfl;conv=>whnf)|(refine BM hm ?_;rintro _ rfl;conv=>whnf)|((with_reducible first|apply kN|apply kW|apply kX|apply kG|apply kQ);(· exact sd);conv=>whnf)|(refine DW.mk ?_ ?_<;>intro hc<;>(try rw[List.length_nil]at hc)<;>first|(exfalso;omega)|(exact absurd rfl hc)|conv=>whnf)|(refine CB ?_ ?_<;>intro hc<;>conv=>whnf))
          all_goals first | exact again.mk ⟨_, by omega, i + 1, _, _, _, _, _, D, rfl, by omega, hD, hn, by omega, rfl, rfl⟩ | exact again.mk ⟨_, by omega, i + 1, _, _, _, _, _, D, rfl, by omega, hD, rfl, by simp; omega, rfl, rfl⟩ | (exfalso; omega) | (trace_state; fail "ag")
      · rw[hmv]at hg hm
        · rw[if_pos hg]at hs
          have hD2:D++[(fun x=>mkC 7 x.id []) a.edges[i]]=A++((a.edges.take (i+1)).filter (JQ b.edges)).map (fun x=>mkC 7 x.id []):=by rw[hs,hD,List.append_assoc]
          (conv=>whnf);repeat' (first|(refine BM hq ?_;rintro _ rfl;conv=>whnf)|(refine BM hm ?_;rintro _ rfl;conv=>whnf)|((with_reducible first|apply kN|apply kW|apply kX|apply kG|apply kQ);(· exact sd);conv=>whnf)|(refine DW.mk ?_ ?_<;>intro hc<;>(try rw[List.length_nil]at hc)<;>first|(exfalso;omega)|(exact absurd rfl hc)|conv=>whnf)|(refine CB ?_ ?_<;>intro hc<;>conv=>whnf))
          all_goals try (exfalso;omega)
          refine(add4 (A:=D) (x:=(fun x=>mkC 7 x.id []) a.edges[i]) hn (by omega)).mono ?_
          rintro _ _ ⟨c2,ga2,fa2,fb2,rfl,rfl⟩
          conv=>whnf
          try (apply Ez rfl;conv=>whnf)
          (conv=>whnf);repeat' (first  |((with_reducible first|apply kN|apply kW|apply kX|apply kG|apply kQ);(· exact sd);conv=>whnf)|(refine DW.mk ?_ ?_<;>intro hc<;>(try rw[List.length_nil]at hc)<;>first|(exfalso;omega)|(exact absurd rfl hc)|conv=>whnf)|(refine CB ?_ ?_<;>intro hc<;>conv=>whnf))
          all_goals first | exact again.mk ⟨_, by omega, i + 1, _, _, _, _, _, D ++ [(fun x => mkC 7 x.id []) a.edges[i]], rfl, by omega, hD2, hn, by omega, rfl, rfl⟩ | exact again.mk ⟨_, by omega, i + 1, _, _, _, _, _, D ++ [(fun x => mkC 7 x.id []) a.edges[i]], rfl, by omega, hD2, rfl, by simp; omega, rfl, rfl⟩ | (exfalso; omega) | (trace_state; fail "ag")
  rw[List.take_of_length_le (by omega)]at hD
  have hD1:D.length≤110:=by omega
  clear hDl
  obtain⟨E,hE⟩:∃E,E=D:=⟨_,rfl⟩
  subst hE
  have hDE:=hD
  clear hD
  (conv=>whnf);repeat' (first  |((with_reducible first|apply kN|apply kW|apply kX|apply kG|apply kQ);(· exact sd);conv=>whnf)|(refine DW.mk ?_ ?_<;>intro hc<;>(try rw[List.length_nil]at hc)<;>first|(exfalso;omega)|(exact absurd rfl hc)|conv=>whnf)|(refine CB ?_ ?_<;>intro hc<;>conv=>whnf))
  all_goals first|(exfalso;omega)|skip
  refine DK (fun z env s=>∃(i c ga n:Nat) (fa fb:Bool) (D:List GC),z=a.nodes.length-i∧i≤a.nodes.length∧D=E++((a.nodes.take i).filter (Qx b.nodes)).map (fun n=>mkC 2 n.id [])∧n=D.length∧D.length≤E.length+i∧env=[(0,.ref 3 gs 0 0),(5,.ref 5 (c0+1) 0 0),(42,.sl a.nn (vs GN.av a.nodes)),(43,.int .i64 a.nodes.length),(44,.int .i64 i)]∧s=⟨[o0,o1,.arr ga 10 fa true (vs GC.av D),.arr gs 1 true false [cl fb (.own 2 ga 0 n)],.arr c0 4 true true [a.av],.arr (c0+1) 4 true true [b.av]],c⟩) ?_ _ _ _ ⟨0,_,_,_,_,_,E,rfl,by omega,by simp,hn,by omega,by first|rfl|(rw [← lV (f:=GN.av) a.nodes];rfl),rfl⟩
  clear hn
  rintro _ _ _ ⟨i,c,ga,n,fa,fb,D,rfl,hi,hD,hn,hDl,rfl,rfl⟩
  refine⟨rfl,?_⟩
  by_cases hlt:i<a.nodes.length
  · have hs:((a.nodes.take (i+1)).filter (Qx b.nodes)).map (fun n=>mkC 2 n.id [])=((a.nodes.take i).filter (Qx b.nodes)).map (fun n=>mkC 2 n.id [])++if Qx b.nodes a.nodes[i]=true then[(fun n=>mkC 2 n.id []) a.nodes[i]]else[]:=ND hlt
    have hq:=AAi hb (id:=a.nodes[i].id)
    unfold Yk at hq
    cases hf:b.nodes.find? (isN a.nodes[i].id)with
    | none=>
      rw[hf]at hq
      have hg:Qx b.nodes a.nodes[i]=true:=by unfold Qx;rw[hf];rfl
      · rw[if_pos hg]at hs
        have hD2:D++[(fun n=>mkC 2 n.id []) a.nodes[i]]=E++((a.nodes.take (i+1)).filter (Qx b.nodes)).map (fun n=>mkC 2 n.id []):=by rw[hs,hD,List.append_assoc]
        (conv=>whnf);repeat' (first|(refine BM hq ?_;rintro _ rfl;conv=>whnf)|((with_reducible first|apply kN|apply kW|apply kX|apply kG|apply kQ);(· exact sd);conv=>whnf)|(refine DW.mk ?_ ?_<;>intro hc<;>(try rw[List.length_nil]at hc)<;>first|(exfalso;omega)|(exact absurd rfl hc)|conv=>whnf)|(refine CB ?_ ?_<;>intro hc<;>conv=>whnf))
        all_goals try (exfalso;omega)
        refine(add4 (A:=D) (x:=(fun n=>mkC 2 n.id []) a.nodes[i]) hn (by omega)).mono ?_
        rintro _ _ ⟨c2,ga2,fa2,fb2,rfl,rfl⟩
        conv=>whnf
        try (apply Ez rfl;conv=>whnf)
        (conv=>whnf);repeat' (first  |((with_reducible first|apply kN|apply kW|apply kX|apply kG|apply kQ);(· exact sd);conv=>whnf)|(refine DW.mk ?_ ?_<;>intro hc<;>(try rw[List.length_nil]at hc)<;>first|(exfalso;omega)|(exact absurd rfl hc)|conv=>whnf)|(refine CB ?_ ?_<;>intro hc<;>conv=>whnf))
        all_goals first | exact again.mk ⟨_, by omega, i + 1, _, _, _, _, _, D ++ [(fun n => mkC 2 n.id []) a.nodes[i]], rfl, by omega, hD2, hn, by omega, rfl, rfl⟩ | exact again.mk ⟨_, by omega, i + 1, _, _, _, _, _, D ++ [(fun n => mkC 2 n.id []) a.nodes[i]], rfl, by omega, hD2, rfl, by simp; omega, rfl, rfl⟩ | (exfalso; omega) | (trace_state; fail "ag")
    | some y=>
      rw[hf]at hq
      have hg:Qx b.nodes a.nodes[i]=false:=by unfold Qx;rw[hf];rfl
      · rw[if_neg (by rw[hg];exact Bool.false_ne_true),List.append_nil]at hs
        rw[← hs]at hD
        (conv=>whnf);repeat' (first|(refine BM hq ?_;rintro _ rfl;conv=>whnf)|((with_reducible first|apply kN|apply kW|apply kX|apply kG|apply kQ);(· exact sd);conv=>whnf)|(refine DW.mk ?_ ?_<;>intro hc<;>(try rw[List.length_nil]at hc)<;>first|(exfalso;omega)|(exact absurd rfl hc)|conv=>whnf)|(refine CB ?_ ?_<;>intro hc<;>conv=>whnf))
        all_goals first | exact again.mk ⟨_, by omega, i + 1, _, _, _, _, _, D, rfl, by omega, hD, hn, by omega, rfl, rfl⟩ | exact again.mk ⟨_, by omega, i + 1, _, _, _, _, _, D, rfl, by omega, hD, rfl, by simp; omega, rfl, rfl⟩ | (exfalso; omega) | (trace_state; fail "ag")
  · rw[List.take_of_length_le (by omega),hDE,List.append_assoc]at hD
    have hG:D=A++YI a b:=hD
    subst hn
    rw[← hG]
    (conv=>whnf);repeat' (first  |((with_reducible first|apply kN|apply kW|apply kX|apply kG|apply kQ);(· exact sd);conv=>whnf)|(refine DW.mk ?_ ?_<;>intro hc<;>(try rw[List.length_nil]at hc)<;>first|(exfalso;omega)|(exact absurd rfl hc)|conv=>whnf)|(refine CB ?_ ?_<;>intro hc<;>conv=>whnf))
    all_goals first | exact ⟨_, _, _, _, _, _, rfl, rfl⟩ | (exfalso; omega) | (trace_state; fail "gone")
end AI
end Go.Proofs.YtnbibfalljlmfaaGreatDoor
