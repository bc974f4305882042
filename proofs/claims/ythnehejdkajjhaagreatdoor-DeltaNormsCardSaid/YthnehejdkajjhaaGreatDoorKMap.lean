/- The methods that collect changes: the program's walks. Deletions: the program's walk. Nodes: the program's walk. Edges: the program's walk. The script between two graphs: the program. The worked example in the laws about scripts: reckoned by the kernel. The worked example, small graphs, the same changes. -/
import Derived.Test.YthnehejdkajjhaaGreatDoorKMah
import Derived.Test.YthnehejdkajjhaaGreatDoorKMan
import Derived.Test.YthnehejdkajjhaaGreatDoorKMal
import Derived.Test.YthnehejdkajjhaaGreatDoorKGrCode
import Derived.Test.YthnehejdkajjhaaGreatDoorKMam
set_option linter.unusedVariables false
set_option maxRecDepth 4000
namespace Go.Proofs.YthnehejdkajjhaaGreatDoor
namespace AI
theorem Ec {op id:Int} {l m:List (List UInt8)}:(AQ op id l m).length≤l.length:=by unfold AQ;rw[List.length_map];exact List.length_filter_le ..
theorem Fq {op id:Int} {a b:List GP}:(valuesL op id a b).length≤b.length:=by unfold valuesL;rw[List.length_map];exact List.length_filter_le ..
theorem Ahk {l:List GP} {k:List UInt8}:Qi l k=(DX l k).av:=by
 unfold Qi DX
 have e:isK k=Zx k:=rfl
 rw[e]
 cases l.find? (Zx k)<;>rfl
theorem Arh {a b:GV} (ha:a.ok∧GY 12 a.av) (hb:b.ok∧GY 12 b.av):Ag (Ac tab) 184 [a.av,b.av] (· =.int .i64 (EL 12 a b)):=Ad2 12 ha.1 hb.1 (Ku ha.2) (Ku hb.2)
theorem AmO {l:List GP} {nn:Bool} (h:IK l) {k:List UInt8}:Ag (Ac tab) 185 [.sl nn (vs GP.av l),.str k] (· =(DX l k).av):=by
 have:=Ari (nn:=nn) (k:=k) (by have:=h.1;omega) h.2
 rwa [Ahk]at this
theorem Yv {l:List GP} {nn:Bool} (hl:l.length≤2000):Ag (Ac tab) 111 [.sl nn (vs GP.av l)] (· =.sl true (vs .str (keysOf l))):=by
 refine Ad rfl rfl ?_
 (conv=>whnf);repeat' (first  |refine kA ?_;conv=>whnf|(apply Br.mk<;>intro hc<;>first|exact hc.elim|conv=>whnf)|refine kB ?_)
 refine Af (fun z env s=>∃(i c:Nat) (D:List (List UInt8)),z=l.length-i∧i≤l.length∧D=UU l i∧D.length=l.length∧env=[(3,.own 0 0 0 l.length),(9,.sl nn (vs GP.av l)),(10,.int .i64 l.length),(11,.int .i64 i)]∧s=⟨[.arr 0 1 true true (vs .str D)],c⟩) ?_ _ _ _ ⟨0,_,UU l 0,rfl,by omega,rfl,AgZ (by omega),by first|rfl|(rw [← lV (f:=GP.av) l];rfl),by first|(rw [Ag1];rfl)|(rw [Ag1,←lV (f:=GP.av) l];rfl)⟩
 rintro _ _ _ ⟨i,c,D,rfl,hi,hD,hDl,rfl,rfl⟩
 refine⟨rfl,?_⟩
 by_cases hlt:i<l.length
 ·have hs:UU l (i+1)=D.set i l[i].key:=by rw[hD,Afc hlt]
  (conv=>whnf);repeat' (first|((with_reducible show AB _ _ _);refine BM (i) ?_;conv=>whnf)|(with_reducible show AB _ _ _;refine nV ?_;omega)|((with_reducible show eqK _ _);refine tV (es:=1) (fun _=>rfl) (i) ?_;conv=>whnf)|refine kA ?_;conv=>whnf|(apply Br.mk<;>intro hc<;>first|exact hc.elim|conv=>whnf)|refine kB ?_)
  all_goals first|exact again.mk ⟨_,by omega,i+1,_,D.set i l[i].key,rfl,by omega,hs.symm,by simpa using hDl,rfl,rfl⟩|(exfalso;omega)
 ·have e:i=l.length:=by omega
  subst e
  rw[Ag0]at hD
  subst hD
  (conv=>whnf);repeat' (first  |refine kA ?_;conv=>whnf|(apply Br.mk<;>intro hc<;>first|exact hc.elim|conv=>whnf)|refine kB ?_)
  all_goals first|exact congrArg (AV.sl true) (by rw[Ik,List.drop_zero,List.take_of_length_le (by omega)])
theorem add4 {o0 o1 r1 r2 r3 r4:Obj} {ga gs c n:Nat} {fa fb:Bool} {A:List GC} {x:GC} (hn:n=A.length) (hA:A.length≤100000):Am (Ac tab) 108 [.ref 3 gs 0 0,x.av] ⟨[o0,o1,.arr ga 10 fa true (vs GC.av A),.arr gs 1 true false [cl fb (.own 2 ga 0 n)],r1,r2,r3,r4],c⟩ (fun out s'=>∃(c' ga':Nat) (WS WT:Bool),out=.ok (.BG [])∧s'=⟨[o0,o1,.arr ga' 10 WS true (vs GC.av (A++[x])),.arr gs 1 true false [cl WT (.own 2 ga' 0 ((A++[x])).length)],r1,r2,r3,r4],c'⟩):=by
 rw[show (A++[x]).length=A.length+1 by simp]
 refine Ah rfl rfl ?_
 cases fb
 all_goals
  (conv=>whnf);repeat' (first|(refine Dt (f:=GC.av) (l:=A) (x:=x) Dv hn (by omega) ?_;conv=>whnf)|refine kA ?_;conv=>whnf|(apply Br.mk<;>intro hc<;>first|exact hc.elim|conv=>whnf)|refine kB ?_)
  exact⟨_,_,_,false,rfl,rfl⟩
theorem Arj {o0 o1 r1 r2 r3 r4 r5 r6:Obj} {ga gs c n:Nat} {fa fb:Bool} {A:List GC} {x:GC} (hn:n=A.length) (hA:A.length≤100000):Am (Ac tab) 108 [.ref 3 gs 0 0,x.av] ⟨[o0,o1,.arr ga 10 fa true (vs GC.av A),.arr gs 1 true false [cl fb (.own 2 ga 0 n)],r1,r2,r3,r4,r5,r6],c⟩ (fun out s'=>∃(c' ga':Nat) (WS WT:Bool),out=.ok (.BG [])∧s'=⟨[o0,o1,.arr ga' 10 WS true (vs GC.av (A++[x])),.arr gs 1 true false [cl WT (.own 2 ga' 0 ((A++[x])).length)],r1,r2,r3,r4,r5,r6],c'⟩):=by
 rw[show (A++[x]).length=A.length+1 by simp]
 refine Ah rfl rfl ?_
 cases fb
 all_goals
  (conv=>whnf);repeat' (first|(refine Dt (f:=GC.av) (l:=A) (x:=x) Dv hn (by omega) ?_;conv=>whnf)|refine kA ?_;conv=>whnf|(apply Br.mk<;>intro hc<;>first|exact hc.elim|conv=>whnf)|refine kB ?_)
  exact⟨_,_,_,false,rfl,rfl⟩
theorem AuR {o0 o1 r1 r2 r3 r4 r5 r6 r7:Obj} {ga gs c n:Nat} {fa fb:Bool} {A:List GC} {x:GC} (hn:n=A.length) (hA:A.length≤100000):Am (Ac tab) 108 [.ref 3 gs 0 0,x.av] ⟨[o0,o1,.arr ga 10 fa true (vs GC.av A),.arr gs 1 true false [cl fb (.own 2 ga 0 n)],r1,r2,r3,r4,r5,r6,r7],c⟩ (fun out s'=>∃(c' ga':Nat) (WS WT:Bool),out=.ok (.BG [])∧s'=⟨[o0,o1,.arr ga' 10 WS true (vs GC.av (A++[x])),.arr gs 1 true false [cl WT (.own 2 ga' 0 ((A++[x])).length)],r1,r2,r3,r4,r5,r6,r7],c'⟩):=by
 rw[show (A++[x]).length=A.length+1 by simp]
 refine Ah rfl rfl ?_
 cases fb
 all_goals
  (conv=>whnf);repeat' (first|(refine Dt (f:=GC.av) (l:=A) (x:=x) Dv hn (by omega) ?_;conv=>whnf)|refine kA ?_;conv=>whnf|(apply Br.mk<;>intro hc<;>first|exact hc.elim|conv=>whnf)|refine kB ?_)
  exact⟨_,_,_,false,rfl,rfl⟩
theorem add8 {o0 o1 r1 r2 r3 r4 r5 r6 r7 r8:Obj} {ga gs c n:Nat} {fa fb:Bool} {A:List GC} {x:GC} (hn:n=A.length) (hA:A.length≤100000):Am (Ac tab) 108 [.ref 3 gs 0 0,x.av] ⟨[o0,o1,.arr ga 10 fa true (vs GC.av A),.arr gs 1 true false [cl fb (.own 2 ga 0 n)],r1,r2,r3,r4,r5,r6,r7,r8],c⟩ (fun out s'=>∃(c' ga':Nat) (WS WT:Bool),out=.ok (.BG [])∧s'=⟨[o0,o1,.arr ga' 10 WS true (vs GC.av (A++[x])),.arr gs 1 true false [cl WT (.own 2 ga' 0 ((A++[x])).length)],r1,r2,r3,r4,r5,r6,r7,r8],c'⟩):=by
 rw[show (A++[x]).length=A.length+1 by simp]
 refine Ah rfl rfl ?_
 cases fb
 all_goals
  (conv=>whnf);repeat' (first|(refine Dt (f:=GC.av) (l:=A) (x:=x) Dv hn (by omega) ?_;conv=>whnf)|refine kA ?_;conv=>whnf|(apply Br.mk<;>intro hc<;>first|exact hc.elim|conv=>whnf)|refine kB ?_)
  exact⟨_,_,_,false,rfl,rfl⟩
theorem AuS {o0 o1 r1 r2 r3 r4 r5 r6 r7 r8 r9:Obj} {ga gs c n:Nat} {fa fb:Bool} {A:List GC} {x:GC} (hn:n=A.length) (hA:A.length≤100000):Am (Ac tab) 108 [.ref 3 gs 0 0,x.av] ⟨[o0,o1,.arr ga 10 fa true (vs GC.av A),.arr gs 1 true false [cl fb (.own 2 ga 0 n)],r1,r2,r3,r4,r5,r6,r7,r8,r9],c⟩ (fun out s'=>∃(c' ga':Nat) (WS WT:Bool),out=.ok (.BG [])∧s'=⟨[o0,o1,.arr ga' 10 WS true (vs GC.av (A++[x])),.arr gs 1 true false [cl WT (.own 2 ga' 0 ((A++[x])).length)],r1,r2,r3,r4,r5,r6,r7,r8,r9],c'⟩):=by
 rw[show (A++[x]).length=A.length+1 by simp]
 refine Ah rfl rfl ?_
 cases fb
 all_goals
  (conv=>whnf);repeat' (first|(refine Dt (f:=GC.av) (l:=A) (x:=x) Dv hn (by omega) ?_;conv=>whnf)|refine kA ?_;conv=>whnf|(apply Br.mk<;>intro hc<;>first|exact hc.elim|conv=>whnf)|refine kB ?_)
  exact⟨_,_,_,false,rfl,rfl⟩
theorem AcJ {o0 o1 r1 r2 r3 r4 r5 r6:Obj} {ga gs c n:Nat} {fa fb:Bool} {A:List GC} {op id:Int} {l m:List (List UInt8)} {nl nm:Bool} (hn:n=A.length) (hA:A.length≤90000) (hl:l.length≤2000) (hm:m.length≤2000):
 Am (Ac tab) 110 [.ref 3 gs 0 0,.int .i64 op,.int .i64 id,.sl nl (vs .str l),.sl nm (vs .str m)] ⟨[o0,o1,.arr ga 10 fa true (vs GC.av A),.arr gs 1 true false [cl fb (.own 2 ga 0 n)],r1,r2,r3,r4,r5,r6],c⟩ (fun out s'=>∃(c' ga':Nat) (WS WT:Bool),out=.ok (.BG [])∧s'=⟨[o0,o1,.arr ga' 10 WS true (vs GC.av (A++AQ op id l m)),.arr gs 1 true false [cl WT (.own 2 ga' 0 ((A++AQ op id l m)).length)],r1,r2,r3,r4,r5,r6],c'⟩):=by
 refine Ah rfl rfl ?_
 (conv=>whnf);repeat' (first  |refine kA ?_;conv=>whnf|(apply Br.mk<;>intro hc<;>first|exact hc.elim|conv=>whnf)|refine kB ?_)
 refine Af (fun z env s=>∃(i c ga n:Nat) (fa fb:Bool) (D:List GC),z=l.length-i∧i≤l.length∧D=A++AQ op id (l.take i) m∧n=D.length∧D.length≤A.length+i∧env=[(0,.ref 3 gs 0 0),(1,.int .i64 op),(2,.int .i64 id),(4,.sl nm (vs .str m)),(12,.sl nl (vs .str l)),(13,.int .i64 l.length),(14,.int .i64 i)]∧s=⟨[o0,o1,.arr ga 10 fa true (vs GC.av D),.arr gs 1 true false [cl fb (.own 2 ga 0 n)],r1,r2,r3,r4,r5,r6],c⟩) ?_ _ _ _ ⟨0,_,_,_,_,_,A,rfl,by omega,by simp[AQ],hn,by omega,by first|rfl|(rw [← lV (f:=AV.str) l];rfl),rfl⟩
 clear hn
 rintro _ _ _ ⟨i,c,ga,n,fa,fb,D,rfl,hi,hD,hn,hDl,rfl,rfl⟩
 refine⟨rfl,?_⟩
 by_cases hlt:i<l.length
 ·have hs:AQ op id (l.take (i+1)) m=AQ op id (l.take i) m++if decide (l[i]∉m)=true then[DU op id l[i]]else[]:=DK hlt
  have hcs:=Ahl (l:=m) (x:=l[i]) (nn:=nm) (by omega)
  by_cases hx:l[i]∈m
  ·rw[if_neg (by simpa using hx),List.append_nil]at hs
   rw[← hs]at hD
   rw[decide_eq_true hx]at hcs
   (conv=>whnf);repeat' (first|(refine Aa hcs ?_;rintro _ rfl;conv=>whnf)|refine kA ?_;conv=>whnf|(apply Br.mk<;>intro hc<;>first|exact hc.elim|conv=>whnf)|refine kB ?_)
   all_goals first|exact again.mk ⟨_,by omega,i+1,_,_,_,_,_,D,rfl,by omega,hD,hn,by omega,rfl,rfl⟩|(exfalso;omega)
  ·rw[if_pos (by simpa using hx)]at hs
   have hD2:D++[DU op id l[i]]=A++AQ op id (l.take (i+1)) m:=by rw[hs,hD,List.append_assoc]
   rw[decide_eq_false hx]at hcs
   (conv=>whnf);repeat' (first|(refine Aa hcs ?_;rintro _ rfl;conv=>whnf)|refine kA ?_;conv=>whnf|(apply Br.mk<;>intro hc<;>first|exact hc.elim|conv=>whnf)|refine kB ?_)
   refine(Arj (A:=D) (x:=DU op id l[i]) hn (by omega)).mono ?_
   rintro _ _ ⟨c2,ga2,fa2,fb2,rfl,rfl⟩
   conv=>whnf
   try (apply Ae rfl;conv=>whnf)
   (conv=>whnf);repeat' (first  |refine kA ?_;conv=>whnf|(apply Br.mk<;>intro hc<;>first|exact hc.elim|conv=>whnf)|refine kB ?_)
   all_goals first|exact again.mk ⟨_,by omega,i+1,_,_,_,_,_,D++[DU op id l[i]],rfl,by omega,hD2,rfl,by simp;omega,rfl,rfl⟩|(exfalso;omega)
 ·rw[List.take_of_length_le (by omega)]at hD
  subst hn
  rw[hD]
  (conv=>whnf);repeat' (first  |refine kA ?_;conv=>whnf|(apply Br.mk<;>intro hc<;>first|exact hc.elim|conv=>whnf)|refine kB ?_)
  exact⟨_,_,_,_,rfl,rfl⟩
theorem names8 {o0 o1 r1 r2 r3 r4 r5 r6 r7 r8:Obj} {ga gs c n:Nat} {fa fb:Bool} {A:List GC} {op id:Int} {l m:List (List UInt8)} {nl nm:Bool} (hn:n=A.length) (hA:A.length≤90000) (hl:l.length≤2000) (hm:m.length≤2000):
 Am (Ac tab) 110 [.ref 3 gs 0 0,.int .i64 op,.int .i64 id,.sl nl (vs .str l),.sl nm (vs .str m)] ⟨[o0,o1,.arr ga 10 fa true (vs GC.av A),.arr gs 1 true false [cl fb (.own 2 ga 0 n)],r1,r2,r3,r4,r5,r6,r7,r8],c⟩ (fun out s'=>∃(c' ga':Nat) (WS WT:Bool),out=.ok (.BG [])∧s'=⟨[o0,o1,.arr ga' 10 WS true (vs GC.av (A++AQ op id l m)),.arr gs 1 true false [cl WT (.own 2 ga' 0 ((A++AQ op id l m)).length)],r1,r2,r3,r4,r5,r6,r7,r8],c'⟩):=by
 refine Ah rfl rfl ?_
 (conv=>whnf);repeat' (first  |refine kA ?_;conv=>whnf|(apply Br.mk<;>intro hc<;>first|exact hc.elim|conv=>whnf)|refine kB ?_)
 refine Af (fun z env s=>∃(i c ga n:Nat) (fa fb:Bool) (D:List GC),z=l.length-i∧i≤l.length∧D=A++AQ op id (l.take i) m∧n=D.length∧D.length≤A.length+i∧env=[(0,.ref 3 gs 0 0),(1,.int .i64 op),(2,.int .i64 id),(4,.sl nm (vs .str m)),(12,.sl nl (vs .str l)),(13,.int .i64 l.length),(14,.int .i64 i)]∧s=⟨[o0,o1,.arr ga 10 fa true (vs GC.av D),.arr gs 1 true false [cl fb (.own 2 ga 0 n)],r1,r2,r3,r4,r5,r6,r7,r8],c⟩) ?_ _ _ _ ⟨0,_,_,_,_,_,A,rfl,by omega,by simp[AQ],hn,by omega,by first|rfl|(rw [← lV (f:=AV.str) l];rfl),rfl⟩
 clear hn
 rintro _ _ _ ⟨i,c,ga,n,fa,fb,D,rfl,hi,hD,hn,hDl,rfl,rfl⟩
 refine⟨rfl,?_⟩
 by_cases hlt:i<l.length
 ·have hs:AQ op id (l.take (i+1)) m=AQ op id (l.take i) m++if decide (l[i]∉m)=true then[DU op id l[i]]else[]:=DK hlt
  have hcs:=Ahl (l:=m) (x:=l[i]) (nn:=nm) (by omega)
  by_cases hx:l[i]∈m
  ·rw[if_neg (by simpa using hx),List.append_nil]at hs
   rw[← hs]at hD
   rw[decide_eq_true hx]at hcs
   (conv=>whnf);repeat' (first|(refine Aa hcs ?_;rintro _ rfl;conv=>whnf)|refine kA ?_;conv=>whnf|(apply Br.mk<;>intro hc<;>first|exact hc.elim|conv=>whnf)|refine kB ?_)
   all_goals first|exact again.mk ⟨_,by omega,i+1,_,_,_,_,_,D,rfl,by omega,hD,hn,by omega,rfl,rfl⟩|(exfalso;omega)
  ·rw[if_pos (by simpa using hx)]at hs
   have hD2:D++[DU op id l[i]]=A++AQ op id (l.take (i+1)) m:=by rw[hs,hD,List.append_assoc]
   rw[decide_eq_false hx]at hcs
   (conv=>whnf);repeat' (first|(refine Aa hcs ?_;rintro _ rfl;conv=>whnf)|refine kA ?_;conv=>whnf|(apply Br.mk<;>intro hc<;>first|exact hc.elim|conv=>whnf)|refine kB ?_)
   refine(add8 (A:=D) (x:=DU op id l[i]) hn (by omega)).mono ?_
   rintro _ _ ⟨c2,ga2,fa2,fb2,rfl,rfl⟩
   conv=>whnf
   try (apply Ae rfl;conv=>whnf)
   (conv=>whnf);repeat' (first  |refine kA ?_;conv=>whnf|(apply Br.mk<;>intro hc<;>first|exact hc.elim|conv=>whnf)|refine kB ?_)
   all_goals first|exact again.mk ⟨_,by omega,i+1,_,_,_,_,_,D++[DU op id l[i]],rfl,by omega,hD2,rfl,by simp;omega,rfl,rfl⟩|(exfalso;omega)
 ·rw[List.take_of_length_le (by omega)]at hD
  subst hn
  rw[hD]
  (conv=>whnf);repeat' (first  |refine kA ?_;conv=>whnf|(apply Br.mk<;>intro hc<;>first|exact hc.elim|conv=>whnf)|refine kB ?_)
  exact⟨_,_,_,_,rfl,rfl⟩
theorem AkK {o0 o1 r1 r2 r3 r4 r5 r6:Obj} {ga gs c n:Nat} {fa fb:Bool} {A:List GC} {op id:Int} {a b:List GP} {na nb:Bool} (hn:n=A.length) (hA:A.length≤90000) (ha:IK a) (hb:IK b):
 Am (Ac tab) 112 [.ref 3 gs 0 0,.int .i64 op,.int .i64 id,.sl na (vs GP.av a),.sl nb (vs GP.av b)] ⟨[o0,o1,.arr ga 10 fa true (vs GC.av A),.arr gs 1 true false [cl fb (.own 2 ga 0 n)],r1,r2,r3,r4,r5,r6],c⟩ (fun out s'=>∃(c' ga':Nat) (WS WT:Bool),out=.ok (.BG [])∧s'=⟨[o0,o1,.arr ga' 10 WS true (vs GC.av (A++valuesL op id a b)),.arr gs 1 true false [cl WT (.own 2 ga' 0 ((A++valuesL op id a b)).length)],r1,r2,r3,r4,r5,r6],c'⟩):=by
 have hbl:=hb.1
 refine Ah rfl rfl ?_
 (conv=>whnf);repeat' (first  |refine kA ?_;conv=>whnf|(apply Br.mk<;>intro hc<;>first|exact hc.elim|conv=>whnf)|refine kB ?_)
 refine Af (fun z env s=>∃(i c ga n:Nat) (fa fb:Bool) (D:List GC),z=b.length-i∧i≤b.length∧D=A++valuesL op id a (b.take i)∧n=D.length∧D.length≤A.length+i∧env=[(0,.ref 3 gs 0 0),(1,.int .i64 op),(2,.int .i64 id),(3,.sl na (vs GP.av a)),(12,.sl nb (vs GP.av b)),(13,.int .i64 b.length),(14,.int .i64 i)]∧s=⟨[o0,o1,.arr ga 10 fa true (vs GC.av D),.arr gs 1 true false [cl fb (.own 2 ga 0 n)],r1,r2,r3,r4,r5,r6],c⟩) ?_ _ _ _ ⟨0,_,_,_,_,_,A,rfl,by omega,by simp[valuesL],hn,by omega,by first|rfl|(rw [← lV (f:=GP.av) b];rfl),rfl⟩
 clear hn
 rintro _ _ _ ⟨i,c,ga,n,fa,fb,D,rfl,hi,hD,hn,hDl,rfl,rfl⟩
 refine⟨rfl,?_⟩
 by_cases hlt:i<b.length
 ·have hs:valuesL op id a (b.take (i+1))=valuesL op id a (b.take i)++if decide (EL 12 (DX a b[i].key) b[i].v≠0)=true then[⟨op,id,0,0,b[i].key,b[i].v⟩]else[]:=DK hlt
  have hp:=AmO (nn:=na) ha (k:=b[i].key)
  have hb0:=hb.2 _ (List.getElem_mem hlt)
  have hcv:=Arh (Qz ha.2 b[i].key) ⟨hb0.1.2,hb0.2⟩
  by_cases hx:EL 12 (DX a b[i].key) b[i].v=0
  ·rw[if_neg (by simpa using hx),List.append_nil]at hs
   rw[← hs]at hD
   (conv=>whnf);repeat' (first|((first|refine Aa hp ?_|refine Aa hcv ?_);rintro _ rfl;conv=>whnf)|refine kA ?_;conv=>whnf|(apply Br.mk<;>intro hc<;>first|exact hc.elim|conv=>whnf)|refine kB ?_)
   all_goals first|exact again.mk ⟨_,by omega,i+1,_,_,_,_,_,D,rfl,by omega,hD,hn,by omega,rfl,rfl⟩|(exfalso;omega)
  ·rw[if_pos (by simpa using hx)]at hs
   have hD2:D++[⟨op,id,0,0,b[i].key,b[i].v⟩]=A++valuesL op id a (b.take (i+1)):=by rw[hs,hD,List.append_assoc]
   (conv=>whnf);repeat' (first|((first|refine Aa hp ?_|refine Aa hcv ?_);rintro _ rfl;conv=>whnf)|refine kA ?_;conv=>whnf|(apply Br.mk<;>intro hc<;>first|exact hc.elim|conv=>whnf)|refine kB ?_)
   all_goals try (exfalso;omega)
   refine(AuR (A:=D) (x:=⟨op,id,0,0,b[i].key,b[i].v⟩) hn (by omega)).mono ?_
   rintro _ _ ⟨c2,ga2,fa2,fb2,rfl,rfl⟩
   conv=>whnf
   try (apply Ae rfl;conv=>whnf)
   (conv=>whnf);repeat' (first  |refine kA ?_;conv=>whnf|(apply Br.mk<;>intro hc<;>first|exact hc.elim|conv=>whnf)|refine kB ?_)
   all_goals first|exact again.mk ⟨_,by omega,i+1,_,_,_,_,_,D++[⟨op,id,0,0,b[i].key,b[i].v⟩],rfl,by omega,hD2,rfl,by simp;omega,rfl,rfl⟩|(exfalso;omega)
 ·rw[List.take_of_length_le (by omega)]at hD
  subst hn
  rw[hD]
  (conv=>whnf);repeat' (first  |refine kA ?_;conv=>whnf|(apply Br.mk<;>intro hc<;>first|exact hc.elim|conv=>whnf)|refine kB ?_)
  exact⟨_,_,_,_,rfl,rfl⟩
theorem ZH {o0 o1 r1 r2 r3 r4 r5 r6 r7 r8:Obj} {ga gs c n:Nat} {fa fb:Bool} {A:List GC} {op id:Int} {a b:List GP} {na nb:Bool} (hn:n=A.length) (hA:A.length≤90000) (ha:IK a) (hb:IK b):
 Am (Ac tab) 112 [.ref 3 gs 0 0,.int .i64 op,.int .i64 id,.sl na (vs GP.av a),.sl nb (vs GP.av b)] ⟨[o0,o1,.arr ga 10 fa true (vs GC.av A),.arr gs 1 true false [cl fb (.own 2 ga 0 n)],r1,r2,r3,r4,r5,r6,r7,r8],c⟩ (fun out s'=>∃(c' ga':Nat) (WS WT:Bool),out=.ok (.BG [])∧s'=⟨[o0,o1,.arr ga' 10 WS true (vs GC.av (A++valuesL op id a b)),.arr gs 1 true false [cl WT (.own 2 ga' 0 ((A++valuesL op id a b)).length)],r1,r2,r3,r4,r5,r6,r7,r8],c'⟩):=by
 have hbl:=hb.1
 refine Ah rfl rfl ?_
 (conv=>whnf);repeat' (first  |refine kA ?_;conv=>whnf|(apply Br.mk<;>intro hc<;>first|exact hc.elim|conv=>whnf)|refine kB ?_)
 refine Af (fun z env s=>∃(i c ga n:Nat) (fa fb:Bool) (D:List GC),z=b.length-i∧i≤b.length∧D=A++valuesL op id a (b.take i)∧n=D.length∧D.length≤A.length+i∧env=[(0,.ref 3 gs 0 0),(1,.int .i64 op),(2,.int .i64 id),(3,.sl na (vs GP.av a)),(12,.sl nb (vs GP.av b)),(13,.int .i64 b.length),(14,.int .i64 i)]∧s=⟨[o0,o1,.arr ga 10 fa true (vs GC.av D),.arr gs 1 true false [cl fb (.own 2 ga 0 n)],r1,r2,r3,r4,r5,r6,r7,r8],c⟩) ?_ _ _ _ ⟨0,_,_,_,_,_,A,rfl,by omega,by simp[valuesL],hn,by omega,by first|rfl|(rw [← lV (f:=GP.av) b];rfl),rfl⟩
 clear hn
 rintro _ _ _ ⟨i,c,ga,n,fa,fb,D,rfl,hi,hD,hn,hDl,rfl,rfl⟩
 refine⟨rfl,?_⟩
 by_cases hlt:i<b.length
 ·have hs:valuesL op id a (b.take (i+1))=valuesL op id a (b.take i)++if decide (EL 12 (DX a b[i].key) b[i].v≠0)=true then[⟨op,id,0,0,b[i].key,b[i].v⟩]else[]:=DK hlt
  have hp:=AmO (nn:=na) ha (k:=b[i].key)
  have hb0:=hb.2 _ (List.getElem_mem hlt)
  have hcv:=Arh (Qz ha.2 b[i].key) ⟨hb0.1.2,hb0.2⟩
  by_cases hx:EL 12 (DX a b[i].key) b[i].v=0
  ·rw[if_neg (by simpa using hx),List.append_nil]at hs
   rw[← hs]at hD
   (conv=>whnf);repeat' (first|((first|refine Aa hp ?_|refine Aa hcv ?_);rintro _ rfl;conv=>whnf)|refine kA ?_;conv=>whnf|(apply Br.mk<;>intro hc<;>first|exact hc.elim|conv=>whnf)|refine kB ?_)
   all_goals first|exact again.mk ⟨_,by omega,i+1,_,_,_,_,_,D,rfl,by omega,hD,hn,by omega,rfl,rfl⟩|(exfalso;omega)
  ·rw[if_pos (by simpa using hx)]at hs
   have hD2:D++[⟨op,id,0,0,b[i].key,b[i].v⟩]=A++valuesL op id a (b.take (i+1)):=by rw[hs,hD,List.append_assoc]
   (conv=>whnf);repeat' (first|((first|refine Aa hp ?_|refine Aa hcv ?_);rintro _ rfl;conv=>whnf)|refine kA ?_;conv=>whnf|(apply Br.mk<;>intro hc<;>first|exact hc.elim|conv=>whnf)|refine kB ?_)
   all_goals try (exfalso;omega)
   refine(AuS (A:=D) (x:=⟨op,id,0,0,b[i].key,b[i].v⟩) hn (by omega)).mono ?_
   rintro _ _ ⟨c2,ga2,fa2,fb2,rfl,rfl⟩
   conv=>whnf
   try (apply Ae rfl;conv=>whnf)
   (conv=>whnf);repeat' (first  |refine kA ?_;conv=>whnf|(apply Br.mk<;>intro hc<;>first|exact hc.elim|conv=>whnf)|refine kB ?_)
   all_goals first|exact again.mk ⟨_,by omega,i+1,_,_,_,_,_,D++[⟨op,id,0,0,b[i].key,b[i].v⟩],rfl,by omega,hD2,rfl,by simp;omega,rfl,rfl⟩|(exfalso;omega)
 ·rw[List.take_of_length_le (by omega)]at hD
  subst hn
  rw[hD]
  (conv=>whnf);repeat' (first  |refine kA ?_;conv=>whnf|(apply Br.mk<;>intro hc<;>first|exact hc.elim|conv=>whnf)|refine kB ?_)
  exact⟨_,_,_,_,rfl,rfl⟩
theorem ApQ {x y:GE}:Ag (Ac tab) 107 [x.av,y.av] (· =.bool (Ci x y)):=by
 refine Ad rfl rfl ?_
 (conv=>whnf);repeat' (first  |refine kA ?_;conv=>whnf|(apply Br.mk<;>intro hc<;>first|exact hc.elim|conv=>whnf)|refine kB ?_)
 all_goals first|exact Bh (fun h=>absurd h.1 (by assumption))|exact Bh (fun h=>absurd h.2.1 (by assumption))|exact Bh (fun h=>absurd h.2.2 (by assumption))|exact Ar (fun h=>h ⟨by assumption,by assumption,by assumption⟩)
theorem XG (x y:GE):Ci x y=Ci y x:=by
 unfold Ci
 exact decide_eq_decide.2 (not_congr ⟨fun h=>⟨h.1.symm,h.2.1.symm,h.2.2.symm⟩,fun h=>⟨h.1.symm,h.2.1.symm,h.2.2.symm⟩⟩)
theorem CX.Ath {g:GG} (h:CX g):∀n∈g.nodes,AiQ n:=fun n hn=>⟨by have:=(h.nodes n hn).2.1;omega,(h.nodes n hn).1.2.2.1,(h.nodes n hn).1.2.2.2.2.2.1,(h.nodes n hn).2.2.2.1⟩
theorem CX.Ati {g:GG} (h:CX g):∀n∈g.edges,AiR n:=fun n hn=>⟨(h.edges n hn).1.2.2.2.2.2.1,(h.edges n hn).2.2.1⟩
theorem AjI {g:GG} (h:CX g) {id:Int}:Ag (Ac tab) 106 [g.av,.int .i64 id] (· =JE g.edges id):=AsW (by have:=h.en;omega) h.Ati
theorem Ai9 {g:GG} (h:CX g) {id:Int}:Ag (Ac tab) 109 [g.av,.int .i64 id] (· =Jj g.nodes id):=AsV (by have:=h.nn;omega) h.Ath
set_option maxHeartbeats 1000000 in
theorem Ata {o0 o1:Obj} {ga gs c0 n:Nat} {fa fb:Bool} {A:List GC} {a b:GG} (hn:n=A.length) (hA:A.length≤10) (ha:CX a) (hb:CX b):
 Am (Ac tab) 65 [.ref 3 gs 0 0,a.av,b.av] ⟨[o0,o1,.arr ga 10 fa true (vs GC.av A),.arr gs 1 true false [cl fb (.own 2 ga 0 n)]],c0⟩ (fun out s'=>∃(c' ga':Nat) (WS WT:Bool) (r1 r2:Obj),out=.ok (.BG [])∧s'=⟨[o0,o1,.arr ga' 10 WS true (vs GC.av (A++H8 a b)),.arr gs 1 true false [cl WT (.own 2 ga' 0 (A++H8 a b).length)],r1,r2],c'⟩):=by
 have a1:=ha.nn
 have a2:=ha.en
 have b1:=hb.nn
 have b2:=hb.en
 refine Ah rfl rfl ?_
 (conv=>whnf);repeat' (first  |refine kA ?_;conv=>whnf|(apply Br.mk<;>intro hc<;>first|exact hc.elim|conv=>whnf)|refine kB ?_)
 refine Af (fun z env s=>∃(i c ga n:Nat) (fa fb:Bool) (D:List GC),z=a.edges.length-i∧i≤a.edges.length∧D=A++((a.edges.take i).filter (BZ b.edges)).map (fun x=>DU 7 x.id [])∧n=D.length∧D.length≤A.length+i∧env=[(0,.ref 3 gs 0 0),(4,.ref 4 c0 0 0),(5,.ref 5 (c0+1) 0 0),(15,.sl a.en (vs GE.av a.edges)),(16,.int .i64 a.edges.length),(17,.int .i64 i)]∧s=⟨[o0,o1,.arr ga 10 fa true (vs GC.av D),.arr gs 1 true false [cl fb (.own 2 ga 0 n)],.arr c0 4 true true [a.av],.arr (c0+1) 4 true true [b.av]],c⟩) ?_ _ _ _ ⟨0,_,_,_,_,_,A,rfl,by omega,by simp,hn,by omega,by first|rfl|(rw [← lV (f:=GE.av) a.edges];rfl),rfl⟩
 clear hn
 rintro _ _ _ ⟨i,c,ga,n,fa,fb,D,rfl,hi,hD,hn,hDl,rfl,rfl⟩
 refine⟨rfl,?_⟩
 by_cases hlt:i<a.edges.length
 ·have hs:((a.edges.take (i+1)).filter (BZ b.edges)).map (fun x=>DU 7 x.id [])=((a.edges.take i).filter (BZ b.edges)).map (fun x=>DU 7 x.id [])++if BZ b.edges a.edges[i]=true then[(fun x=>DU 7 x.id []) a.edges[i]]else[]:=DK hlt
  have hq:=AjI hb (id:=a.edges[i].id)
  unfold JE at hq
  cases hf:b.edges.find? (XI a.edges[i].id)with
  |none=>
   rw[hf]at hq
   have hg:BZ b.edges a.edges[i]=true:=by unfold BZ;rw[hf]
   ·rw[if_pos hg]at hs
    have hD2:D++[(fun x=>DU 7 x.id []) a.edges[i]]=A++((a.edges.take (i+1)).filter (BZ b.edges)).map (fun x=>DU 7 x.id []):=by rw[hs,hD,List.append_assoc]
    (conv=>whnf);repeat' (first|(refine Aa hq ?_;rintro _ rfl;conv=>whnf)|refine kA ?_;conv=>whnf|(apply Br.mk<;>intro hc<;>first|exact hc.elim|conv=>whnf)|refine kB ?_)
    all_goals try (exfalso;omega)
    refine(add4 (A:=D) (x:=(fun x=>DU 7 x.id []) a.edges[i]) hn (by omega)).mono ?_
    rintro _ _ ⟨c2,ga2,fa2,fb2,rfl,rfl⟩
    conv=>whnf
    try (apply Ae rfl;conv=>whnf)
    (conv=>whnf);repeat' (first  |refine kA ?_;conv=>whnf|(apply Br.mk<;>intro hc<;>first|exact hc.elim|conv=>whnf)|refine kB ?_)
    all_goals first|exact again.mk ⟨_,by omega,i+1,_,_,_,_,_,D++[(fun x=>DU 7 x.id []) a.edges[i]],rfl,by omega,hD2,hn,by omega,rfl,rfl⟩|exact again.mk ⟨_,by omega,i+1,_,_,_,_,_,D++[(fun x=>DU 7 x.id []) a.edges[i]],rfl,by omega,hD2,rfl,by simp;omega,rfl,rfl⟩|(exfalso;omega)
  |some y=>
   rw[hf]at hq
   have hg:BZ b.edges a.edges[i]=Ci a.edges[i] y:=by unfold BZ;rw[hf]
   have hm:=ApQ (x:=a.edges[i]) (y:=y)
   cases hmv:Ci a.edges[i] y
   ·rw[hmv]at hg hm
    ·rw[if_neg (by rw[hg];exact Bool.false_ne_true),List.append_nil]at hs
     rw[← hs]at hD
     (conv=>whnf);repeat' (first|((first|refine Aa hq ?_|refine Aa hm ?_);rintro _ rfl;conv=>whnf)|refine kA ?_;conv=>whnf|(apply Br.mk<;>intro hc<;>first|exact hc.elim|conv=>whnf)|refine kB ?_)
     all_goals first|exact again.mk ⟨_,by omega,i+1,_,_,_,_,_,D,rfl,by omega,hD,hn,by omega,rfl,rfl⟩|exact again.mk ⟨_,by omega,i+1,_,_,_,_,_,D,rfl,by omega,hD,rfl,by simp;omega,rfl,rfl⟩|(exfalso;omega)
   ·rw[hmv]at hg hm
    ·rw[if_pos hg]at hs
     have hD2:D++[(fun x=>DU 7 x.id []) a.edges[i]]=A++((a.edges.take (i+1)).filter (BZ b.edges)).map (fun x=>DU 7 x.id []):=by rw[hs,hD,List.append_assoc]
     (conv=>whnf);repeat' (first|((first|refine Aa hq ?_|refine Aa hm ?_);rintro _ rfl;conv=>whnf)|refine kA ?_;conv=>whnf|(apply Br.mk<;>intro hc<;>first|exact hc.elim|conv=>whnf)|refine kB ?_)
     all_goals try (exfalso;omega)
     refine(add4 (A:=D) (x:=(fun x=>DU 7 x.id []) a.edges[i]) hn (by omega)).mono ?_
     rintro _ _ ⟨c2,ga2,fa2,fb2,rfl,rfl⟩
     conv=>whnf
     try (apply Ae rfl;conv=>whnf)
     (conv=>whnf);repeat' (first  |refine kA ?_;conv=>whnf|(apply Br.mk<;>intro hc<;>first|exact hc.elim|conv=>whnf)|refine kB ?_)
     all_goals first|exact again.mk ⟨_,by omega,i+1,_,_,_,_,_,D++[(fun x=>DU 7 x.id []) a.edges[i]],rfl,by omega,hD2,hn,by omega,rfl,rfl⟩|exact again.mk ⟨_,by omega,i+1,_,_,_,_,_,D++[(fun x=>DU 7 x.id []) a.edges[i]],rfl,by omega,hD2,rfl,by simp;omega,rfl,rfl⟩|(exfalso;omega)
 rw[List.take_of_length_le (by omega)]at hD
 have hD1:D.length≤110:=by omega
 clear hDl
 obtain⟨E,hE⟩:∃E,E=D:=⟨_,rfl⟩
 subst hE
 have hDE:=hD
 clear hD
 (conv=>whnf);repeat' (first  |refine kA ?_;conv=>whnf|(apply Br.mk<;>intro hc<;>first|exact hc.elim|conv=>whnf)|refine kB ?_)
 all_goals first|(exfalso;omega)|skip
 refine Af (fun z env s=>∃(i c ga n:Nat) (fa fb:Bool) (D:List GC),z=a.nodes.length-i∧i≤a.nodes.length∧D=E++((a.nodes.take i).filter (Ej b.nodes)).map (fun n=>DU 2 n.id [])∧n=D.length∧D.length≤E.length+i∧env=[(0,.ref 3 gs 0 0),(5,.ref 5 (c0+1) 0 0),(42,.sl a.nn (vs GN.av a.nodes)),(43,.int .i64 a.nodes.length),(44,.int .i64 i)]∧s=⟨[o0,o1,.arr ga 10 fa true (vs GC.av D),.arr gs 1 true false [cl fb (.own 2 ga 0 n)],.arr c0 4 true true [a.av],.arr (c0+1) 4 true true [b.av]],c⟩) ?_ _ _ _ ⟨0,_,_,_,_,_,E,rfl,by omega,by simp,hn,by omega,by first|rfl|(rw [← lV (f:=GN.av) a.nodes];rfl),rfl⟩
 clear hn
 rintro _ _ _ ⟨i,c,ga,n,fa,fb,D,rfl,hi,hD,hn,hDl,rfl,rfl⟩
 refine⟨rfl,?_⟩
 by_cases hlt:i<a.nodes.length
 ·have hs:((a.nodes.take (i+1)).filter (Ej b.nodes)).map (fun n=>DU 2 n.id [])=((a.nodes.take i).filter (Ej b.nodes)).map (fun n=>DU 2 n.id [])++if Ej b.nodes a.nodes[i]=true then[(fun n=>DU 2 n.id []) a.nodes[i]]else[]:=DK hlt
  have hq:=Ai9 hb (id:=a.nodes[i].id)
  unfold Jj at hq
  cases hf:b.nodes.find? (X9 a.nodes[i].id)with
  |none=>
   rw[hf]at hq
   have hg:Ej b.nodes a.nodes[i]=true:=by unfold Ej;rw[hf];rfl
   ·rw[if_pos hg]at hs
    have hD2:D++[(fun n=>DU 2 n.id []) a.nodes[i]]=E++((a.nodes.take (i+1)).filter (Ej b.nodes)).map (fun n=>DU 2 n.id []):=by rw[hs,hD,List.append_assoc]
    (conv=>whnf);repeat' (first|(refine Aa hq ?_;rintro _ rfl;conv=>whnf)|refine kA ?_;conv=>whnf|(apply Br.mk<;>intro hc<;>first|exact hc.elim|conv=>whnf)|refine kB ?_)
    all_goals try (exfalso;omega)
    refine(add4 (A:=D) (x:=(fun n=>DU 2 n.id []) a.nodes[i]) hn (by omega)).mono ?_
    rintro _ _ ⟨c2,ga2,fa2,fb2,rfl,rfl⟩
    conv=>whnf
    try (apply Ae rfl;conv=>whnf)
    (conv=>whnf);repeat' (first  |refine kA ?_;conv=>whnf|(apply Br.mk<;>intro hc<;>first|exact hc.elim|conv=>whnf)|refine kB ?_)
    all_goals first|exact again.mk ⟨_,by omega,i+1,_,_,_,_,_,D++[(fun n=>DU 2 n.id []) a.nodes[i]],rfl,by omega,hD2,hn,by omega,rfl,rfl⟩|exact again.mk ⟨_,by omega,i+1,_,_,_,_,_,D++[(fun n=>DU 2 n.id []) a.nodes[i]],rfl,by omega,hD2,rfl,by simp;omega,rfl,rfl⟩|(exfalso;omega)
  |some y=>
   rw[hf]at hq
   have hg:Ej b.nodes a.nodes[i]=false:=by unfold Ej;rw[hf];rfl
   ·rw[if_neg (by rw[hg];exact Bool.false_ne_true),List.append_nil]at hs
    rw[← hs]at hD
    (conv=>whnf);repeat' (first|(refine Aa hq ?_;rintro _ rfl;conv=>whnf)|refine kA ?_;conv=>whnf|(apply Br.mk<;>intro hc<;>first|exact hc.elim|conv=>whnf)|refine kB ?_)
    all_goals first|exact again.mk ⟨_,by omega,i+1,_,_,_,_,_,D,rfl,by omega,hD,hn,by omega,rfl,rfl⟩|exact again.mk ⟨_,by omega,i+1,_,_,_,_,_,D,rfl,by omega,hD,rfl,by simp;omega,rfl,rfl⟩|(exfalso;omega)
 ·rw[List.take_of_length_le (by omega),hDE,List.append_assoc]at hD
  have hG:D=A++H8 a b:=hD
  subst hn
  rw[← hG]
  (conv=>whnf);repeat' (first  |refine kA ?_;conv=>whnf|(apply Br.mk<;>intro hc<;>first|exact hc.elim|conv=>whnf)|refine kB ?_)
  all_goals first|exact⟨_,_,_,_,_,_,rfl,rfl⟩|(exfalso;omega)
theorem Am7 (N:List GN) (n:GN):∃t:Bool,Jj N n.id=.BG [(Fg N n).av,.bool t]:=by
 unfold Jj Fg
 cases N.find? (X9 n.id)with
 |none=>exact⟨_,rfl⟩
 |some m=>exact⟨_,rfl⟩
theorem Y1 {g:GG} (h:CX g) (n:GN):(Fg g.nodes n).labels.length≤8∧(Fg g.nodes n).props.length≤16∧IK (Fg g.nodes n).props:=by
 unfold Fg
 cases e:g.nodes.find? (X9 n.id)with
 |none=>exact⟨by decide,by decide,by decide,fun p hp=>by cases hp⟩
 |some m=>
  have:=h.nodes m (List.mem_of_find?_eq_some e)
  exact⟨this.2.1,this.2.2.1,this.2.2.2.1⟩
set_option maxHeartbeats 2000000 in
theorem ApD {o0 o1 r1 r2:Obj} {ga gs c0 n:Nat} {fa fb:Bool} {A:List GC} {a b:GG} (hn:n=A.length) (hA:A.length≤200) (ha:CX a) (hb:CX b):
 Am (Ac tab) 66 [.ref 3 gs 0 0,a.av,b.av] ⟨[o0,o1,.arr ga 10 fa true (vs GC.av A),.arr gs 1 true false [cl fb (.own 2 ga 0 n)],r1,r2],c0⟩ (fun out s'=>∃(c' ga':Nat) (WS WT:Bool) (r3 r4:Obj),out=.ok (.BG [])∧s'=⟨[o0,o1,.arr ga' 10 WS true (vs GC.av (A++P7 a b)),.arr gs 1 true false [cl WT (.own 2 ga' 0 (A++P7 a b).length)],r1,r2,r3,r4],c'⟩∧(A++P7 a b).length≤7000):=by
 have a1:=ha.nn
 have a2:=ha.en
 have b1:=hb.nn
 have b2:=hb.en
 refine Ah rfl rfl ?_
 (conv=>whnf);repeat' (first  |refine kA ?_;conv=>whnf|(apply Br.mk<;>intro hc<;>first|exact hc.elim|conv=>whnf)|refine kB ?_)
 refine Af (fun z env s=>∃(i c ga n:Nat) (fa fb:Bool) (D:List GC),z=b.nodes.length-i∧i≤b.nodes.length∧D=A++((b.nodes.take i).filter (Ej a.nodes)).map (fun n=>DU 1 n.id [])∧n=D.length∧D.length≤A.length+i∧env=[(0,.ref 3 gs 0 0),(4,.ref 6 c0 0 0),(5,.ref 7 (c0+1) 0 0),(15,.sl b.nn (vs GN.av b.nodes)),(16,.int .i64 b.nodes.length),(17,.int .i64 i)]∧s=⟨[o0,o1,.arr ga 10 fa true (vs GC.av D),.arr gs 1 true false [cl fb (.own 2 ga 0 n)],r1,r2,.arr c0 4 true true [a.av],.arr (c0+1) 4 true true [b.av]],c⟩) ?_ _ _ _ ⟨0,_,_,_,_,_,A,rfl,by omega,by simp,hn,by omega,by first|rfl|(rw [← lV (f:=GN.av) b.nodes];rfl),rfl⟩
 clear hn
 rintro _ _ _ ⟨i,c,ga,n,fa,fb,D,rfl,hi,hD,hn,hDl,rfl,rfl⟩
 refine⟨rfl,?_⟩
 by_cases hlt:i<b.nodes.length
 ·have hs:((b.nodes.take (i+1)).filter (Ej a.nodes)).map (fun n=>DU 1 n.id [])=((b.nodes.take i).filter (Ej a.nodes)).map (fun n=>DU 1 n.id [])++if Ej a.nodes b.nodes[i]=true then[(fun n=>DU 1 n.id []) b.nodes[i]]else[]:=DK hlt
  have hq:=Ai9 ha (id:=b.nodes[i].id)
  unfold Jj at hq
  cases hf:a.nodes.find? (X9 b.nodes[i].id)with
  |none=>
   rw[hf]at hq
   have hg:Ej a.nodes b.nodes[i]=true:=by unfold Ej;rw[hf];rfl
   ·rw[if_pos hg]at hs
    have hD2:D++[(fun n=>DU 1 n.id []) b.nodes[i]]=A++((b.nodes.take (i+1)).filter (Ej a.nodes)).map (fun n=>DU 1 n.id []):=by rw[hs,hD,List.append_assoc]
    (conv=>whnf);repeat' (first|(refine Aa hq ?_;rintro _ rfl;conv=>whnf)|refine kA ?_;conv=>whnf|(apply Br.mk<;>intro hc<;>first|exact hc.elim|conv=>whnf)|refine kB ?_)
    all_goals try (exfalso;omega)
    refine(Arj (A:=D) (x:=(fun n=>DU 1 n.id []) b.nodes[i]) hn (by omega)).mono ?_
    rintro _ _ ⟨c2,ga2,fa2,fb2,rfl,rfl⟩
    conv=>whnf
    try (apply Ae rfl;conv=>whnf)
    (conv=>whnf);repeat' (first  |refine kA ?_;conv=>whnf|(apply Br.mk<;>intro hc<;>first|exact hc.elim|conv=>whnf)|refine kB ?_)
    all_goals first|exact again.mk ⟨_,by omega,i+1,_,_,_,_,_,D++[(fun n=>DU 1 n.id []) b.nodes[i]],rfl,by omega,hD2,hn,by omega,rfl,rfl⟩|exact again.mk ⟨_,by omega,i+1,_,_,_,_,_,D++[(fun n=>DU 1 n.id []) b.nodes[i]],rfl,by omega,hD2,rfl,by simp;omega,rfl,rfl⟩|(exfalso;omega)
  |some y=>
   rw[hf]at hq
   have hg:Ej a.nodes b.nodes[i]=false:=by unfold Ej;rw[hf];rfl
   ·rw[if_neg (by rw[hg];exact Bool.false_ne_true),List.append_nil]at hs
    rw[← hs]at hD
    (conv=>whnf);repeat' (first|(refine Aa hq ?_;rintro _ rfl;conv=>whnf)|refine kA ?_;conv=>whnf|(apply Br.mk<;>intro hc<;>first|exact hc.elim|conv=>whnf)|refine kB ?_)
    all_goals first|exact again.mk ⟨_,by omega,i+1,_,_,_,_,_,D,rfl,by omega,hD,hn,by omega,rfl,rfl⟩|exact again.mk ⟨_,by omega,i+1,_,_,_,_,_,D,rfl,by omega,hD,rfl,by simp;omega,rfl,rfl⟩|(exfalso;omega)
 rw[List.take_of_length_le (by omega)]at hD
 have hD1:D.length≤300:=by omega
 clear hDl
 obtain⟨E,hE⟩:∃E,E=D:=⟨_,rfl⟩
 subst hE
 have hDE:=hD
 clear hD
 (conv=>whnf);repeat' (first  |refine kA ?_;conv=>whnf|(apply Br.mk<;>intro hc<;>first|exact hc.elim|conv=>whnf)|refine kB ?_)
 all_goals first|(exfalso;omega)|skip
 refine Af (fun z env s=>∃(i c ga n:Nat) (fa fb:Bool) (D:List GC),z=b.nodes.length-i∧i≤b.nodes.length∧D=E++(b.nodes.take i).flatMap (H9 a.nodes)∧n=D.length∧D.length≤E.length+60*i∧env=[(0,.ref 3 gs 0 0),(4,.ref 6 c0 0 0),(37,.sl b.nn (vs GN.av b.nodes)),(38,.int .i64 b.nodes.length),(39,.int .i64 i)]∧s=⟨[o0,o1,.arr ga 10 fa true (vs GC.av D),.arr gs 1 true false [cl fb (.own 2 ga 0 n)],r1,r2,.arr c0 4 true true [a.av],.arr (c0+1) 4 true true [b.av]],c⟩) ?_ _ _ _ ⟨0,_,_,_,_,_,E,rfl,by omega,by simp,hn,by omega,by first|rfl|(rw [← lV (f:=GN.av) b.nodes];rfl),rfl⟩
 clear hn
 rintro _ _ _ ⟨i,c,ga,n,fa,fb,D,rfl,hi,hD,hn,hDl,rfl,rfl⟩
 refine⟨rfl,?_⟩
 by_cases hlt:i<b.nodes.length
 ·have hs:(b.nodes.take (i+1)).flatMap (H9 a.nodes)=(b.nodes.take i).flatMap (H9 a.nodes)++H9 a.nodes b.nodes[i]:=Rq hlt
  obtain⟨t,ht⟩:=Am7 a.nodes b.nodes[i]
  have hq:=Ai9 ha (id:=b.nodes[i].id)
  have hw:=Y1 ha b.nodes[i]
  have hL:H9 a.nodes b.nodes[i]=AQ 4 b.nodes[i].id (Fg a.nodes b.nodes[i]).labels b.nodes[i].labels++(AQ 5 b.nodes[i].id (keysOf (Fg a.nodes b.nodes[i]).props) (keysOf b.nodes[i].props)++(AQ 3 b.nodes[i].id b.nodes[i].labels (Fg a.nodes b.nodes[i]).labels++valuesL 5 b.nodes[i].id (Fg a.nodes b.nodes[i]).props b.nodes[i].props)):=rfl
  rw[ht]at hq
  clear ht
  generalize Fg a.nodes b.nodes[i]=W at hq hw hL
  obtain⟨w1,w2,w3⟩:=id hw
  have hb':=hb.nodes _ (List.getElem_mem hlt)
  obtain⟨_,m1,m2,_⟩:=id hb'
  have k1:=Yv (l:=W.props) (nn:=W.pn) (by omega)
  have k2:=Yv (l:=b.nodes[i].props) (nn:=b.nodes[i].pn) (by omega)
  have q1:=Df W.props
  have q2:=Df b.nodes[i].props
  have l1:=Ec (op:=4) (id:=b.nodes[i].id) (l:=W.labels) (m:=b.nodes[i].labels)
  have l2:=Ec (op:=5) (id:=b.nodes[i].id) (l:=keysOf W.props) (m:=keysOf b.nodes[i].props)
  have l3:=Ec (op:=3) (id:=b.nodes[i].id) (l:=b.nodes[i].labels) (m:=W.labels)
  have l4:=Fq (op:=5) (id:=b.nodes[i].id) (a:=W.props) (b:=b.nodes[i].props)
  have hD2:((((D++AQ 4 b.nodes[i].id W.labels b.nodes[i].labels)++AQ 5 b.nodes[i].id (keysOf W.props) (keysOf b.nodes[i].props))++AQ 3 b.nodes[i].id b.nodes[i].labels W.labels)++valuesL 5 b.nodes[i].id W.props b.nodes[i].props)=E++(b.nodes.take (i+1)).flatMap (H9 a.nodes):=by rw[hs,hL,hD];simp only[List.append_assoc]
  cases t
  all_goals
   (conv=>whnf);repeat' (first|((first|refine Aa hq ?_|refine Aa k1 ?_|refine Aa k2 ?_);rintro _ rfl;conv=>whnf)|refine kA ?_;conv=>whnf|(apply Br.mk<;>intro hc<;>first|exact hc.elim|conv=>whnf)|refine kB ?_)
   all_goals try (exfalso;omega)
   refine(AcJ (A:=D) (op:=4) (id:=b.nodes[i].id) (l:=W.labels) (m:=b.nodes[i].labels) hn (by first|omega|(simp only[List.length_append];omega)) (by omega) (by omega)).mono ?_
   rintro _ _ ⟨c3,ga3,fa3,fb3,rfl,rfl⟩
   conv=>whnf
   try (apply Ae rfl;conv=>whnf)
   (conv=>whnf);repeat' (first|((first|refine Aa k1 ?_|refine Aa k2 ?_);rintro _ rfl;conv=>whnf)|refine kA ?_;conv=>whnf|(apply Br.mk<;>intro hc<;>first|exact hc.elim|conv=>whnf)|refine kB ?_)
   all_goals try (exfalso;omega)
   refine(AcJ (A:=(D++AQ 4 b.nodes[i].id W.labels b.nodes[i].labels)) (op:=5) (id:=b.nodes[i].id) (l:=keysOf W.props) (m:=keysOf b.nodes[i].props) rfl (by first|omega|(simp only[List.length_append];omega)) (by omega) (by omega)).mono ?_
   rintro _ _ ⟨c4,ga4,fa4,fb4,rfl,rfl⟩
   conv=>whnf
   try (apply Ae rfl;conv=>whnf)
   (conv=>whnf);repeat' (first|((first|refine Aa k1 ?_|refine Aa k2 ?_);rintro _ rfl;conv=>whnf)|refine kA ?_;conv=>whnf|(apply Br.mk<;>intro hc<;>first|exact hc.elim|conv=>whnf)|refine kB ?_)
   all_goals try (exfalso;omega)
   refine(AcJ (A:=((D++AQ 4 b.nodes[i].id W.labels b.nodes[i].labels)++AQ 5 b.nodes[i].id (keysOf W.props) (keysOf b.nodes[i].props))) (op:=3) (id:=b.nodes[i].id) (l:=b.nodes[i].labels) (m:=W.labels) rfl (by first|omega|(simp only[List.length_append];omega)) (by omega) (by omega)).mono ?_
   rintro _ _ ⟨c5,ga5,fa5,fb5,rfl,rfl⟩
   conv=>whnf
   try (apply Ae rfl;conv=>whnf)
   (conv=>whnf);repeat' (first|((first|refine Aa k1 ?_|refine Aa k2 ?_);rintro _ rfl;conv=>whnf)|refine kA ?_;conv=>whnf|(apply Br.mk<;>intro hc<;>first|exact hc.elim|conv=>whnf)|refine kB ?_)
   all_goals try (exfalso;omega)
   refine(AkK (A:=(((D++AQ 4 b.nodes[i].id W.labels b.nodes[i].labels)++AQ 5 b.nodes[i].id (keysOf W.props) (keysOf b.nodes[i].props))++AQ 3 b.nodes[i].id b.nodes[i].labels W.labels)) (op:=5) (id:=b.nodes[i].id) (a:=W.props) (b:=b.nodes[i].props) rfl (by first|omega|(simp only[List.length_append];omega)) hw.2.2 hb'.2.2.2.1).mono ?_
   rintro _ _ ⟨c6,ga6,fa6,fb6,rfl,rfl⟩
   conv=>whnf
   try (apply Ae rfl;conv=>whnf)
   (conv=>whnf);repeat' (first|((first|refine Aa k1 ?_|refine Aa k2 ?_);rintro _ rfl;conv=>whnf)|refine kA ?_;conv=>whnf|(apply Br.mk<;>intro hc<;>first|exact hc.elim|conv=>whnf)|refine kB ?_)
   all_goals try (exfalso;omega)
   all_goals first|exact again.mk ⟨_,by omega,i+1,_,_,_,_,_,((((D++AQ 4 b.nodes[i].id W.labels b.nodes[i].labels)++AQ 5 b.nodes[i].id (keysOf W.props) (keysOf b.nodes[i].props))++AQ 3 b.nodes[i].id b.nodes[i].labels W.labels)++valuesL 5 b.nodes[i].id W.props b.nodes[i].props),rfl,by omega,hD2,rfl,by simp only[List.length_append];omega,rfl,rfl⟩|(exfalso;omega)
 ·rw[List.take_of_length_le (by omega),hDE,List.append_assoc]at hD
  have hG:D=A++P7 a b:=hD
  subst hn
  rw[← hG]
  (conv=>whnf);repeat' (first  |refine kA ?_;conv=>whnf|(apply Br.mk<;>intro hc<;>first|exact hc.elim|conv=>whnf)|refine kB ?_)
  all_goals first|exact⟨_,_,_,_,_,_,rfl,rfl,by omega⟩|(exfalso;omega)
theorem Ajd {E:List GE} {x:GE} (h:E.find? (XI x.id)=none):KO E x=[]:=by unfold KO;rw[h]
theorem Ajf {E:List GE} {x y:GE} (h:E.find? (XI x.id)=some y) (hm:Ci x y=true):KO E x=[]:=by unfold KO;rw[h];exact if_pos hm
theorem Aje {E:List GE} {x y:GE} (h:E.find? (XI x.id)=some y) (hm:Ci x y=false):KO E x=y.props:=by unfold KO;rw[h];exact if_neg (by rw[hm];exact Bool.false_ne_true)
set_option maxHeartbeats 2000000 in
theorem ApM {o0 o1 r1 r2 r3 r4:Obj} {ga gs c0 n:Nat} {fa fb:Bool} {A:List GC} {a b:GG} (hn:n=A.length) (hA:A.length≤7000) (ha:CX a) (hb:CX b):
 Am (Ac tab) 67 [.ref 3 gs 0 0,a.av,b.av] ⟨[o0,o1,.arr ga 10 fa true (vs GC.av A),.arr gs 1 true false [cl fb (.own 2 ga 0 n)],r1,r2,r3,r4],c0⟩ (fun out s'=>∃(c' ga':Nat) (WS WT:Bool) (r5 r6:Obj),out=.ok (.BG [])∧s'=⟨[o0,o1,.arr ga' 10 WS true (vs GC.av (A++Ro a b)),.arr gs 1 true false [cl WT (.own 2 ga' 0 (A++Ro a b).length)],r1,r2,r3,r4,r5,r6],c'⟩∧(A++Ro a b).length≤14000):=by
 have a1:=ha.nn
 have a2:=ha.en
 have b1:=hb.nn
 have b2:=hb.en
 refine Ah rfl rfl ?_
 (conv=>whnf);repeat' (first  |refine kA ?_;conv=>whnf|(apply Br.mk<;>intro hc<;>first|exact hc.elim|conv=>whnf)|refine kB ?_)
 refine Af (fun z env s=>∃(i c ga n:Nat) (fa fb:Bool) (D:List GC),z=b.edges.length-i∧i≤b.edges.length∧D=A++((b.edges.take i).filter (BZ a.edges)).map newE∧n=D.length∧D.length≤A.length+i∧env=[(0,.ref 3 gs 0 0),(4,.ref 8 c0 0 0),(5,.ref 9 (c0+1) 0 0),(15,.sl b.en (vs GE.av b.edges)),(16,.int .i64 b.edges.length),(17,.int .i64 i)]∧s=⟨[o0,o1,.arr ga 10 fa true (vs GC.av D),.arr gs 1 true false [cl fb (.own 2 ga 0 n)],r1,r2,r3,r4,.arr c0 4 true true [a.av],.arr (c0+1) 4 true true [b.av]],c⟩) ?_ _ _ _ ⟨0,_,_,_,_,_,A,rfl,by omega,by simp,hn,by omega,by first|rfl|(rw [← lV (f:=GE.av) b.edges];rfl),rfl⟩
 clear hn
 rintro _ _ _ ⟨i,c,ga,n,fa,fb,D,rfl,hi,hD,hn,hDl,rfl,rfl⟩
 refine⟨rfl,?_⟩
 by_cases hlt:i<b.edges.length
 ·have hs:((b.edges.take (i+1)).filter (BZ a.edges)).map newE=((b.edges.take i).filter (BZ a.edges)).map newE++if BZ a.edges b.edges[i]=true then[newE b.edges[i]]else[]:=DK hlt
  have hq:=AjI ha (id:=b.edges[i].id)
  unfold JE at hq
  cases hf:a.edges.find? (XI b.edges[i].id)with
  |none=>
   rw[hf]at hq
   have hg:BZ a.edges b.edges[i]=true:=by unfold BZ;rw[hf]
   ·rw[if_pos hg]at hs
    have hD2:D++[newE b.edges[i]]=A++((b.edges.take (i+1)).filter (BZ a.edges)).map newE:=by rw[hs,hD,List.append_assoc]
    (conv=>whnf);repeat' (first|(refine Aa hq ?_;rintro _ rfl;conv=>whnf)|refine kA ?_;conv=>whnf|(apply Br.mk<;>intro hc<;>first|exact hc.elim|conv=>whnf)|refine kB ?_)
    all_goals try (exfalso;omega)
    refine(add8 (A:=D) (x:=newE b.edges[i]) hn (by omega)).mono ?_
    rintro _ _ ⟨c2,ga2,fa2,fb2,rfl,rfl⟩
    conv=>whnf
    try (apply Ae rfl;conv=>whnf)
    (conv=>whnf);repeat' (first  |refine kA ?_;conv=>whnf|(apply Br.mk<;>intro hc<;>first|exact hc.elim|conv=>whnf)|refine kB ?_)
    all_goals first|exact again.mk ⟨_,by omega,i+1,_,_,_,_,_,D++[newE b.edges[i]],rfl,by omega,hD2,hn,by omega,rfl,rfl⟩|exact again.mk ⟨_,by omega,i+1,_,_,_,_,_,D++[newE b.edges[i]],rfl,by omega,hD2,rfl,by simp;omega,rfl,rfl⟩|(exfalso;omega)
  |some y=>
   rw[hf]at hq
   have hg:BZ a.edges b.edges[i]=Ci b.edges[i] y:=by unfold BZ;rw[hf]
   have hm:=ApQ (x:=y) (y:=b.edges[i])
   rw[XG]at hm
   cases hmv:Ci b.edges[i] y
   ·rw[hmv]at hg hm
    ·rw[if_neg (by rw[hg];exact Bool.false_ne_true),List.append_nil]at hs
     rw[← hs]at hD
     (conv=>whnf);repeat' (first|((first|refine Aa hq ?_|refine Aa hm ?_);rintro _ rfl;conv=>whnf)|refine kA ?_;conv=>whnf|(apply Br.mk<;>intro hc<;>first|exact hc.elim|conv=>whnf)|refine kB ?_)
     all_goals first|exact again.mk ⟨_,by omega,i+1,_,_,_,_,_,D,rfl,by omega,hD,hn,by omega,rfl,rfl⟩|exact again.mk ⟨_,by omega,i+1,_,_,_,_,_,D,rfl,by omega,hD,rfl,by simp;omega,rfl,rfl⟩|(exfalso;omega)
   ·rw[hmv]at hg hm
    ·rw[if_pos hg]at hs
     have hD2:D++[newE b.edges[i]]=A++((b.edges.take (i+1)).filter (BZ a.edges)).map newE:=by rw[hs,hD,List.append_assoc]
     (conv=>whnf);repeat' (first|((first|refine Aa hq ?_|refine Aa hm ?_);rintro _ rfl;conv=>whnf)|refine kA ?_;conv=>whnf|(apply Br.mk<;>intro hc<;>first|exact hc.elim|conv=>whnf)|refine kB ?_)
     all_goals try (exfalso;omega)
     refine(add8 (A:=D) (x:=newE b.edges[i]) hn (by omega)).mono ?_
     rintro _ _ ⟨c2,ga2,fa2,fb2,rfl,rfl⟩
     conv=>whnf
     try (apply Ae rfl;conv=>whnf)
     (conv=>whnf);repeat' (first  |refine kA ?_;conv=>whnf|(apply Br.mk<;>intro hc<;>first|exact hc.elim|conv=>whnf)|refine kB ?_)
     all_goals first|exact again.mk ⟨_,by omega,i+1,_,_,_,_,_,D++[newE b.edges[i]],rfl,by omega,hD2,hn,by omega,rfl,rfl⟩|exact again.mk ⟨_,by omega,i+1,_,_,_,_,_,D++[newE b.edges[i]],rfl,by omega,hD2,rfl,by simp;omega,rfl,rfl⟩|(exfalso;omega)
 rw[List.take_of_length_le (by omega)]at hD
 have hD1:D.length≤7100:=by omega
 clear hDl
 obtain⟨E,hE⟩:∃E,E=D:=⟨_,rfl⟩
 subst hE
 have hDE:=hD
 clear hD
 (conv=>whnf);repeat' (first  |refine kA ?_;conv=>whnf|(apply Br.mk<;>intro hc<;>first|exact hc.elim|conv=>whnf)|refine kB ?_)
 all_goals first|(exfalso;omega)|skip
 refine Af (fun z env s=>∃(i c ga n:Nat) (fa fb:Bool) (D:List GC),z=b.edges.length-i∧i≤b.edges.length∧D=E++(b.edges.take i).flatMap (D8 a.edges)∧n=D.length∧D.length≤E.length+60*i∧env=[(0,.ref 3 gs 0 0),(4,.ref 8 c0 0 0),(48,.sl b.en (vs GE.av b.edges)),(49,.int .i64 b.edges.length),(50,.int .i64 i)]∧s=⟨[o0,o1,.arr ga 10 fa true (vs GC.av D),.arr gs 1 true false [cl fb (.own 2 ga 0 n)],r1,r2,r3,r4,.arr c0 4 true true [a.av],.arr (c0+1) 4 true true [b.av]],c⟩) ?_ _ _ _ ⟨0,_,_,_,_,_,E,rfl,by omega,by simp,hn,by omega,by first|rfl|(rw [← lV (f:=GE.av) b.edges];rfl),rfl⟩
 clear hn
 rintro _ _ _ ⟨i,c,ga,n,fa,fb,D,rfl,hi,hD,hn,hDl,rfl,rfl⟩
 refine⟨rfl,?_⟩
 by_cases hlt:i<b.edges.length
 ·have hs:(b.edges.take (i+1)).flatMap (D8 a.edges)=(b.edges.take i).flatMap (D8 a.edges)++D8 a.edges b.edges[i]:=Rq hlt
  have hq:=AjI ha (id:=b.edges[i].id)
  unfold JE at hq
  have hb':=hb.edges _ (List.getElem_mem hlt)
  obtain⟨_,m2,_⟩:=id hb'
  have k2:=Yv (l:=b.edges[i].props) (nn:=b.edges[i].pn) (by omega)
  have q2:=Df b.edges[i].props
  cases hf:a.edges.find? (XI b.edges[i].id)with
  |none=>
   rw[hf]at hq
   have hwp:=Ajd hf
   have hw:IK ([]:List GP):=⟨by decide,fun p hp=>by cases hp⟩
   have hL:D8 a.edges b.edges[i]=AQ 8 b.edges[i].id (keysOf ([]:List GP)) (keysOf b.edges[i].props)++valuesL 8 b.edges[i].id ([]:List GP) b.edges[i].props:=by unfold D8;rw[hwp]
   have hlp:([]:List GP).length≤16:=by first|decide|exact hw16
   have k1:=Yv (l:=([]:List GP)) (nn:=false) (by omega)
   have q1:=Df ([]:List GP)
   have l1:=Ec (op:=8) (id:=b.edges[i].id) (l:=keysOf ([]:List GP)) (m:=keysOf b.edges[i].props)
   have l4:=Fq (op:=8) (id:=b.edges[i].id) (a:=([]:List GP)) (b:=b.edges[i].props)
   have hD2:((D++AQ 8 b.edges[i].id (keysOf ([]:List GP)) (keysOf b.edges[i].props))++valuesL 8 b.edges[i].id ([]:List GP) b.edges[i].props)=E++(b.edges.take (i+1)).flatMap (D8 a.edges):=by rw[hs,hL,hD];simp only[List.append_assoc]
   (conv=>whnf);repeat' (first|((first|refine Aa hq ?_|refine Aa k1 ?_|refine Aa k2 ?_);rintro _ rfl;conv=>whnf)|refine kA ?_;conv=>whnf|(apply Br.mk<;>intro hc<;>first|exact hc.elim|conv=>whnf)|refine kB ?_)
   all_goals try (exfalso;omega)
   refine(names8 (A:=D) (op:=8) (id:=b.edges[i].id) (l:=keysOf ([]:List GP)) (m:=keysOf b.edges[i].props) hn (by first|omega|(simp only[List.length_append];omega)) (by omega) (by omega)).mono ?_
   rintro _ _ ⟨c3,ga3,fa3,fb3,rfl,rfl⟩
   conv=>whnf
   try (apply Ae rfl;conv=>whnf)
   (conv=>whnf);repeat' (first|((first|refine Aa hq ?_|refine Aa k1 ?_|refine Aa k2 ?_);rintro _ rfl;conv=>whnf)|refine kA ?_;conv=>whnf|(apply Br.mk<;>intro hc<;>first|exact hc.elim|conv=>whnf)|refine kB ?_)
   all_goals try (exfalso;omega)
   refine(ZH (A:=(D++AQ 8 b.edges[i].id (keysOf ([]:List GP)) (keysOf b.edges[i].props))) (op:=8) (id:=b.edges[i].id) (a:=([]:List GP)) (b:=b.edges[i].props) rfl (by first|omega|(simp only[List.length_append];omega)) hw hb'.2.2.1).mono ?_
   rintro _ _ ⟨c4,ga4,fa4,fb4,rfl,rfl⟩
   conv=>whnf
   try (apply Ae rfl;conv=>whnf)
   (conv=>whnf);repeat' (first|((first|refine Aa hq ?_|refine Aa k1 ?_|refine Aa k2 ?_);rintro _ rfl;conv=>whnf)|refine kA ?_;conv=>whnf|(apply Br.mk<;>intro hc<;>first|exact hc.elim|conv=>whnf)|refine kB ?_)
   all_goals try (exfalso;omega)
   all_goals first|exact again.mk ⟨_,by omega,i+1,_,_,_,_,_,((D++AQ 8 b.edges[i].id (keysOf ([]:List GP)) (keysOf b.edges[i].props))++valuesL 8 b.edges[i].id ([]:List GP) b.edges[i].props),rfl,by omega,hD2,rfl,by simp only[List.length_append];omega,rfl,rfl⟩|(exfalso;omega)
  |some y=>
   rw[hf]at hq
   have hy:=ha.edges _ (List.mem_of_find?_eq_some hf)
   have hm:=ApQ (x:=y) (y:=b.edges[i])
   rw[XG]at hm
   cases hmv:Ci b.edges[i] y
   ·rw[hmv]at hm
    have hwp:=Aje hf hmv
    have hw16:=hy.2.1
    have hw:=hy.2.2.1
    have hL:D8 a.edges b.edges[i]=AQ 8 b.edges[i].id (keysOf y.props) (keysOf b.edges[i].props)++valuesL 8 b.edges[i].id y.props b.edges[i].props:=by unfold D8;rw[hwp]
    have hlp:y.props.length≤16:=by first|decide|exact hw16
    have k1:=Yv (l:=y.props) (nn:=y.pn) (by omega)
    have q1:=Df y.props
    have l1:=Ec (op:=8) (id:=b.edges[i].id) (l:=keysOf y.props) (m:=keysOf b.edges[i].props)
    have l4:=Fq (op:=8) (id:=b.edges[i].id) (a:=y.props) (b:=b.edges[i].props)
    have hD2:((D++AQ 8 b.edges[i].id (keysOf y.props) (keysOf b.edges[i].props))++valuesL 8 b.edges[i].id y.props b.edges[i].props)=E++(b.edges.take (i+1)).flatMap (D8 a.edges):=by rw[hs,hL,hD];simp only[List.append_assoc]
    (conv=>whnf);repeat' (first|((first|refine Aa hq ?_|refine Aa hm ?_|refine Aa k1 ?_|refine Aa k2 ?_);rintro _ rfl;conv=>whnf)|refine kA ?_;conv=>whnf|(apply Br.mk<;>intro hc<;>first|exact hc.elim|conv=>whnf)|refine kB ?_)
    all_goals try (exfalso;omega)
    refine(names8 (A:=D) (op:=8) (id:=b.edges[i].id) (l:=keysOf y.props) (m:=keysOf b.edges[i].props) hn (by first|omega|(simp only[List.length_append];omega)) (by omega) (by omega)).mono ?_
    rintro _ _ ⟨c3,ga3,fa3,fb3,rfl,rfl⟩
    conv=>whnf
    try (apply Ae rfl;conv=>whnf)
    (conv=>whnf);repeat' (first|((first|refine Aa hq ?_|refine Aa hm ?_|refine Aa k1 ?_|refine Aa k2 ?_);rintro _ rfl;conv=>whnf)|refine kA ?_;conv=>whnf|(apply Br.mk<;>intro hc<;>first|exact hc.elim|conv=>whnf)|refine kB ?_)
    all_goals try (exfalso;omega)
    refine(ZH (A:=(D++AQ 8 b.edges[i].id (keysOf y.props) (keysOf b.edges[i].props))) (op:=8) (id:=b.edges[i].id) (a:=y.props) (b:=b.edges[i].props) rfl (by first|omega|(simp only[List.length_append];omega)) hw hb'.2.2.1).mono ?_
    rintro _ _ ⟨c4,ga4,fa4,fb4,rfl,rfl⟩
    conv=>whnf
    try (apply Ae rfl;conv=>whnf)
    (conv=>whnf);repeat' (first|((first|refine Aa hq ?_|refine Aa hm ?_|refine Aa k1 ?_|refine Aa k2 ?_);rintro _ rfl;conv=>whnf)|refine kA ?_;conv=>whnf|(apply Br.mk<;>intro hc<;>first|exact hc.elim|conv=>whnf)|refine kB ?_)
    all_goals try (exfalso;omega)
    all_goals first|exact again.mk ⟨_,by omega,i+1,_,_,_,_,_,((D++AQ 8 b.edges[i].id (keysOf y.props) (keysOf b.edges[i].props))++valuesL 8 b.edges[i].id y.props b.edges[i].props),rfl,by omega,hD2,rfl,by simp only[List.length_append];omega,rfl,rfl⟩|(exfalso;omega)
   ·rw[hmv]at hm
    have hwp:=Ajf hf hmv
    have hw:IK ([]:List GP):=⟨by decide,fun p hp=>by cases hp⟩
    have hL:D8 a.edges b.edges[i]=AQ 8 b.edges[i].id (keysOf ([]:List GP)) (keysOf b.edges[i].props)++valuesL 8 b.edges[i].id ([]:List GP) b.edges[i].props:=by unfold D8;rw[hwp]
    have hlp:([]:List GP).length≤16:=by first|decide|exact hw16
    have k1:=Yv (l:=([]:List GP)) (nn:=false) (by omega)
    have q1:=Df ([]:List GP)
    have l1:=Ec (op:=8) (id:=b.edges[i].id) (l:=keysOf ([]:List GP)) (m:=keysOf b.edges[i].props)
    have l4:=Fq (op:=8) (id:=b.edges[i].id) (a:=([]:List GP)) (b:=b.edges[i].props)
    have hD2:((D++AQ 8 b.edges[i].id (keysOf ([]:List GP)) (keysOf b.edges[i].props))++valuesL 8 b.edges[i].id ([]:List GP) b.edges[i].props)=E++(b.edges.take (i+1)).flatMap (D8 a.edges):=by rw[hs,hL,hD];simp only[List.append_assoc]
    (conv=>whnf);repeat' (first|((first|refine Aa hq ?_|refine Aa hm ?_|refine Aa k1 ?_|refine Aa k2 ?_);rintro _ rfl;conv=>whnf)|refine kA ?_;conv=>whnf|(apply Br.mk<;>intro hc<;>first|exact hc.elim|conv=>whnf)|refine kB ?_)
    all_goals try (exfalso;omega)
    refine(names8 (A:=D) (op:=8) (id:=b.edges[i].id) (l:=keysOf ([]:List GP)) (m:=keysOf b.edges[i].props) hn (by first|omega|(simp only[List.length_append];omega)) (by omega) (by omega)).mono ?_
    rintro _ _ ⟨c3,ga3,fa3,fb3,rfl,rfl⟩
    conv=>whnf
    try (apply Ae rfl;conv=>whnf)
    (conv=>whnf);repeat' (first|((first|refine Aa hq ?_|refine Aa hm ?_|refine Aa k1 ?_|refine Aa k2 ?_);rintro _ rfl;conv=>whnf)|refine kA ?_;conv=>whnf|(apply Br.mk<;>intro hc<;>first|exact hc.elim|conv=>whnf)|refine kB ?_)
    all_goals try (exfalso;omega)
    refine(ZH (A:=(D++AQ 8 b.edges[i].id (keysOf ([]:List GP)) (keysOf b.edges[i].props))) (op:=8) (id:=b.edges[i].id) (a:=([]:List GP)) (b:=b.edges[i].props) rfl (by first|omega|(simp only[List.length_append];omega)) hw hb'.2.2.1).mono ?_
    rintro _ _ ⟨c4,ga4,fa4,fb4,rfl,rfl⟩
    conv=>whnf
    try (apply Ae rfl;conv=>whnf)
    (conv=>whnf);repeat' (first|((first|refine Aa hq ?_|refine Aa hm ?_|refine Aa k1 ?_|refine Aa k2 ?_);rintro _ rfl;conv=>whnf)|refine kA ?_;conv=>whnf|(apply Br.mk<;>intro hc<;>first|exact hc.elim|conv=>whnf)|refine kB ?_)
    all_goals try (exfalso;omega)
    all_goals first|exact again.mk ⟨_,by omega,i+1,_,_,_,_,_,((D++AQ 8 b.edges[i].id (keysOf ([]:List GP)) (keysOf b.edges[i].props))++valuesL 8 b.edges[i].id ([]:List GP) b.edges[i].props),rfl,by omega,hD2,rfl,by simp only[List.length_append];omega,rfl,rfl⟩|(exfalso;omega)
 ·rw[List.take_of_length_le (by omega),hDE,List.append_assoc]at hD
  have hG:D=A++Ro a b:=hD
  subst hn
  rw[← hG]
  (conv=>whnf);repeat' (first  |refine kA ?_;conv=>whnf|(apply Br.mk<;>intro hc<;>first|exact hc.elim|conv=>whnf)|refine kB ?_)
  all_goals first|exact⟨_,_,_,_,_,_,rfl,rfl,by omega⟩|(exfalso;omega)
noncomputable def ofL (a b:GG):List GC:=if AZ a=0 then(if AZ b=0 then DT a b else[])else[]
noncomputable def ofE (a b:GG):Int:=if AZ a=0 then AZ b else AZ a
def OfV (a b:GG) (v:AV):Prop:=∃nn,v=.BG [.sl nn (vs GC.av (ofL a b)),.int .i64 (ofE a b)]
theorem Ana {a b:GG} (h:AZ a≠0):OfV a b (.BG [.sl false [],.int .i64 (AZ a)]):=⟨false,by unfold ofL ofE;rw[if_neg h,if_neg h];rfl⟩
theorem Am9 {a b:GG} (h:AZ a=0) (h2:AZ b≠0):OfV a b (.BG [.sl false [],.int .i64 (AZ b)]):=⟨false,by unfold ofL ofE;rw[if_pos h,if_neg h2,if_pos h];rfl⟩
theorem Am8 {a b:GG} {nn:Bool} (h:AZ a=0) (h2:AZ b=0):OfV a b (.BG [.sl nn (vs GC.av (DT a b)),.int .i64 0]):=⟨nn,by unfold ofL ofE;rw[if_pos h,if_pos h2,if_pos h,h2]⟩
set_option maxHeartbeats 1000000 in
theorem ofP {a b:GG} (ha:a.ok) (hb:b.ok) (qa:AZ a=0→CX a) (qb:AZ b=0→CX b):Ag (Ac tab) 32 [a.av,b.av] (OfV a b):=by
 have hca:=VI ha
 have hcb:=VI hb
 by_cases h1:AZ a=0
 ·rw[h1]at hca
  have pa:=qa h1
  by_cases h2:AZ b=0
  ·rw[h2]at hcb
   have pb:=qb h2
   have g1:(H8 a b).length≤200:=by
     have x1:=pa.nn
     have x2:=pa.en
     have y1:=List.length_filter_le (BZ b.edges) a.edges
     have y2:=List.length_filter_le (Ej b.nodes) a.nodes
     unfold H8
     rw[List.length_append,List.length_map,List.length_map]
     omega
   refine Ad rfl rfl ?_
   (conv=>whnf);repeat' (first|((first|refine Aa hca ?_|refine Aa hcb ?_);rintro _ rfl;conv=>whnf)|refine kA ?_;conv=>whnf|(apply Br.mk<;>intro hc<;>first|exact hc.elim|conv=>whnf)|refine kB ?_)
   all_goals try (exfalso;omega)
   refine(Ata (A:=[]) (fb:=true) rfl (by decide) pa pb).mono ?_
   rintro _ _ ⟨c2,ga2,fa2,fb2,r1,r2,rfl,rfl⟩
   rw[List.nil_append]
   conv=>whnf
   try (apply Ae rfl;conv=>whnf)
   (conv=>whnf);repeat' (first  |refine kA ?_;conv=>whnf|(apply Br.mk<;>intro hc<;>first|exact hc.elim|conv=>whnf)|refine kB ?_)
   refine(ApD (A:=H8 a b) rfl (by omega) pa pb).mono ?_
   rintro _ _ ⟨c3,ga3,fa3,fb3,r3,r4,rfl,rfl,hl3⟩
   conv=>whnf
   try (apply Ae rfl;conv=>whnf)
   (conv=>whnf);repeat' (first  |refine kA ?_;conv=>whnf|(apply Br.mk<;>intro hc<;>first|exact hc.elim|conv=>whnf)|refine kB ?_)
   refine(ApM (A:=H8 a b++P7 a b) rfl hl3 pa pb).mono ?_
   rintro _ _ ⟨c4,ga4,fa4,fb4,r5,r6,rfl,rfl,hl4⟩
   have hS:H8 a b++P7 a b++Ro a b=DT a b:=List.append_assoc ..
   rw[hS]
   cases fb4
   all_goals
     conv=>whnf
     try (apply Ae rfl;conv=>whnf)
     (conv=>whnf);repeat' (first  |refine kA ?_;conv=>whnf|(apply Br.mk<;>intro hc<;>first|exact hc.elim|conv=>whnf)|refine kB ?_)
     all_goals first|exact Am8 h1 h2
  ·refine Ad rfl rfl ?_
   (conv=>whnf);repeat' (first|((first|refine Aa hca ?_|refine Aa hcb ?_);rintro _ rfl;conv=>whnf)|refine kA ?_;conv=>whnf|(apply Br.mk<;>intro hc<;>first|exact hc.elim|conv=>whnf)|refine kB ?_)
   all_goals first|exact Am9 h1 h2|(exfalso;omega)|exact absurd (by assumption) h2
 ·refine Ad rfl rfl ?_
  (conv=>whnf);repeat' (first|((first|refine Aa hca ?_|refine Aa hcb ?_);rintro _ rfl;conv=>whnf)|refine kA ?_;conv=>whnf|(apply Br.mk<;>intro hc<;>first|exact hc.elim|conv=>whnf)|refine kB ?_)
  all_goals first|exact Ana h1|(exfalso;omega)|exact absurd (by assumption) h1
set_option maxRecDepth 100000 in
theorem QK:Fb (run (Ac tab) 80) 9 []=some (.bool true):=by kernel_rfl
theorem IB:Ag (Ac tab) 9 [] (· =.bool (decide True)):=⟨.bool true,⟨80,QK⟩,rfl⟩
theorem AcC {a b:GG} (ha:a.ok) (hb:b.ok):Ag (Ac tab) 7 [a.av,b.av] (fun v=>∃t,v=.bool t∧(t=true→SmG a 24 30∧SmG b 24 30)):=by
 obtain⟨_,⟨t1,rfl,h1⟩,p1⟩:=(small ha (n:=24) (e:=30)).IJ
 obtain⟨_,⟨t2,rfl,h2⟩,p2⟩:=(small hb (n:=24) (e:=30)).IJ
 cases t1<;>cases t2
 all_goals
  refine Ad rfl rfl ?_
  (conv=>whnf);repeat' (first|((first|refine Aa p1 ?_|refine Aa p2 ?_);rintro _ rfl;conv=>whnf)|refine kA ?_;conv=>whnf|(apply Br.mk<;>intro hc<;>first|exact hc.elim|conv=>whnf)|refine kB ?_)
  all_goals first|exact⟨_,rfl,fun _=>⟨h1 rfl,h2 rfl⟩⟩|exact⟨_,rfl,fun h=>Bool.noConfusion h⟩
end AI
end Go.Proofs.YthnehejdkajjhaaGreatDoor
