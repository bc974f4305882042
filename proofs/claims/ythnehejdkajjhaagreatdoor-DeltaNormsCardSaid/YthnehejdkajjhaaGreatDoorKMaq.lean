/- The law DeltaSettles, about the evaluator. The reference's parts of a script. Deletions, nodes, edges and the whole script: the reference. Sorting numbers in place: the order. Two lists of the same numbers, compared by the reference. The ids that changes name: the reference's Touched. Sorting numbers in place: slices.Sort as an entry of the table. A sorted list without its repeated elements. -/
import Derived.Test.YthnehejdkajjhaaGreatDoorKDsP
import Derived.Test.YthnehejdkajjhaaGreatDoorKDsN
import Derived.Test.YthnehejdkajjhaaGreatDoorKRcM
import Derived.Test.YthnehejdkajjhaaGreatDoorKMap
import Derived.Test.YthnehejdkajjhaaGreatDoorKMah
import Derived.Test.YthnehejdkajjhaaGreatDoorKCk8
import Derived.Test.YthnehejdkajjhaaGreatDoorKMae
import Derived.Test.YthnehejdkajjhaaGreatDoorBMaa
import Derived.Test.YthnehejdkajjhaaGreatDoorKDtF
import Derived.Test.YthnehejdkajjhaaGreatDoorKMai
import Derived.Test.YthnehejdkajjhaaGreatDoorKSqI
set_option linter.unusedVariables false
set_option maxRecDepth 4000
namespace Go.Proofs.YthnehejdkajjhaaGreatDoor
namespace AI
theorem AkI {c d:GC} (s:Abj c d) (hc:Ld c.v) (hd:Ld d.v):Ag (Ac tab) 39 [c.av,d.av] (· =.bool true):=by
 have ho:=Arf hc hd
 obtain⟨a1,a2,a3,a4,a5,a6⟩:=c
 obtain⟨b1,b2,b3,b4,b5,b6⟩:=d
 obtain⟨e1,e2,e3,e4,e5,e6⟩:=s
 dsimp only at e1 e2 e3 e4 e5 e6 ho
 subst e1 e2 e3 e4 e5
 rw[e6]at ho
 refine Ad rfl rfl ?_
 (conv=>whnf);repeat' (first|(refine Aa ho ?_;rintro _ rfl;conv=>whnf)|refine kA ?_;conv=>whnf|(apply Br.mk<;>intro hc<;>first|exact hc.elim|conv=>whnf)|refine kB ?_)
 all_goals first|rfl|exact absurd rfl (by assumption)|(exfalso;omega)
theorem Abk {A B:List GC} {n1 n2:Bool} (hl:A.length<2^62) (s:F2 Abj A B) (ha:∀c∈A,Ld c.v) (hb:∀c∈B,Ld c.v):Ag (Ac tab) 14 [.sl n1 (vs GC.av A),.sl n2 (vs GC.av B)] (· =.bool true):=by
 have hlen:=s.len
 refine Ad rfl rfl ?_
 (conv=>whnf);repeat' (first  |refine kA ?_;conv=>whnf|(apply Br.mk<;>intro hc<;>first|exact hc.elim|conv=>whnf)|refine kB ?_)
 all_goals first|(exfalso;omega)|skip
 refine Af (fun m env s=>∃i:Nat,m=A.length-i∧env=[(0,.sl n1 (vs GC.av A)),(1,.sl n2 (vs GC.av B)),(5,.int .i64 i)]∧s=⟨[],0⟩) ?_ _ _ _ ⟨0,rfl,rfl,rfl⟩
 rintro _ _ _ ⟨i,rfl,rfl,rfl⟩
 refine⟨rfl,?_⟩
 by_cases hlt:i<A.length
 ·have hp:=AkI (s.at_ i hlt (by omega)) (ha _ (List.getElem_mem hlt)) (hb _ (List.getElem_mem (by omega)))
  (conv=>whnf);repeat' (first|(refine Aa hp ?_;rintro _ rfl;conv=>whnf)|refine kA ?_;conv=>whnf|(apply Br.mk<;>intro hc<;>first|exact hc.elim|conv=>whnf)|refine kB ?_)
  all_goals first|exact again.mk ⟨_,by omega,i+1,rfl,rfl,rfl⟩|(exfalso;omega)
 ·(conv=>whnf);repeat' (first  |refine kA ?_;conv=>whnf|(apply Br.mk<;>intro hc<;>first|exact hc.elim|conv=>whnf)|refine kB ?_)
  all_goals first|rfl|(exfalso;omega)
theorem of_run {a b:GG} (ha:a.ok) (hb:b.ok) (pa:CX a) (pb:CX b) (ea:AZ a=0) (eb:AZ b=0):∃nn,Ag (Ac tab) 32 [a.av,b.av] (· =.BG [.sl nn (vs GC.av (DT a b)),.int .i64 0]):=by
 obtain⟨_,⟨n1,rfl⟩,pP⟩:=(ofP ha hb (fun _=>pa) (fun _=>pb)).IJ
 have hoL:ofL a b=DT a b:=by unfold ofL;rw[if_pos ea,if_pos eb]
 have hoE:ofE a b=0:=by unfold ofE;rw[if_pos ea,eb]
 rw[hoL,hoE]at pP
 exact⟨n1,pP⟩
theorem Aq5 {AP:Nat→Option Jc} {f es:Nat} {args elems:List AV} {s:Aq} {K:AV→Aq→Prop} (hcl:D9 args=true) (h:Am AP f args ⟨[],0⟩ fun out s'=>∃o g nn,out=.ok (.own o g 0 elems.length)∧nth s'.σ o=some (.arr g es nn true elems))
 (hk:∀nn,K (.own s.σ.length s.ctr 0 elems.length) (push s (.arr s.ctr es nn true elems))):∃N r s',Bv (run AP N) .own f args s=some (.ok r,s')∧K r s':=by
 obtain⟨N,out,s1,h1,o,g,nn,rfl,h2⟩:=h
 exact⟨N,_,_,by simp[Bv,hcl,h1,h2],hk nn⟩
theorem Aq6 {a b:GV} (ha:a.ok∧GY 12 a.av) (hb:b.ok∧GY 12 b.av):Ag (Ac tab) 88 [a.av,b.av] (· =.int .i64 (EL 12 a b)):=U8 12 ha.1 hb.1 (Ku ha.2) (Ku hb.2)
theorem Afe {l:List GP} {k:List UInt8}:Qi l k=(DX l k).av:=by
 unfold Qi DX
 have e:isK k=Zx k:=rfl
 rw[e]
 cases l.find? (Zx k)<;>rfl
theorem An6 {l:List GP} {nn:Bool} (h:IK l) {k:List UInt8}:Ag (Ac tab) 220 [.sl nn (vs GP.av l),.str k] (· =(DX l k).av):=by
 have:=Aq7 (l:=l) (nn:=nn) (k:=k) (by have:=h.1;omega)
 rwa [Afe]at this
theorem Aff {x y:GE}:Ag (Ac tab) 217 [x.av,y.av] (· =.bool (!Ci x y)):=by
 by_cases h:x.fr=y.fr∧x.to=y.to∧x.ty=y.ty
 ·rw[show (!Ci x y)=true by unfold Ci;rw[decide_eq_false (not_not_intro h)];rfl]
  obtain⟨h1,h2,h3⟩:=h
  refine Ad rfl rfl ?_
  (conv=>whnf);repeat' (first  |refine kA ?_;conv=>whnf|(apply Br.mk<;>intro hc<;>first|exact hc.elim|conv=>whnf)|refine kB ?_)
  all_goals first|rfl|exact absurd h1 (by assumption)|exact absurd h2 (by assumption)|exact absurd h3 (by assumption)
 ·rw[show (!Ci x y)=false by unfold Ci;rw[decide_eq_true h];rfl]
  refine Ad rfl rfl ?_
  (conv=>whnf);repeat' (first  |refine kA ?_;conv=>whnf|(apply Br.mk<;>intro hc<;>first|exact hc.elim|conv=>whnf)|refine kB ?_)
  all_goals first|rfl|exact absurd ⟨by assumption,by assumption,by assumption⟩ h
theorem An7 {l:List (List UInt8)} {x:List UInt8} {nn:Bool} (hl:l.length≤4000):Ag (Ac tab) 218 [.sl nn (vs .str l),.str x] (· =.bool (decide (x∈l))):=by
 refine Ad rfl rfl ?_
 (conv=>whnf);repeat' (first  |refine kA ?_;conv=>whnf|(apply Br.mk<;>intro hc<;>first|exact hc.elim|conv=>whnf)|refine kB ?_)
 refine Af (fun m env s=>∃i:Nat,m=l.length-i∧env=[(0,.sl nn (vs .str l)),(1,.str x),(5,.int .i64 i)]∧s=⟨[],0⟩∧x∉l.take i) ?_ _ _ _ ⟨0,rfl,rfl,rfl,by simp⟩
 rintro _ _ _ ⟨i,rfl,rfl,rfl,hx⟩
 refine⟨rfl,?_⟩
 (conv=>whnf);repeat' (first  |refine kA ?_;conv=>whnf|(apply Br.mk<;>intro hc<;>first|exact hc.elim|conv=>whnf)|refine kB ?_)
 ·subst hc;exact Bh (by simp)
 ·exact again.mk ⟨_,by omega,i+1,rfl,rfl,rfl,nms (by omega) hx hc⟩
 ·rw[CQ hc]at hx;exact Ar hx
theorem Aq8 {l:List GP} {x:List UInt8} {nn:Bool} (hl:l.length≤4000):Ag (Ac tab) 219 [.sl nn (vs GP.av l),.str x] (· =.bool (decide (x∈keysOf l))):=by
 refine Ad rfl rfl ?_
 (conv=>whnf);repeat' (first  |refine kA ?_;conv=>whnf|(apply Br.mk<;>intro hc<;>first|exact hc.elim|conv=>whnf)|refine kB ?_)
 refine Af (fun m env s=>∃i:Nat,m=l.length-i∧env=[(0,.sl nn (vs GP.av l)),(1,.str x),(5,.int .i64 i)]∧s=⟨[],0⟩∧x∉(keysOf l).take i) ?_ _ _ _ ⟨0,rfl,rfl,rfl,by simp⟩
 rintro _ _ _ ⟨i,rfl,rfl,rfl,hx⟩
 refine⟨rfl,?_⟩
 have hk:=Df l
 by_cases hlt:i<l.length
 ·have e:(keysOf l)[i]=l[i].key:=by simp[keysOf]
  (conv=>whnf);repeat' (first  |refine kA ?_;conv=>whnf|(apply Br.mk<;>intro hc<;>first|exact hc.elim|conv=>whnf)|refine kB ?_)
  all_goals first|(exfalso;omega)|exact Bh (List.mem_map.2 ⟨l[i],List.getElem_mem hlt,by assumption⟩)|exact again.mk ⟨_,by omega,i+1,rfl,rfl,rfl,nms (by omega) hx (by rw[e];assumption)⟩
 ·rw[List.take_of_length_le (by omega)]at hx
  (conv=>whnf);repeat' (first  |refine kA ?_;conv=>whnf|(apply Br.mk<;>intro hc<;>first|exact hc.elim|conv=>whnf)|refine kB ?_)
  all_goals first|(exfalso;omega)|exact Ar hx
theorem AdV {op id:Int} {l m:List (List UInt8)} {nl nm:Bool} (hl:l.length≤4000) (hm:m.length≤4000):Ag (Ac tab) 161 [.int .i64 op,.int .i64 id,.sl nl (vs .str l),.sl nm (vs .str m)] (fun v=>∃nn,v=.sl nn (vs GC.av (AQ op id l m))):=by
 refine Ad rfl rfl ?_
 (conv=>whnf);repeat' (first  |refine kA ?_;conv=>whnf|(apply Br.mk<;>intro hc<;>first|exact hc.elim|conv=>whnf)|refine kB ?_)
 refine Af (fun z env s=>∃(i c ga n:Nat) (fa:Bool) (D:List GC),z=l.length-i∧i≤l.length∧D=AQ op id (l.take i) m∧n=D.length∧D.length≤i∧env=[(0,.int .i64 op),(1,.int .i64 id),(2,.sl nl (vs .str l)),(3,.sl nm (vs .str m)),(9,.own 0 ga 0 n),(10,.int .i64 i)]∧s=⟨[.arr ga 10 fa true (vs GC.av D)],c⟩) ?_ _ _ _ ⟨0,_,_,_,_,[],rfl,by omega,rfl,rfl,by simp,rfl,rfl⟩
 rintro _ _ _ ⟨i,c,ga,n,fa,D,rfl,hi,hD,hn,hDl,rfl,rfl⟩
 refine⟨rfl,?_⟩
 by_cases hlt:i<l.length
 ·have hs:AQ op id (l.take (i+1)) m=AQ op id (l.take i) m++if decide (l[i]∉m)=true then[DU op id l[i]]else[]:=DK hlt
  have hq:=An7 (l:=m) (x:=l[i]) (nn:=nm) hm
  by_cases hx:l[i]∈m
  ·rw[if_neg (by simpa using hx),List.append_nil]at hs
   rw[← hs]at hD
   rw[decide_eq_true hx]at hq
   (conv=>whnf);repeat' (first|(refine Aa hq ?_;rintro _ rfl;conv=>whnf)|refine kA ?_;conv=>whnf|(apply Br.mk<;>intro hc<;>first|exact hc.elim|conv=>whnf)|refine kB ?_)
   all_goals first|exact again.mk ⟨_,by omega,i+1,_,_,_,_,D,rfl,by omega,hD,hn,by omega,rfl,rfl⟩|(exfalso;omega)
  ·rw[if_pos (by simpa using hx)]at hs
   have hD2:D++[DU op id l[i]]=AQ op id (l.take (i+1)) m:=by rw[hD];exact hs.symm
   rw[decide_eq_false hx]at hq
   (conv=>whnf);repeat' (first|(refine Aa hq ?_;rintro _ rfl;conv=>whnf)|(refine Dt (f:=GC.av) (l:=D) (x:=DU op id l[i]) Dv hn (by omega) ?_;conv=>whnf)|refine kA ?_;conv=>whnf|(apply Br.mk<;>intro hc<;>first|exact hc.elim|conv=>whnf)|refine kB ?_)
   all_goals first|exact again.mk ⟨_,by omega,i+1,_,_,_,_,D++[DU op id l[i]],rfl,by omega,hD2,by simp,by simp;omega,rfl,rfl⟩|(exfalso;omega)
 ·have e:i=l.length:=by omega
  subst e
  subst hn
  (conv=>whnf);repeat' (first  |refine kA ?_;conv=>whnf|(apply Br.mk<;>intro hc<;>first|exact hc.elim|conv=>whnf)|refine kB ?_)
  all_goals first|(exfalso;omega)|exact⟨fa,by rw[hD,List.take_length]⟩
theorem Ry {op id:Int} {l m:List GP} {nl nm:Bool} (hl:l.length≤4000) (hm:m.length≤4000):Ag (Ac tab) 162 [.int .i64 op,.int .i64 id,.sl nl (vs GP.av l),.sl nm (vs GP.av m)] (fun v=>∃nn,v=.sl nn (vs GC.av (AQ op id (keysOf l) (keysOf m)))):=by
 refine Ad rfl rfl ?_
 (conv=>whnf);repeat' (first  |refine kA ?_;conv=>whnf|(apply Br.mk<;>intro hc<;>first|exact hc.elim|conv=>whnf)|refine kB ?_)
 refine Af (fun z env s=>∃(i c ga n:Nat) (fa:Bool) (D:List GC),z=l.length-i∧i≤l.length∧D=AQ op id ((keysOf l).take i) (keysOf m)∧n=D.length∧D.length≤i∧env=[(0,.int .i64 op),(1,.int .i64 id),(2,.sl nl (vs GP.av l)),(3,.sl nm (vs GP.av m)),(9,.own 0 ga 0 n),(10,.int .i64 i)]∧s=⟨[.arr ga 10 fa true (vs GC.av D)],c⟩) ?_ _ _ _ ⟨0,_,_,_,_,[],rfl,by omega,rfl,rfl,by simp,rfl,rfl⟩
 rintro _ _ _ ⟨i,c,ga,n,fa,D,rfl,hi,hD,hn,hDl,rfl,rfl⟩
 refine⟨rfl,?_⟩
 by_cases hlt:i<l.length
 ·have hk:=Df l
  have e:(keysOf l)[i]=l[i].key:=by simp[keysOf]
  have hs:AQ op id ((keysOf l).take (i+1)) (keysOf m)=AQ op id ((keysOf l).take i) (keysOf m)++if decide ((keysOf l)[i]∉keysOf m)=true then[DU op id (keysOf l)[i]]else[]:=DK (by omega)
  rw[e]at hs
  have hq:=Aq8 (l:=m) (x:=l[i].key) (nn:=nm) hm
  by_cases hx:l[i].key∈keysOf m
  ·rw[if_neg (by simpa using hx),List.append_nil]at hs
   rw[← hs]at hD
   rw[decide_eq_true hx]at hq
   (conv=>whnf);repeat' (first|(refine Aa hq ?_;rintro _ rfl;conv=>whnf)|refine kA ?_;conv=>whnf|(apply Br.mk<;>intro hc<;>first|exact hc.elim|conv=>whnf)|refine kB ?_)
   all_goals first|exact again.mk ⟨_,by omega,i+1,_,_,_,_,D,rfl,by omega,hD,hn,by omega,rfl,rfl⟩|(exfalso;omega)
  ·rw[if_pos (by simpa using hx)]at hs
   have hD2:D++[DU op id l[i].key]=AQ op id ((keysOf l).take (i+1)) (keysOf m):=by rw[hD];exact hs.symm
   rw[decide_eq_false hx]at hq
   (conv=>whnf);repeat' (first|(refine Aa hq ?_;rintro _ rfl;conv=>whnf)|(refine Dt (f:=GC.av) (l:=D) (x:=DU op id l[i].key) Dv hn (by omega) ?_;conv=>whnf)|refine kA ?_;conv=>whnf|(apply Br.mk<;>intro hc<;>first|exact hc.elim|conv=>whnf)|refine kB ?_)
   all_goals first|exact again.mk ⟨_,by omega,i+1,_,_,_,_,D++[DU op id l[i].key],rfl,by omega,hD2,by simp,by simp;omega,rfl,rfl⟩|(exfalso;omega)
 ·have e:i=l.length:=by omega
  subst e
  subst hn
  (conv=>whnf);repeat' (first  |refine kA ?_;conv=>whnf|(apply Br.mk<;>intro hc<;>first|exact hc.elim|conv=>whnf)|refine kB ?_)
  all_goals first|(exfalso;omega)|exact⟨fa,by rw[hD,List.take_of_length_le (by rw[Df];exact Nat.le_refl _)]⟩
theorem PK {op id:Int} {l m:List GP} {nl nm:Bool} (hl:IK l) (hm:IK m) (hp4:allPlain m):Ag (Ac tab) 163 [.int .i64 op,.int .i64 id,.sl nl (vs GP.av l),.sl nm (vs GP.av m)] (fun v=>∃nn,v=.sl nn (vs GC.av (valuesL op id l m))):=by
 have hml:=hm.1
 refine Ad rfl rfl ?_
 (conv=>whnf);repeat' (first  |refine kA ?_;conv=>whnf|(apply Br.mk<;>intro hc<;>first|exact hc.elim|conv=>whnf)|refine kB ?_)
 refine Af (fun z env s=>∃(i c ga n:Nat) (fa:Bool) (D:List GC),z=m.length-i∧i≤m.length∧D=valuesL op id l (m.take i)∧n=D.length∧D.length≤i∧env=[(0,.int .i64 op),(1,.int .i64 id),(2,.sl nl (vs GP.av l)),(3,.sl nm (vs GP.av m)),(9,.own 0 ga 0 n),(10,.int .i64 i)]∧s=⟨[.arr ga 10 fa true (vs GC.av D)],c⟩) ?_ _ _ _ ⟨0,_,_,_,_,[],rfl,by omega,rfl,rfl,by simp,rfl,rfl⟩
 rintro _ _ _ ⟨i,c,ga,n,fa,D,rfl,hi,hD,hn,hDl,rfl,rfl⟩
 refine⟨rfl,?_⟩
 by_cases hlt:i<m.length
 ·have hs:valuesL op id l (m.take (i+1))=valuesL op id l (m.take i)++if decide (EL 12 (DX l m[i].key) m[i].v≠0)=true then[⟨op,id,0,0,m[i].key,m[i].v⟩]else[]:=DK hlt
  have hm0:=hm.2 _ (List.getElem_mem hlt)
  have hq:=Aq8 (l:=l) (x:=m[i].key) (nn:=nl) (by have:=hl.1;omega)
  have hp:=An6 (l:=l) (k:=m[i].key) (nn:=nl) hl
  have ho:=Aq6 (Qz hl.2 m[i].key) ⟨hm0.1.2,hm0.2⟩
  by_cases hky:m[i].key∈keysOf l
  case neg=>
   rw[decide_eq_false hky]at hq
   have hne:EL 12 (DX l m[i].key) m[i].v≠0:=by rw[Aa2 hky];exact Aa3 (hp4 _ (List.getElem_mem hlt))
   rw[if_pos (by simpa using hne)]at hs
   have hD2:D++[⟨op,id,0,0,m[i].key,m[i].v⟩]=valuesL op id l (m.take (i+1)):=by rw[hD];exact hs.symm
   (conv=>whnf);repeat' (first|(refine Aa hq ?_;rintro _ rfl;conv=>whnf)|(refine Dt (f:=GC.av) (l:=D) (x:=⟨op,id,0,0,m[i].key,m[i].v⟩) Dv hn (by omega) ?_;conv=>whnf)|refine kA ?_;conv=>whnf|(apply Br.mk<;>intro hc<;>first|exact hc.elim|conv=>whnf)|refine kB ?_)
   all_goals first|exact again.mk ⟨_,by omega,i+1,_,_,_,_,D++[⟨op,id,0,0,m[i].key,m[i].v⟩],rfl,by omega,hD2,by simp,by simp;omega,rfl,rfl⟩|(exfalso;omega)
  rw[decide_eq_true hky]at hq
  by_cases hx:EL 12 (DX l m[i].key) m[i].v=0
  ·rw[if_neg (by simpa using hx),List.append_nil]at hs
   rw[← hs]at hD
   (conv=>whnf);repeat' (first|((first|refine Aa hq ?_|refine Aa hp ?_|refine Aa ho ?_);rintro _ rfl;conv=>whnf)|refine kA ?_;conv=>whnf|(apply Br.mk<;>intro hc<;>first|exact hc.elim|conv=>whnf)|refine kB ?_)
   all_goals first|exact again.mk ⟨_,by omega,i+1,_,_,_,_,D,rfl,by omega,hD,hn,by omega,rfl,rfl⟩|(exfalso;omega)
  ·rw[if_pos (by simpa using hx)]at hs
   have hD2:D++[⟨op,id,0,0,m[i].key,m[i].v⟩]=valuesL op id l (m.take (i+1)):=by rw[hD];exact hs.symm
   (conv=>whnf);repeat' (first|((first|refine Aa hq ?_|refine Aa hp ?_|refine Aa ho ?_);rintro _ rfl;conv=>whnf)|(refine Dt (f:=GC.av) (l:=D) (x:=⟨op,id,0,0,m[i].key,m[i].v⟩) Dv hn (by omega) ?_;conv=>whnf)|refine kA ?_;conv=>whnf|(apply Br.mk<;>intro hc<;>first|exact hc.elim|conv=>whnf)|refine kB ?_)
   all_goals first|exact again.mk ⟨_,by omega,i+1,_,_,_,_,D++[⟨op,id,0,0,m[i].key,m[i].v⟩],rfl,by omega,hD2,by simp,by simp;omega,rfl,rfl⟩|(exfalso;omega)
 ·have e:i=m.length:=by omega
  subst e
  subst hn
  (conv=>whnf);repeat' (first  |refine kA ?_;conv=>whnf|(apply Br.mk<;>intro hc<;>first|exact hc.elim|conv=>whnf)|refine kB ?_)
  all_goals first|(exfalso;omega)|exact⟨fa,by rw[hD,List.take_length]⟩
theorem Ajb {g:GG} (h:CX g) {id:Int}:Ag (Ac tab) 71 [g.av,.int .i64 id] (· =JE g.edges id):=Amd (by have:=h.en;omega)
theorem Adh {g:GG} (h:CX g) {id:Int}:Ag (Ac tab) 70 [g.av,.int .i64 id] (· =Jj g.nodes id):=AdD (by have:=h.nn;omega)
theorem Adi {g:GG} (h:CX g) {e:GE}:Ag (Ac tab) 160 [e.av,g.av] (· =.bool (BZ g.edges e)):=by
 have hq:=Ajb h (id:=e.id)
 unfold JE at hq
 unfold BZ
 cases hf:g.edges.find? (XI e.id)with
 |none=>
  rw[hf]at hq
  refine Ad rfl rfl ?_
  (conv=>whnf);repeat' (first|(refine Aa hq ?_;rintro _ rfl;conv=>whnf)|refine kA ?_;conv=>whnf|(apply Br.mk<;>intro hc<;>first|exact hc.elim|conv=>whnf)|refine kB ?_)
  all_goals first|rfl
 |some y=>
  rw[hf]at hq
  have hm:=Aff (x:=e) (y:=y)
  show Ag _ _ _ (· =.bool (Ci e y))
  cases hmv:Ci e y
  all_goals
   rw[hmv]at hm
   refine Ad rfl rfl ?_
   (conv=>whnf);repeat' (first|((first|refine Aa hq ?_|refine Aa hm ?_);rintro _ rfl;conv=>whnf)|refine kA ?_;conv=>whnf|(apply Br.mk<;>intro hc<;>first|exact hc.elim|conv=>whnf)|refine kB ?_)
   all_goals first|rfl
set_option maxHeartbeats 1000000 in
theorem Ajc {a b:GG} (ha:CX a) (hb:CX b):Am (Ac tab) 89 [a.av,b.av] ⟨[],0⟩ fun out s'=>∃o g nn,out=.ok (.own o g 0 (vs GC.av (H8 a b)).length)∧nth s'.σ o=some (.arr g 10 nn true (vs GC.av (H8 a b))):=by
 have a1:=ha.nn
 have a2:=ha.en
 have b1:=hb.nn
 have b2:=hb.en
 refine Ah rfl rfl ?_
 (conv=>whnf);repeat' (first  |refine kA ?_;conv=>whnf|(apply Br.mk<;>intro hc<;>first|exact hc.elim|conv=>whnf)|refine kB ?_)
 refine Af (fun z env s=>∃(i c ga n:Nat) (fa:Bool) (D:List GC),z=a.edges.length-i∧i≤a.edges.length∧D=((a.edges.take i).filter (BZ b.edges)).map (fun x=>DU 7 x.id [])∧n=D.length∧D.length≤i∧env=[(2,.ref 0 0 0 0),(3,.ref 1 1 0 0),(5,.own 2 ga 0 n),(6,.int .i64 i)]∧s=⟨[.arr 0 4 true true [a.av],.arr 1 4 true true [b.av],.arr ga 10 fa true (vs GC.av D)],c⟩) ?_ _ _ _ ⟨0,_,_,_,_,[],rfl,by omega,by simp,rfl,by simp,rfl,rfl⟩
 rintro _ _ _ ⟨i,c,ga,n,fa,D,rfl,hi,hD,hn,hDl,rfl,rfl⟩
 refine⟨rfl,?_⟩
 by_cases hlt:i<a.edges.length
 ·have hs:((a.edges.take (i+1)).filter (BZ b.edges)).map (fun x=>DU 7 x.id [])=((a.edges.take i).filter (BZ b.edges)).map (fun x=>DU 7 x.id [])++if BZ b.edges a.edges[i]=true then[(fun x=>DU 7 x.id []) a.edges[i]]else[]:=DK hlt
  have hq:=Adi hb (e:=a.edges[i])
  cases hg:BZ b.edges a.edges[i]
  ·rw[hg]at hq
   rw[if_neg (by rw[hg];exact Bool.false_ne_true),List.append_nil]at hs
   rw[← hs]at hD
   (conv=>whnf);repeat' (first|(refine Aa hq ?_;rintro _ rfl;conv=>whnf)|refine kA ?_;conv=>whnf|(apply Br.mk<;>intro hc<;>first|exact hc.elim|conv=>whnf)|refine kB ?_)
   all_goals first|exact again.mk ⟨_,by omega,i+1,_,_,_,_,D,rfl,by omega,hD,hn,by first|omega|(simp only[List.length_append,List.length_singleton];omega),rfl,rfl⟩|(exfalso;omega)
  ·rw[hg]at hq
   rw[if_pos hg]at hs
   have hD2:D++[DU 7 a.edges[i].id []]=((a.edges.take (i+1)).filter (BZ b.edges)).map (fun x=>DU 7 x.id []):=by rw[hs,hD]
   (conv=>whnf);repeat' (first|(refine Aa hq ?_;rintro _ rfl;conv=>whnf)|(refine Dt (f:=GC.av) (l:=D) (x:=DU 7 a.edges[i].id []) Dv hn (by omega) ?_;conv=>whnf)|refine kA ?_;conv=>whnf|(apply Br.mk<;>intro hc<;>first|exact hc.elim|conv=>whnf)|refine kB ?_)
   all_goals first|exact again.mk ⟨_,by omega,i+1,_,_,_,_,D++[DU 7 a.edges[i].id []],rfl,by omega,hD2,by simp,by first|omega|(simp only[List.length_append,List.length_singleton];omega),rfl,rfl⟩|(exfalso;omega)
 rw[List.take_of_length_le (by omega)]at hD
 have hD1:D.length≤100:=by omega
 clear hDl
 obtain⟨E,hE⟩:∃E,E=D:=⟨_,rfl⟩
 subst hE
 have hDE:=hD
 clear hD
 (conv=>whnf);repeat' (first  |refine kA ?_;conv=>whnf|(apply Br.mk<;>intro hc<;>first|exact hc.elim|conv=>whnf)|refine kB ?_)
 all_goals first|(exfalso;omega)|skip
 refine Af (fun z env s=>∃(i c ga n:Nat) (fa:Bool) (D:List GC),z=a.nodes.length-i∧i≤a.nodes.length∧D=E++((a.nodes.take i).filter (Ej b.nodes)).map (fun n=>DU 2 n.id [])∧n=D.length∧D.length≤E.length+i∧env=[(2,.ref 0 0 0 0),(3,.ref 1 1 0 0),(5,.own 2 ga 0 n),(7,.int .i64 i)]∧s=⟨[.arr 0 4 true true [a.av],.arr 1 4 true true [b.av],.arr ga 10 fa true (vs GC.av D)],c⟩) ?_ _ _ _ ⟨0,_,_,_,_,E,rfl,by omega,by simp,by first|assumption|rfl,by omega,rfl,rfl⟩
 rintro _ _ _ ⟨i,c,ga,n,fa,D,rfl,hi,hD,hn,hDl,rfl,rfl⟩
 refine⟨rfl,?_⟩
 by_cases hlt:i<a.nodes.length
 ·have hs:((a.nodes.take (i+1)).filter (Ej b.nodes)).map (fun n=>DU 2 n.id [])=((a.nodes.take i).filter (Ej b.nodes)).map (fun n=>DU 2 n.id [])++if Ej b.nodes a.nodes[i]=true then[(fun n=>DU 2 n.id []) a.nodes[i]]else[]:=DK hlt
  have hq:=Adh hb (id:=a.nodes[i].id)
  unfold Jj at hq
  cases hf:b.nodes.find? (X9 a.nodes[i].id)with
  |none=>
   rw[hf]at hq
   have hg:Ej b.nodes a.nodes[i]=true:=by unfold Ej;rw[hf];rfl
   rw[if_pos hg]at hs
   have hD2:D++[DU 2 a.nodes[i].id []]=E++((a.nodes.take (i+1)).filter (Ej b.nodes)).map (fun n=>DU 2 n.id []):=by rw[hs,hD,List.append_assoc]
   (conv=>whnf);repeat' (first|(refine Aa hq ?_;rintro _ rfl;conv=>whnf)|(refine Dt (f:=GC.av) (l:=D) (x:=DU 2 a.nodes[i].id []) Dv hn (by omega) ?_;conv=>whnf)|refine kA ?_;conv=>whnf|(apply Br.mk<;>intro hc<;>first|exact hc.elim|conv=>whnf)|refine kB ?_)
   all_goals first|exact again.mk ⟨_,by omega,i+1,_,_,_,_,D++[DU 2 a.nodes[i].id []],rfl,by omega,hD2,by simp,by first|omega|(simp only[List.length_append,List.length_singleton];omega),rfl,rfl⟩|(exfalso;omega)
  |some y=>
   rw[hf]at hq
   have hg:Ej b.nodes a.nodes[i]=false:=by unfold Ej;rw[hf];rfl
   rw[if_neg (by rw[hg];exact Bool.false_ne_true),List.append_nil]at hs
   rw[← hs]at hD
   (conv=>whnf);repeat' (first|(refine Aa hq ?_;rintro _ rfl;conv=>whnf)|refine kA ?_;conv=>whnf|(apply Br.mk<;>intro hc<;>first|exact hc.elim|conv=>whnf)|refine kB ?_)
   all_goals first|exact again.mk ⟨_,by omega,i+1,_,_,_,_,D,rfl,by omega,hD,hn,by first|omega|(simp only[List.length_append,List.length_singleton];omega),rfl,rfl⟩|(exfalso;omega)
 ·rw[List.take_of_length_le (by omega),hDE]at hD
  have hG:D=H8 a b:=hD
  subst hn
  rw[← hG]
  (conv=>whnf);repeat' (first  |refine kA ?_;conv=>whnf|(apply Br.mk<;>intro hc<;>first|exact hc.elim|conv=>whnf)|refine kB ?_)
  all_goals first|exact⟨2,_,fa,by rw[lV];rfl,rfl⟩|(exfalso;omega)
set_option maxHeartbeats 1000000 in
theorem AlQ {a b:GG} (ha:CX a) (hb:CX b):Ag (Ac tab) 90 [a.av,b.av] (fun v=>∃nn,v=.sl nn (vs GC.av (P7 a b))∧(P7 a b).length≤7000):=by
 have a1:=ha.nn
 have a2:=ha.en
 have b1:=hb.nn
 have b2:=hb.en
 refine Ad rfl rfl ?_
 (conv=>whnf);repeat' (first  |refine kA ?_;conv=>whnf|(apply Br.mk<;>intro hc<;>first|exact hc.elim|conv=>whnf)|refine kB ?_)
 refine Af (fun z env s=>∃(i c ga n:Nat) (fa:Bool) (D:List GC),z=b.nodes.length-i∧i≤b.nodes.length∧D=((b.nodes.take i).filter (Ej a.nodes)).map (fun n=>DU 1 n.id [])∧n=D.length∧D.length≤i∧env=[(2,.ref 0 0 0 0),(3,.ref 1 1 0 0),(5,.own 2 ga 0 n),(6,.int .i64 i)]∧s=⟨[.arr 0 4 true true [a.av],.arr 1 4 true true [b.av],.arr ga 10 fa true (vs GC.av D)],c⟩) ?_ _ _ _ ⟨0,_,_,_,_,[],rfl,by omega,by simp,rfl,by simp,rfl,rfl⟩
 rintro _ _ _ ⟨i,c,ga,n,fa,D,rfl,hi,hD,hn,hDl,rfl,rfl⟩
 refine⟨rfl,?_⟩
 by_cases hlt:i<b.nodes.length
 ·have hs:((b.nodes.take (i+1)).filter (Ej a.nodes)).map (fun n=>DU 1 n.id [])=((b.nodes.take i).filter (Ej a.nodes)).map (fun n=>DU 1 n.id [])++if Ej a.nodes b.nodes[i]=true then[(fun n=>DU 1 n.id []) b.nodes[i]]else[]:=DK hlt
  have hq:=Adh ha (id:=b.nodes[i].id)
  unfold Jj at hq
  cases hf:a.nodes.find? (X9 b.nodes[i].id)with
  |none=>
   rw[hf]at hq
   have hg:Ej a.nodes b.nodes[i]=true:=by unfold Ej;rw[hf];rfl
   rw[if_pos hg]at hs
   have hD2:D++[DU 1 b.nodes[i].id []]=((b.nodes.take (i+1)).filter (Ej a.nodes)).map (fun n=>DU 1 n.id []):=by rw[hs,hD]
   (conv=>whnf);repeat' (first|(refine Aa hq ?_;rintro _ rfl;conv=>whnf)|(refine Dt (f:=GC.av) (l:=D) (x:=DU 1 b.nodes[i].id []) Dv hn (by omega) ?_;conv=>whnf)|refine kA ?_;conv=>whnf|(apply Br.mk<;>intro hc<;>first|exact hc.elim|conv=>whnf)|refine kB ?_)
   all_goals first|exact again.mk ⟨_,by omega,i+1,_,_,_,_,D++[DU 1 b.nodes[i].id []],rfl,by omega,hD2,by simp,by first|omega|(simp only[List.length_append,List.length_singleton];omega),rfl,rfl⟩|(exfalso;omega)
  |some y=>
   rw[hf]at hq
   have hg:Ej a.nodes b.nodes[i]=false:=by unfold Ej;rw[hf];rfl
   rw[if_neg (by rw[hg];exact Bool.false_ne_true),List.append_nil]at hs
   rw[← hs]at hD
   (conv=>whnf);repeat' (first|(refine Aa hq ?_;rintro _ rfl;conv=>whnf)|refine kA ?_;conv=>whnf|(apply Br.mk<;>intro hc<;>first|exact hc.elim|conv=>whnf)|refine kB ?_)
   all_goals first|exact again.mk ⟨_,by omega,i+1,_,_,_,_,D,rfl,by omega,hD,hn,by first|omega|(simp only[List.length_append,List.length_singleton];omega),rfl,rfl⟩|(exfalso;omega)
 rw[List.take_of_length_le (by omega)]at hD
 have hD1:D.length≤100:=by omega
 clear hDl
 obtain⟨E,hE⟩:∃E,E=D:=⟨_,rfl⟩
 subst hE
 have hDE:=hD
 clear hD
 (conv=>whnf);repeat' (first  |refine kA ?_;conv=>whnf|(apply Br.mk<;>intro hc<;>first|exact hc.elim|conv=>whnf)|refine kB ?_)
 all_goals first|(exfalso;omega)|skip
 refine Af (fun z env s=>∃(i c ga n:Nat) (fa:Bool) (D:List GC),z=b.nodes.length-i∧i≤b.nodes.length∧D=E++(b.nodes.take i).flatMap (H9 a.nodes)∧n=D.length∧D.length≤E.length+60*i∧env=[(2,.ref 0 0 0 0),(3,.ref 1 1 0 0),(5,.own 2 ga 0 n),(9,.int .i64 i)]∧s=⟨[.arr 0 4 true true [a.av],.arr 1 4 true true [b.av],.arr ga 10 fa true (vs GC.av D)],c⟩) ?_ _ _ _ ⟨0,_,_,_,_,E,rfl,by omega,by simp,by first|assumption|rfl,by omega,rfl,rfl⟩
 rintro _ _ _ ⟨i,c,ga,n,fa,D,rfl,hi,hD,hn,hDl,rfl,rfl⟩
 refine⟨rfl,?_⟩
 by_cases hlt:i<b.nodes.length
 ·have hs:(b.nodes.take (i+1)).flatMap (H9 a.nodes)=(b.nodes.take i).flatMap (H9 a.nodes)++H9 a.nodes b.nodes[i]:=Rq hlt
  obtain⟨t,ht⟩:=Am7 a.nodes b.nodes[i]
  have hq:=Adh ha (id:=b.nodes[i].id)
  have hw:=Y1 ha b.nodes[i]
  have hL:H9 a.nodes b.nodes[i]=AQ 4 b.nodes[i].id (Fg a.nodes b.nodes[i]).labels b.nodes[i].labels++(AQ 5 b.nodes[i].id (keysOf (Fg a.nodes b.nodes[i]).props) (keysOf b.nodes[i].props)++(AQ 3 b.nodes[i].id b.nodes[i].labels (Fg a.nodes b.nodes[i]).labels++valuesL 5 b.nodes[i].id (Fg a.nodes b.nodes[i]).props b.nodes[i].props)):=rfl
  rw[ht]at hq
  clear ht
  generalize Fg a.nodes b.nodes[i]=W at hq hw hL
  obtain⟨w1,w2,w3⟩:=hw
  obtain⟨_,m1,m2,m3,m4⟩:=hb.nodes _ (List.getElem_mem hlt)
  have q1:=Df W.props
  have l1:=Ec (op:=4) (id:=b.nodes[i].id) (l:=W.labels) (m:=b.nodes[i].labels)
  have l2:=Ec (op:=5) (id:=b.nodes[i].id) (l:=keysOf W.props) (m:=keysOf b.nodes[i].props)
  have l3:=Ec (op:=3) (id:=b.nodes[i].id) (l:=b.nodes[i].labels) (m:=W.labels)
  have l4:=Fq (op:=5) (id:=b.nodes[i].id) (a:=W.props) (b:=b.nodes[i].props)
  have c1:=AdV (op:=4) (id:=b.nodes[i].id) (l:=W.labels) (m:=b.nodes[i].labels) (nl:=W.ln) (nm:=b.nodes[i].ln) (by omega) (by omega)
  have c2:=Ry (op:=5) (id:=b.nodes[i].id) (l:=W.props) (m:=b.nodes[i].props) (nl:=W.pn) (nm:=b.nodes[i].pn) (by omega) (by omega)
  have c3:=AdV (op:=3) (id:=b.nodes[i].id) (l:=b.nodes[i].labels) (m:=W.labels) (nl:=b.nodes[i].ln) (nm:=W.ln) (by omega) (by omega)
  have c4:=PK (op:=5) (id:=b.nodes[i].id) (l:=W.props) (m:=b.nodes[i].props) (nl:=W.pn) (nm:=b.nodes[i].pn) w3 m3 m4
  have hD2:((((D++AQ 4 b.nodes[i].id W.labels b.nodes[i].labels)++AQ 5 b.nodes[i].id (keysOf W.props) (keysOf b.nodes[i].props))++AQ 3 b.nodes[i].id b.nodes[i].labels W.labels)++valuesL 5 b.nodes[i].id W.props b.nodes[i].props)=E++(b.nodes.take (i+1)).flatMap (H9 a.nodes):=by rw[hs,hL,hD];simp only[List.append_assoc]
  cases t
  all_goals
   (conv=>whnf);repeat' (first|(refine Aa hq ?_;rintro _ rfl;conv=>whnf)|(refine Aa c1 ?_;rintro _ ⟨nc1,rfl⟩;conv=>whnf)|(refine Aa c2 ?_;rintro _ ⟨nc2,rfl⟩;conv=>whnf)|(refine Aa c3 ?_;rintro _ ⟨nc3,rfl⟩;conv=>whnf)|(refine Aa c4 ?_;rintro _ ⟨nc4,rfl⟩;conv=>whnf)|(refine P6 (f:=GC.av) (l:=D) (l':=AQ 4 b.nodes[i].id W.labels b.nodes[i].labels) rfl Dv hn (by first|omega|(simp only[List.length_append];omega)) (fun bb=>?_);conv=>whnf)|(refine P6 (f:=GC.av) (l:=(D++AQ 4 b.nodes[i].id W.labels b.nodes[i].labels)) (l':=AQ 5 b.nodes[i].id (keysOf W.props) (keysOf b.nodes[i].props)) rfl Dv (by simp only[List.length_append]) (by first|omega|(simp only[List.length_append];omega)) (fun bb=>?_);conv=>whnf)|(refine P6 (f:=GC.av) (l:=((D++AQ 4 b.nodes[i].id W.labels b.nodes[i].labels)++AQ 5 b.nodes[i].id (keysOf W.props) (keysOf b.nodes[i].props))) (l':=AQ 3 b.nodes[i].id b.nodes[i].labels W.labels) rfl Dv (by simp only[List.length_append]) (by first|omega|(simp only[List.length_append];omega)) (fun bb=>?_);conv=>whnf)|(refine P6 (f:=GC.av) (l:=(((D++AQ 4 b.nodes[i].id W.labels b.nodes[i].labels)++AQ 5 b.nodes[i].id (keysOf W.props) (keysOf b.nodes[i].props))++AQ 3 b.nodes[i].id b.nodes[i].labels W.labels)) (l':=valuesL 5 b.nodes[i].id W.props b.nodes[i].props) rfl Dv (by simp only[List.length_append]) (by first|omega|(simp only[List.length_append];omega)) (fun bb=>?_);conv=>whnf)|refine kA ?_;conv=>whnf|(apply Br.mk<;>intro hc<;>first|exact hc.elim|conv=>whnf)|refine kB ?_)
   all_goals first|exact again.mk ⟨_,by omega,i+1,_,_,_,_,((((D++AQ 4 b.nodes[i].id W.labels b.nodes[i].labels)++AQ 5 b.nodes[i].id (keysOf W.props) (keysOf b.nodes[i].props))++AQ 3 b.nodes[i].id b.nodes[i].labels W.labels)++valuesL 5 b.nodes[i].id W.props b.nodes[i].props),rfl,by omega,hD2,by simp only[List.length_append],by simp only[List.length_append];omega,rfl,rfl⟩|(exfalso;omega)
 ·rw[List.take_of_length_le (by omega),hDE]at hD
  have hG:D=P7 a b:=hD
  subst hn
  rw[← hG]
  (conv=>whnf);repeat' (first  |refine kA ?_;conv=>whnf|(apply Br.mk<;>intro hc<;>first|exact hc.elim|conv=>whnf)|refine kB ?_)
  all_goals first|exact⟨fa,rfl,by omega⟩|(exfalso;omega)
set_option maxHeartbeats 1000000 in
theorem AlR {a b:GG} (ha:CX a) (hb:CX b):Ag (Ac tab) 91 [a.av,b.av] (fun v=>∃nn,v=.sl nn (vs GC.av (Ro a b))∧(Ro a b).length≤7000):=by
 have a1:=ha.nn
 have a2:=ha.en
 have b1:=hb.nn
 have b2:=hb.en
 refine Ad rfl rfl ?_
 (conv=>whnf);repeat' (first  |refine kA ?_;conv=>whnf|(apply Br.mk<;>intro hc<;>first|exact hc.elim|conv=>whnf)|refine kB ?_)
 refine Af (fun z env s=>∃(i c ga n:Nat) (fa:Bool) (D:List GC),z=b.edges.length-i∧i≤b.edges.length∧D=((b.edges.take i).filter (BZ a.edges)).map newE∧n=D.length∧D.length≤i∧env=[(2,.ref 0 0 0 0),(3,.ref 1 1 0 0),(5,.own 2 ga 0 n),(6,.int .i64 i)]∧s=⟨[.arr 0 4 true true [a.av],.arr 1 4 true true [b.av],.arr ga 10 fa true (vs GC.av D)],c⟩) ?_ _ _ _ ⟨0,_,_,_,_,[],rfl,by omega,by simp,rfl,by simp,rfl,rfl⟩
 rintro _ _ _ ⟨i,c,ga,n,fa,D,rfl,hi,hD,hn,hDl,rfl,rfl⟩
 refine⟨rfl,?_⟩
 by_cases hlt:i<b.edges.length
 ·have hs:((b.edges.take (i+1)).filter (BZ a.edges)).map newE=((b.edges.take i).filter (BZ a.edges)).map newE++if BZ a.edges b.edges[i]=true then[newE b.edges[i]]else[]:=DK hlt
  have hq:=Adi ha (e:=b.edges[i])
  cases hg:BZ a.edges b.edges[i]
  ·rw[hg]at hq
   rw[if_neg (by rw[hg];exact Bool.false_ne_true),List.append_nil]at hs
   rw[← hs]at hD
   (conv=>whnf);repeat' (first|(refine Aa hq ?_;rintro _ rfl;conv=>whnf)|refine kA ?_;conv=>whnf|(apply Br.mk<;>intro hc<;>first|exact hc.elim|conv=>whnf)|refine kB ?_)
   all_goals first|exact again.mk ⟨_,by omega,i+1,_,_,_,_,D,rfl,by omega,hD,hn,by first|omega|(simp only[List.length_append,List.length_singleton];omega),rfl,rfl⟩|(exfalso;omega)
  ·rw[hg]at hq
   rw[if_pos hg]at hs
   have hD2:D++[newE b.edges[i]]=((b.edges.take (i+1)).filter (BZ a.edges)).map newE:=by rw[hs,hD]
   (conv=>whnf);repeat' (first|(refine Aa hq ?_;rintro _ rfl;conv=>whnf)|(refine Dt (f:=GC.av) (l:=D) (x:=newE b.edges[i]) Dv hn (by omega) ?_;conv=>whnf)|refine kA ?_;conv=>whnf|(apply Br.mk<;>intro hc<;>first|exact hc.elim|conv=>whnf)|refine kB ?_)
   all_goals first|exact again.mk ⟨_,by omega,i+1,_,_,_,_,D++[newE b.edges[i]],rfl,by omega,hD2,by simp,by first|omega|(simp only[List.length_append,List.length_singleton];omega),rfl,rfl⟩|(exfalso;omega)
 rw[List.take_of_length_le (by omega)]at hD
 have hD1:D.length≤100:=by omega
 clear hDl
 obtain⟨E,hE⟩:∃E,E=D:=⟨_,rfl⟩
 subst hE
 have hDE:=hD
 clear hD
 (conv=>whnf);repeat' (first  |refine kA ?_;conv=>whnf|(apply Br.mk<;>intro hc<;>first|exact hc.elim|conv=>whnf)|refine kB ?_)
 all_goals first|(exfalso;omega)|skip
 refine Af (fun z env s=>∃(i c ga n:Nat) (fa:Bool) (D:List GC),z=b.edges.length-i∧i≤b.edges.length∧D=E++(b.edges.take i).flatMap (D8 a.edges)∧n=D.length∧D.length≤E.length+60*i∧env=[(2,.ref 0 0 0 0),(3,.ref 1 1 0 0),(5,.own 2 ga 0 n),(8,.int .i64 i)]∧s=⟨[.arr 0 4 true true [a.av],.arr 1 4 true true [b.av],.arr ga 10 fa true (vs GC.av D)],c⟩) ?_ _ _ _ ⟨0,_,_,_,_,E,rfl,by omega,by simp,by first|assumption|rfl,by omega,rfl,rfl⟩
 rintro _ _ _ ⟨i,c,ga,n,fa,D,rfl,hi,hD,hn,hDl,rfl,rfl⟩
 refine⟨rfl,?_⟩
 by_cases hlt:i<b.edges.length
 ·have hs:(b.edges.take (i+1)).flatMap (D8 a.edges)=(b.edges.take i).flatMap (D8 a.edges)++D8 a.edges b.edges[i]:=Rq hlt
  have hq:=Ajb ha (id:=b.edges[i].id)
  have hg:=Adi ha (e:=b.edges[i])
  unfold JE at hq
  unfold BZ at hg
  obtain⟨_,m2,m3,m4⟩:=hb.edges _ (List.getElem_mem hlt)
  cases hf:a.edges.find? (XI b.edges[i].id)with
  |none=>
   rw[hf]at hq hg
   have hwp:=Ajd hf
   have hw:IK ([]:List GP):=⟨by decide,fun p hp=>by cases hp⟩
   have hL:D8 a.edges b.edges[i]=AQ 8 b.edges[i].id (keysOf ([]:List GP)) (keysOf b.edges[i].props)++valuesL 8 b.edges[i].id ([]:List GP) b.edges[i].props:=by unfold D8;rw[hwp]
   have hlp:([]:List GP).length≤16:=by first|decide|exact hw16
   have q1:=Df ([]:List GP)
   have l1:=Ec (op:=8) (id:=b.edges[i].id) (l:=keysOf ([]:List GP)) (m:=keysOf b.edges[i].props)
   have l4:=Fq (op:=8) (id:=b.edges[i].id) (a:=([]:List GP)) (b:=b.edges[i].props)
   have c1:=Ry (op:=8) (id:=b.edges[i].id) (l:=([]:List GP)) (m:=b.edges[i].props) (nl:=false) (nm:=b.edges[i].pn) (by omega) (by omega)
   have c4:=PK (op:=8) (id:=b.edges[i].id) (l:=([]:List GP)) (m:=b.edges[i].props) (nl:=false) (nm:=b.edges[i].pn) hw m3 m4
   have hD2:((D++AQ 8 b.edges[i].id (keysOf ([]:List GP)) (keysOf b.edges[i].props))++valuesL 8 b.edges[i].id ([]:List GP) b.edges[i].props)=E++(b.edges.take (i+1)).flatMap (D8 a.edges):=by rw[hs,hL,hD];simp only[List.append_assoc]
   (conv=>whnf);repeat' (first|((first|refine Aa hg ?_|refine Aa hq ?_);rintro _ rfl;conv=>whnf)|(refine Aa c1 ?_;rintro _ ⟨n1,rfl⟩;conv=>whnf)|(refine Aa c4 ?_;rintro _ ⟨n4,rfl⟩;conv=>whnf)|(refine P6 (f:=GC.av) (l:=D) (l':=AQ 8 b.edges[i].id (keysOf ([]:List GP)) (keysOf b.edges[i].props)) rfl Dv hn (by first|omega|(simp only[List.length_append];omega)) (fun bb=>?_);conv=>whnf)|(refine P6 (f:=GC.av) (l:=(D++AQ 8 b.edges[i].id (keysOf ([]:List GP)) (keysOf b.edges[i].props))) (l':=valuesL 8 b.edges[i].id ([]:List GP) b.edges[i].props) rfl Dv (by simp only[List.length_append]) (by first|omega|(simp only[List.length_append];omega)) (fun bb=>?_);conv=>whnf)|refine kA ?_;conv=>whnf|(apply Br.mk<;>intro hc<;>first|exact hc.elim|conv=>whnf)|refine kB ?_)
   all_goals first|exact again.mk ⟨_,by omega,i+1,_,_,_,_,((D++AQ 8 b.edges[i].id (keysOf ([]:List GP)) (keysOf b.edges[i].props))++valuesL 8 b.edges[i].id ([]:List GP) b.edges[i].props),rfl,by omega,hD2,by simp only[List.length_append],by simp only[List.length_append];omega,rfl,rfl⟩|(exfalso;omega)
  |some y=>
   rw[hf]at hq hg
   have hy:=ha.edges _ (List.mem_of_find?_eq_some hf)
   dsimp only at hg
   cases hmv:Ci b.edges[i] y
   ·rw[hmv]at hg
    have hwp:=Aje hf hmv
    have hw16:=hy.2.1
    have hw:=hy.2.2.1
    have hL:D8 a.edges b.edges[i]=AQ 8 b.edges[i].id (keysOf y.props) (keysOf b.edges[i].props)++valuesL 8 b.edges[i].id y.props b.edges[i].props:=by unfold D8;rw[hwp]
    have hlp:y.props.length≤16:=by first|decide|exact hw16
    have q1:=Df y.props
    have l1:=Ec (op:=8) (id:=b.edges[i].id) (l:=keysOf y.props) (m:=keysOf b.edges[i].props)
    have l4:=Fq (op:=8) (id:=b.edges[i].id) (a:=y.props) (b:=b.edges[i].props)
    have c1:=Ry (op:=8) (id:=b.edges[i].id) (l:=y.props) (m:=b.edges[i].props) (nl:=y.pn) (nm:=b.edges[i].pn) (by omega) (by omega)
    have c4:=PK (op:=8) (id:=b.edges[i].id) (l:=y.props) (m:=b.edges[i].props) (nl:=y.pn) (nm:=b.edges[i].pn) hw m3 m4
    have hD2:((D++AQ 8 b.edges[i].id (keysOf y.props) (keysOf b.edges[i].props))++valuesL 8 b.edges[i].id y.props b.edges[i].props)=E++(b.edges.take (i+1)).flatMap (D8 a.edges):=by rw[hs,hL,hD];simp only[List.append_assoc]
    (conv=>whnf);repeat' (first|((first|refine Aa hg ?_|refine Aa hq ?_);rintro _ rfl;conv=>whnf)|(refine Aa c1 ?_;rintro _ ⟨n1,rfl⟩;conv=>whnf)|(refine Aa c4 ?_;rintro _ ⟨n4,rfl⟩;conv=>whnf)|(refine P6 (f:=GC.av) (l:=D) (l':=AQ 8 b.edges[i].id (keysOf y.props) (keysOf b.edges[i].props)) rfl Dv hn (by first|omega|(simp only[List.length_append];omega)) (fun bb=>?_);conv=>whnf)|(refine P6 (f:=GC.av) (l:=(D++AQ 8 b.edges[i].id (keysOf y.props) (keysOf b.edges[i].props))) (l':=valuesL 8 b.edges[i].id y.props b.edges[i].props) rfl Dv (by simp only[List.length_append]) (by first|omega|(simp only[List.length_append];omega)) (fun bb=>?_);conv=>whnf)|refine kA ?_;conv=>whnf|(apply Br.mk<;>intro hc<;>first|exact hc.elim|conv=>whnf)|refine kB ?_)
    all_goals first|exact again.mk ⟨_,by omega,i+1,_,_,_,_,((D++AQ 8 b.edges[i].id (keysOf y.props) (keysOf b.edges[i].props))++valuesL 8 b.edges[i].id y.props b.edges[i].props),rfl,by omega,hD2,by simp only[List.length_append],by simp only[List.length_append];omega,rfl,rfl⟩|(exfalso;omega)
   ·rw[hmv]at hg
    have hwp:=Ajf hf hmv
    have hw:IK ([]:List GP):=⟨by decide,fun p hp=>by cases hp⟩
    have hL:D8 a.edges b.edges[i]=AQ 8 b.edges[i].id (keysOf ([]:List GP)) (keysOf b.edges[i].props)++valuesL 8 b.edges[i].id ([]:List GP) b.edges[i].props:=by unfold D8;rw[hwp]
    have hlp:([]:List GP).length≤16:=by first|decide|exact hw16
    have q1:=Df ([]:List GP)
    have l1:=Ec (op:=8) (id:=b.edges[i].id) (l:=keysOf ([]:List GP)) (m:=keysOf b.edges[i].props)
    have l4:=Fq (op:=8) (id:=b.edges[i].id) (a:=([]:List GP)) (b:=b.edges[i].props)
    have c1:=Ry (op:=8) (id:=b.edges[i].id) (l:=([]:List GP)) (m:=b.edges[i].props) (nl:=false) (nm:=b.edges[i].pn) (by omega) (by omega)
    have c4:=PK (op:=8) (id:=b.edges[i].id) (l:=([]:List GP)) (m:=b.edges[i].props) (nl:=false) (nm:=b.edges[i].pn) hw m3 m4
    have hD2:((D++AQ 8 b.edges[i].id (keysOf ([]:List GP)) (keysOf b.edges[i].props))++valuesL 8 b.edges[i].id ([]:List GP) b.edges[i].props)=E++(b.edges.take (i+1)).flatMap (D8 a.edges):=by rw[hs,hL,hD];simp only[List.append_assoc]
    (conv=>whnf);repeat' (first|((first|refine Aa hg ?_|refine Aa hq ?_);rintro _ rfl;conv=>whnf)|(refine Aa c1 ?_;rintro _ ⟨n1,rfl⟩;conv=>whnf)|(refine Aa c4 ?_;rintro _ ⟨n4,rfl⟩;conv=>whnf)|(refine P6 (f:=GC.av) (l:=D) (l':=AQ 8 b.edges[i].id (keysOf ([]:List GP)) (keysOf b.edges[i].props)) rfl Dv hn (by first|omega|(simp only[List.length_append];omega)) (fun bb=>?_);conv=>whnf)|(refine P6 (f:=GC.av) (l:=(D++AQ 8 b.edges[i].id (keysOf ([]:List GP)) (keysOf b.edges[i].props))) (l':=valuesL 8 b.edges[i].id ([]:List GP) b.edges[i].props) rfl Dv (by simp only[List.length_append]) (by first|omega|(simp only[List.length_append];omega)) (fun bb=>?_);conv=>whnf)|refine kA ?_;conv=>whnf|(apply Br.mk<;>intro hc<;>first|exact hc.elim|conv=>whnf)|refine kB ?_)
    all_goals first|exact again.mk ⟨_,by omega,i+1,_,_,_,_,((D++AQ 8 b.edges[i].id (keysOf ([]:List GP)) (keysOf b.edges[i].props))++valuesL 8 b.edges[i].id ([]:List GP) b.edges[i].props),rfl,by omega,hD2,by simp only[List.length_append],by simp only[List.length_append];omega,rfl,rfl⟩|(exfalso;omega)
 ·rw[List.take_of_length_le (by omega),hDE]at hD
  have hG:D=Ro a b:=hD
  subst hn
  rw[← hG]
  (conv=>whnf);repeat' (first  |refine kA ?_;conv=>whnf|(apply Br.mk<;>intro hc<;>first|exact hc.elim|conv=>whnf)|refine kB ?_)
  all_goals first|exact⟨fa,rfl,by omega⟩|(exfalso;omega)
theorem AfU {a b:GG} (pa:CX a):(H8 a b).length≤200:=by
 have x1:=pa.nn
 have x2:=pa.en
 have y1:=List.length_filter_le (BZ b.edges) a.edges
 have y2:=List.length_filter_le (Ej b.nodes) a.nodes
 unfold H8
 rw[List.length_append,List.length_map,List.length_map]
 omega
set_option maxHeartbeats 1000000 in
theorem ofR {a b:GG} (ha:a.ok) (hb:b.ok) (qa:AZ a=0→CX a) (qb:AZ b=0→CX b):Ag (Ac tab) 40 [a.av,b.av] (OfV a b):=by
 have hca:=VO ha
 have hcb:=VO hb
 by_cases h1:AZ a=0
 ·rw[h1]at hca
  have pa:=qa h1
  by_cases h2:AZ b=0
  ·rw[h2]at hcb
   have pb:=qb h2
   have g1:=AfU (b:=b) pa
   have c1:=Ajc pa pb
   have c2:=AlQ pa pb
   have c3:=AlR pa pb
   obtain⟨_,⟨_,_,g2⟩,_⟩:=c2.IJ
   obtain⟨_,⟨_,_,g3⟩,_⟩:=c3.IJ
   have hS:H8 a b++P7 a b++Ro a b=DT a b:=List.append_assoc ..
   refine Ad rfl rfl ?_
   (conv=>whnf);repeat' (first|((first|refine Aa hca ?_|refine Aa hcb ?_);rintro _ rfl;conv=>whnf)|refine kA ?_;conv=>whnf|(apply Br.mk<;>intro hc<;>first|exact hc.elim|conv=>whnf)|refine kB ?_)
   refine Aq5 rfl c1 (fun n1=>?_)
   rw[lV]
   (conv=>whnf);repeat' (first|(refine Aa c2 ?_;rintro _ ⟨n2,rfl,_⟩;conv=>whnf)|(refine Aa c3 ?_;rintro _ ⟨n3,rfl,_⟩;conv=>whnf)|(refine P6 (f:=GC.av) (l:=H8 a b) (l':=P7 a b) rfl Dv (by first|rfl|omega|simp) (by omega) (fun bb=>?_);conv=>whnf)|(refine P6 (f:=GC.av) (l:=H8 a b++P7 a b) (l':=Ro a b) rfl Dv (by simp only[List.length_append]) (by simp only[List.length_append];omega) (fun bb=>?_);conv=>whnf)|refine kA ?_;conv=>whnf|(apply Br.mk<;>intro hc<;>first|exact hc.elim|conv=>whnf)|refine kB ?_)
   all_goals first|(rw [Ik,List.drop_zero,List.take_of_length_le (by simp only[List.length_append];omega),hS];exact Am8 h1 h2)
  ·refine Ad rfl rfl ?_
   (conv=>whnf);repeat' (first|((first|refine Aa hca ?_|refine Aa hcb ?_);rintro _ rfl;conv=>whnf)|refine kA ?_;conv=>whnf|(apply Br.mk<;>intro hc<;>first|exact hc.elim|conv=>whnf)|refine kB ?_)
   all_goals first|exact Am9 h1 h2|(exfalso;omega)|exact absurd (by assumption) h2
 ·refine Ad rfl rfl ?_
  (conv=>whnf);repeat' (first|((first|refine Aa hca ?_|refine Aa hcb ?_);rintro _ rfl;conv=>whnf)|refine kA ?_;conv=>whnf|(apply Br.mk<;>intro hc<;>first|exact hc.elim|conv=>whnf)|refine kB ?_)
  all_goals first|exact Ana h1|(exfalso;omega)|exact absurd (by assumption) h1
section
open Go.Sort
def BJ (x y:Int):Bool:=decide (x<y)
theorem QY {x y:Int}:BJ x y=true↔x<y:=by unfold BJ;rw[decide_eq_true_eq]
theorem Tt {x y:Int}:BJ x y=false↔¬x<y:=by rw[← QY];simp
theorem Ip:SWO BJ where
 irrefl x:=Tt.2 (by omega)
 trans x y z h1 h2:=QY.2 (by have:=QY.1 h1;have:=QY.1 h2;omega)
 ntrans x y z h1 h2:=Tt.2 (by have:=Tt.1 h1;have:=Tt.1 h2;omega)
theorem AL (x:Int):(AV.int .i64 x).cells.length=1:=rfl
attribute [irreducible] BJ
end
def ZG (W:List Int):Prop:=W.Pairwise (fun x y=>x<y)
theorem AcG:∀{a b:List Int},ZG a→ZG b→(∀ x,x∈a↔x∈b)→a=b
 |[],[],_,_,_=>rfl
 |[],y::b,_,_,h=>absurd ((h y).2 (by simp)) (by simp)
 |x::a,[],_,_,h=>absurd ((h x).1 (by simp)) (by simp)
 |x::a,y::b,ha,hb,h=>by
  have ha':=List.pairwise_cons.1 ha
  have hb':=List.pairwise_cons.1 hb
  have hxy:x=y:=by
   rcases List.mem_cons.1 ((h x).1 (by simp))with e|h1
   ·exact e
   rcases List.mem_cons.1 ((h y).2 (by simp))with e|h2
   ·exact e.symm
   have:=ha'.1 y h2
   have:=hb'.1 x h1
   omega
  subst hxy
  congr 1
  refine AcG ha'.2 hb'.2 fun z=>?_
  have hz:=h z
  simp only[List.mem_cons]at hz
  constructor
  ·intro h1
   rcases hz.1 (.inr h1)with rfl|h2
   ·have:=ha'.1 _ h1;omega
   ·exact h2
  ·intro h1
   rcases hz.2 (.inr h1)with rfl|h2
   ·have:=hb'.1 _ h1;omega
   ·exact h2
theorem MQ {A:List Int} {w:Int} (h:ZG A) (hw:∀y∈A,y<w):ZG (A++[w]):=by
 unfold ZG
 rw[List.pairwise_append]
 exact⟨h,List.pairwise_singleton _ _,fun a ha b hb=>by rw[List.mem_singleton]at hb;subst hb;exact hw a ha⟩
theorem ApW {W:List Int} (h:ZG W) {i:Nat} (hi:i<W.length):∀y∈W.take i,y<W[i]:=by
 intro y hy
 obtain⟨j,hj,e⟩:=List.mem_take_iff_getElem.1 hy
 rw[← e]
 exact List.pairwise_iff_getElem.1 h j i (by omega) hi (by omega)
theorem X8 {W:List Int} {i:Nat} (hi:i<W.length) {y:Int}:y∈W.take (i+1)↔y∈W.take i∨y=W[i]:=by
 rw[List.take_succ_eq_append_getElem hi,List.mem_append,List.mem_singleton]
set_option maxHeartbeats 1000000 in
theorem Abi {W:List Int} {b:Bool} {x:Int} (hl:W.length≤100000) (hs:ZG W):Ag (Ac tab) 44 [.sl b (vs (.int .i64) W),.int .i64 x] (fun v=>∃b' W',v=.sl b' (vs (.int .i64) W')∧ZG W'∧W'.length≤W.length+1∧∀y,y∈W'↔y∈W∨y=x):=by
 refine Ad rfl rfl ?_
 (conv=>whnf);repeat' (first  |refine kA ?_;conv=>whnf|(apply Br.mk<;>intro hc<;>first|exact hc.elim|conv=>whnf)|refine kB ?_)
 refine Af (fun m env s=>∃(i c ga n:Nat) (fa d:Bool) (A:List Int),m=W.length-i∧i≤W.length∧n=A.length∧A.length≤i+1∧ZG A∧(∀ y,y∈A↔y∈W.take i∨(d=true∧y=x))∧(d=false→A.length≤i∧∀y∈W.take i,y<x)∧(d=true→∃y∈W.take i,x≤y)∧env=[(0,.sl b (vs (.int .i64) W)),(1,.int .i64 x),(5,.own 0 ga 0 n),(6,.bool d),(7,.int .i64 i)]∧s=⟨[.arr ga 1 fa true (vs (.int .i64) A)],c⟩) ?_ _ _ _ ⟨0,_,_,_,_,false,[],rfl,by omega,rfl,by simp,List.Pairwise.nil,by simp,by simp,(fun h=>by cases h),rfl,rfl⟩
 rintro _ _ _ ⟨i,c,ga,n,fa,d,A,rfl,hi,hn,hAl,hA,hm,h0,h1,rfl,rfl⟩
 refine⟨rfl,?_⟩
 by_cases hlt:i<W.length
 ·have hW:=ApW hs hlt
  have hmt:=fun y=>X8 (y:=y) hlt
  cases d
  ·obtain⟨AvZ,h0⟩:=h0 rfl
   have hAx:∀y∈A,y<x∧y<W[i]:=fun y hy=>by
        rcases(hm y).1 hy with h|h
        ·exact⟨h0 y h,hW y h⟩
        ·cases h.1
   rcases Int.lt_trichotomy W[i] x with hw|hw|hw
   ·have f1:ZG (A++[W[i]]):=MQ hA fun y hy=>(hAx y hy).2
    have f2:∀y,y∈A++[W[i]]↔y∈W.take (i+1)∨(false=true∧y=x):=fun y=>by rw[List.mem_append,List.mem_singleton,hm,hmt];simp
    have f3:∀y∈W.take (i+1),y<x:=fun y hy=>by
     rcases(hmt y).1 hy with h|h
     ·exact h0 y h
     ·rw[h];exact hw
    clear hm h0 hA hAx hmt hW
    (conv=>whnf);repeat' (first|(refine Dt (f:=.int .i64) (l:=A) (x:=W[i]) AL hn (by omega) ?_;conv=>whnf)|refine kA ?_;conv=>whnf|(apply Br.mk<;>intro hc<;>first|exact hc.elim|conv=>whnf)|refine kB ?_)
    all_goals first
     |exact again.mk ⟨_,by omega,i+1,_,_,_,_,false,A++[W[i]],rfl,by omega,by simp,by simp;omega,f1,f2,fun _=>⟨by simp;omega,f3⟩,(fun h=>by cases h),rfl,rfl⟩
     |(exfalso;omega)
   ·have f1:ZG (A++[W[i]]):=MQ hA fun y hy=>(hAx y hy).2
    have f2:∀y,y∈A++[W[i]]↔y∈W.take (i+1)∨(true=true∧y=x):=fun y=>by
     rw[List.mem_append,List.mem_singleton,hm,hmt]
     simp only[Bool.false_eq_true,false_and,or_false,true_and,hw]
     constructor
     ·exact fun h=>.inl h
     ·exact fun h=>h.elim id .inr
    have f3:∃y∈W.take (i+1),x≤y:=⟨W[i],(hmt _).2 (.inr rfl),by omega⟩
    clear hm h0 hA hAx hmt hW
    (conv=>whnf);repeat' (first|(refine Dt (f:=.int .i64) (l:=A) (x:=W[i]) AL hn (by omega) ?_;conv=>whnf)|refine kA ?_;conv=>whnf|(apply Br.mk<;>intro hc<;>first|exact hc.elim|conv=>whnf)|refine kB ?_)
    all_goals first
     |exact again.mk ⟨_,by omega,i+1,_,_,_,_,true,A++[W[i]],rfl,by omega,by simp,by simp;omega,f1,f2,(fun h=>by cases h),fun _=>f3,rfl,rfl⟩
     |(exfalso;omega)
   ·have f0:ZG (A++[x]):=MQ hA fun y hy=>(hAx y hy).1
    have f1:ZG (A++[x]++[W[i]]):=MQ f0 fun y hy=>by
     rcases List.mem_append.1 hy with h|h
     ·exact(hAx y h).2
     ·rw[List.mem_singleton]at h;omega
    have f2:∀y,y∈A++[x]++[W[i]]↔y∈W.take (i+1)∨(true=true∧y=x):=fun y=>by
     rw[List.mem_append,List.mem_append,List.mem_singleton,List.mem_singleton,hm,hmt]
     simp only[Bool.false_eq_true,false_and,or_false,true_and]
     constructor
     ·rintro((h|h)|h)
      ·exact .inl (.inl h)
      ·exact .inr h
      ·exact .inl (.inr h)
     ·rintro((h|h)|h)
      ·exact .inl (.inl h)
      ·exact .inr h
      ·exact .inl (.inr h)
    have f3:∃y∈W.take (i+1),x≤y:=⟨W[i],(hmt _).2 (.inr rfl),by omega⟩
    have hn2:n+1=(A++[x]).length:=by simp[hn]
    clear hm h0 hA hAx hmt hW
    (conv=>whnf);repeat' (first|(refine Dt (f:=.int .i64) (l:=A) (x:=x) AL hn (by omega) ?_;conv=>whnf)|(refine Dt (f:=.int .i64) (l:=A++[x]) (x:=W[i]) AL (by simp) (by simp;omega) ?_;conv=>whnf)|refine kA ?_;conv=>whnf|(apply Br.mk<;>intro hc<;>first|exact hc.elim|conv=>whnf)|refine kB ?_)
    all_goals first
     |exact again.mk ⟨_,by omega,i+1,_,_,_,_,true,A++[x]++[W[i]],rfl,by omega,by simp,by simp;omega,f1,f2,(fun h=>by cases h),fun _=>f3,rfl,rfl⟩
     |(exfalso;omega)
  ·obtain⟨q,hq,hqx⟩:=h1 rfl
   have hwx:x<W[i]:=by have:=hW q hq;omega
   have f1:ZG (A++[W[i]]):=MQ hA fun y hy=>by
        rcases(hm y).1 hy with h|h
        ·exact hW y h
        ·rw[h.2];exact hwx
   have f2:∀y,y∈A++[W[i]]↔y∈W.take (i+1)∨(true=true∧y=x):=fun y=>by
        rw[List.mem_append,List.mem_singleton,hm,hmt]
        simp only[true_and]
        constructor
        ·rintro((h|h)|h)
         ·exact .inl (.inl h)
         ·exact .inr h
         ·exact .inl (.inr h)
        ·rintro((h|h)|h)
         ·exact .inl (.inl h)
         ·exact .inr h
         ·exact .inl (.inr h)
   have f3:∃y∈W.take (i+1),x≤y:=⟨q,(hmt _).2 (.inl hq),hqx⟩
   clear hm h0 hA hmt hW h1 hq
   (conv=>whnf);repeat' (first|(refine Dt (f:=.int .i64) (l:=A) (x:=W[i]) AL hn (by omega) ?_;conv=>whnf)|refine kA ?_;conv=>whnf|(apply Br.mk<;>intro hc<;>first|exact hc.elim|conv=>whnf)|refine kB ?_)
   all_goals first
        |exact again.mk ⟨_,by omega,i+1,_,_,_,_,true,A++[W[i]],rfl,by omega,by simp,by simp;omega,f1,f2,(fun h=>by cases h),fun _=>f3,rfl,rfl⟩
        |(exfalso;omega)
 ·rw[List.take_of_length_le (by omega)]at hm h0 h1
  cases d
  ·obtain⟨AvZ,h0⟩:=h0 rfl
   have f1:ZG (A++[x]):=MQ hA fun y hy=>by
     rcases(hm y).1 hy with h|h
     ·exact h0 y h
     ·cases h.1
   have f2:∀y,y∈A++[x]↔y∈W∨y=x:=fun y=>by rw[List.mem_append,List.mem_singleton,hm];simp
   (conv=>whnf);repeat' (first|(refine Dt (f:=.int .i64) (l:=A) (x:=x) AL hn (by omega) ?_;conv=>whnf)|refine kA ?_;conv=>whnf|(apply Br.mk<;>intro hc<;>first|exact hc.elim|conv=>whnf)|refine kB ?_)
   all_goals first
     |exact⟨_,A++[x],rfl,f1,by simp;omega,f2⟩
     |(exfalso;omega)
     |(refine ⟨_,A++[x],?_,f1,by simp;omega,f2⟩;rw[hn,Ik];simp)
  ·obtain⟨q,hq,hqx⟩:=h1 rfl
   have f2:∀y,y∈A↔y∈W∨y=x:=fun y=>by rw[hm];simp
   (conv=>whnf);repeat' (first  |refine kA ?_;conv=>whnf|(apply Br.mk<;>intro hc<;>first|exact hc.elim|conv=>whnf)|refine kB ?_)
   all_goals first
     |exact⟨_,A,rfl,hA,by omega,f2⟩
     |(exfalso;omega)
     |exact⟨fa,A,by rw[hn,Ik];simp,hA,by omega,f2⟩
section
open Go.Sort
theorem srtQ_pw (L:List Int):(srtQ L).Pairwise fun x y=>BJ y x=false:=(srtQ_le L).imp fun h=>Tt.2 (by omega)
theorem decQ_vs (L:List Int):decQ (vs (.int .i64) L)=some L:=decQ_map L
theorem Ani {Ap:Obj} {g len c:Nat} {nn cl:Bool} {L:List Int} (hl:L.length=len) (hs:len≤1099511627776):
 Am (Ac tab) 42 [.own 0 g 0 len] ⟨[.arr g 1 nn cl (vs (.int .i64) L),Ap],c⟩ fun out s'=>∃c' W,out=.ok (.BG [])∧s'=⟨[.arr g 1 nn cl (vs (.int .i64) W),Ap],c'⟩∧W.Perm L∧W.Pairwise (fun x y=>BJ y x=false):=by
 have hsp:sortSpecQ [.own 0 g 0 len] ⟨[.arr g 1 nn cl (vs (.int .i64) L),Ap],c⟩=some (.ok (.BG []),⟨[.arr g 1 nn cl (vs (.int .i64) (srtQ L)),Ap],c⟩):=by
  show(if g=g∧1=1∧len=(vs (AV.int .i64) L).length∧len≤1099511627776 then _ else none)=_
  rw[if_pos ⟨rfl,rfl,by rw[lV,hl],hs⟩,decQ_vs]
  rfl
 exact MG rfl hsp ⟨c,srtQ L,rfl,rfl,srtQ_perm L,srtQ_pw L⟩
theorem Anj {Ap:Obj} {g len c:Nat} {nn cl:Bool} {L:List Int} (hl:L.length=len) (hs:len≤1099511627776):
 Am (Ac tab) 42 [.own 1 g 0 len] ⟨[Ap,.arr g 1 nn cl (vs (.int .i64) L)],c⟩ fun out s'=>∃c' W,out=.ok (.BG [])∧s'=⟨[Ap,.arr g 1 nn cl (vs (.int .i64) W)],c'⟩∧W.Perm L∧W.Pairwise (fun x y=>BJ y x=false):=by
 have hsp:sortSpecQ [.own 1 g 0 len] ⟨[Ap,.arr g 1 nn cl (vs (.int .i64) L)],c⟩=some (.ok (.BG []),⟨[Ap,.arr g 1 nn cl (vs (.int .i64) (srtQ L))],c⟩):=by
  show(if g=g∧1=1∧len=(vs (AV.int .i64) L).length∧len≤1099511627776 then _ else none)=_
  rw[if_pos ⟨rfl,rfl,by rw[lV,hl],hs⟩,decQ_vs]
  rfl
 exact MG rfl hsp ⟨c,srtQ L,rfl,rfl,srtQ_perm L,srtQ_pw L⟩
end
section
open Go.Sort
theorem clr {C:Bd} {es o g off n:Nat} {nn cl:Bool} {x:AO} {env:Env} {σ:List Obj} {c:Nat} {elems:List AV} (hx:x.val env=.own o g off n) (ho:nth σ o=some (.arr g es nn cl elems)) (h:off+n≤elems.length) (hn:n≠0):
 AA C (.clear es x) env ⟨σ,c⟩=some (.ok .undef,⟨σ.set o (.arr g es nn cl (elems.take off)),c⟩):=by
 simp[AA,hx,ho,h,hn]
section
variable {α:Type} [Inhabited α]
theorem nPn {f:α→AV} {d:Array α} {m:Nat} (i:Nat) (hm:m=i) (h:i<d.size):nth (vs f d.toList) m=some (f d[i]!):=by
 subst hm
 have:=nP (f:=f) (d:=d) (z:=(m:Int)) m rfl h
 exact this
open Classical in
noncomputable def Jd (d:Array α):Nat→List α
 |0=>[]
 |n+1=>if 0<n∧d[n]! =d[n-1]! then Jd d n else Jd d n++[d[n]!]
theorem Gp {d:Array α} {n:Nat} (h0:0<n) (h:d[n]! =d[n-1]!):Jd d (n+1)=Jd d n:=if_pos ⟨h0,h⟩
theorem Mc {d:Array α} {n:Nat} (h:0<n→¬d[n]! =d[n-1]!):Jd d (n+1)=Jd d n++[d[n]!]:=if_neg fun h1=>h h1.1 h1.2
theorem Zl (d:Array α):∀n,(Jd d n).length≤n
 |0=>by simp[Jd]
 |n+1=>by
  have:=Zl d n
  unfold Jd
  split
  ·omega
  ·simp;omega
theorem Nv {d:Array α}:∀n,n≤d.size→(∀ j,0<j→j<n→¬d[j]! =d[j-1]!)→Jd d n=d.toList.take n
 |0,_,_=>by simp[Jd]
 |n+1,hn,h=>by
  rw[Mc (fun h0=>h n h0 (by omega)),Nv n (by omega) fun j h0 hj=>h j h0 (by omega),List.take_succ_eq_append_getElem (by simp;omega)]
  congr 2
  rw[getElem!_pos d n (by omega)]
  simp
theorem QX {d:Array α} {x:α}:∀n,n≤d.size→(x∈Jd d n↔x∈d.toList.take n)
 |0,_=>by simp[Jd]
 |n+1,hn=>by
  have e:d[n]! =d.toList[n]'(by simp;omega):=by rw[getElem!_pos d n (by omega)];simp
  rw[List.take_succ_eq_append_getElem (by simp;omega),List.mem_append,List.mem_singleton,←e]
  by_cases h:0<n∧d[n]! =d[n-1]!
  ·rw[Gp h.1 h.2,QX n (by omega)]
   refine⟨Or.inl,fun h1=>h1.elim id ?_⟩
   rintro rfl
   rw[h.2,getElem!_pos d (n-1) (by omega)]
   rw[List.mem_take_iff_getElem]
   exact⟨n-1,by simp;omega,by simp⟩
  ·rw[Mc (fun h0 h1=>h ⟨h0,h1⟩),List.mem_append,List.mem_singleton,QX n (by omega)]
theorem Acl {lt:α→α→Bool} (hS:SWO lt) (htot:∀x y,lt x y=false→lt y x=false→x=y) {d:Array α} (hs:SortedIn lt 0 d.size d):∀n,n≤d.size→(Jd d n).Pairwise (fun x y=>lt x y=true)
 |0,_=>by simp[Jd]
 |n+1,hn=>by
  have ih:=Acl hS htot hs n (by omega)
  by_cases h:0<n∧d[n]! =d[n-1]!
  ·rw[Gp h.1 h.2];exact ih
  ·rw[Mc (fun h0 h1=>h ⟨h0,h1⟩)]
   refine List.pairwise_append.2 ⟨ih,List.pairwise_singleton ..,fun x hx y hy=>?_⟩
   obtain rfl:=List.mem_singleton.1 hy
   rw[QX n (by omega),List.mem_take_iff_getElem]at hx
   obtain⟨j,hj,rfl⟩:=hx
   simp only[Array.length_toList]at hj
   have ej:d.toList[j]'(by simp;omega)=d[j]!:=by rw[getElem!_pos d j (by omega)];simp
   rw[ej]
   cases hc:lt d[j]! d[n]! with
   |true=>rfl
   |false=>
    exfalso
    have h1:=hs j n (by omega) (by omega) (by omega)
    have e1:=htot _ _ hc h1
    refine h ⟨by omega,?_⟩
    rcases Nat.lt_or_ge j (n-1)with h2|h2
    ·have h3:=hs j (n-1) (by omega) h2 (by omega)
     have h4:=hs (n-1) n (by omega) (by omega) (by omega)
     rw[e1]at h3
     exact htot _ _ h4 h3
    ·obtain rfl:j=n-1:=by omega
     exact e1.symm
end
end
end AI
end Go.Proofs.YthnehejdkajjhaaGreatDoor
