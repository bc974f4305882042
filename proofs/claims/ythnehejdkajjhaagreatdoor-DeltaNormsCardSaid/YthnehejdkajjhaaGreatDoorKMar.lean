/- Leaving out what repeats (slices.Compact[[]int,int]). Leaving out what repeats (slices.Compact[[]int,int]). The ids that changes name: the program's Touched. The ids that changes name: the same from both sides. Two scripts in a row: slices.Concat, delta.Join and the reference's. A check does not look at flags: plain. The law DeltaNorms, about the evaluator. -/
import Derived.Test.YthnehejdkajjhaaGreatDoorKMaq
import Derived.Test.YthnehejdkajjhaaGreatDoorKDtF
import Derived.Test.YthnehejdkajjhaaGreatDoorKMae
import Derived.Test.YthnehejdkajjhaaGreatDoorKMah
import Derived.Test.YthnehejdkajjhaaGreatDoorKMad
import Derived.Test.YthnehejdkajjhaaGreatDoorKMai
import Derived.Test.YthnehejdkajjhaaGreatDoorKMao
set_option linter.unusedVariables false
set_option maxRecDepth 4000
namespace Go.Proofs.YthnehejdkajjhaaGreatDoor
namespace AI
section
open Go.Sort
theorem Aqq {Ap:Obj} {g len c:Nat} {nn cl:Bool} {d:Array Int} (hl:d.size=len) (hs:len<2^61):
 Am (Ac tab) 43 [.own 0 g 0 len] ⟨[.arr g 1 nn cl (vs (.int .i64) d.toList),Ap],c⟩ fun out s'=>∃c' T,out=.ok (.own 0 g 0 (Jd d len).length)∧s'=⟨[.arr g 1 nn cl (vs (.int .i64) (Jd d len++T)),Ap],c'⟩:=by
 have hend:(∀ j,0<j→j<len→¬d[j]! =d[j-1]!)→Jd d len=d.toList:=fun h=>by
  rw[Nv len (by omega) h,List.take_of_length_le (by simp[hl])]
 refine Ah rfl rfl ?_
 (conv=>whnf);repeat' (first  |refine kA ?_;conv=>whnf|(apply Br.mk<;>intro hc<;>first|exact hc.elim|conv=>whnf)|refine kB ?_)
 ·have e:=hend (fun j h0 hj=>absurd h0 (by omega))
  rw[e,Array.length_toList,hl]
  exact⟨_,[],rfl,by rw[List.append_nil]⟩
 refine Af (fun m env s=>∃(k c:Nat),m=len-k∧0<k∧(∀ j,0<j→j<k→¬d[j]! =d[j-1]!)∧env=[(0,.own 0 g 0 len),(3,.int .i64 k)]∧s=⟨[.arr g 1 nn cl (vs (.int .i64) d.toList),Ap],c⟩) ?_ _ _ _ ⟨1,c,rfl,by omega,fun j h0 h1=>absurd h0 (by omega),rfl,rfl⟩
 rintro _ _ _ ⟨k,c,rfl,hk0,hk,rfl,rfl⟩
 refine⟨rfl,?_⟩
 (conv=>whnf);repeat' (first|((with_reducible show AB _ _ _);refine BM (k) ?_;conv=>whnf)|((with_reducible show AB _ _ _);refine BM (k-1) ?_;conv=>whnf)|refine kA ?_;conv=>whnf|(apply Br.mk<;>intro hc<;>first|exact hc.elim|conv=>whnf)|refine kB ?_)
 ·have h1:Jd d (k+1)=Jd d k:=Gp hk0 (by assumption)
  have h2:Jd d k=d.toList.take k:=Nv k (by omega) hk
  obtain⟨k,rfl⟩:∃k',k=k'+1:=⟨k-1,by omega⟩
  refine Af (fun m env s=>∃(k2 c w:Nat) (E:Array Int),m=len-(k+1)-k2∧0<k2∧k+1+k2≤len∧E.size=len∧w=(Jd d (k+1+k2)).length∧w<k+1+k2∧E.toList.take w=Jd d (k+1+k2)∧(∀ j,k+1+k2≤j+1→j<len→E[j]! =d[j]!)∧env=[(0,.own 0 g 0 len),(3,.int .i64 w),(4,.own 0 g (k+1) (len-(k+1))),(5,.int .i64 k2)]∧s=⟨[.arr g 1 nn cl (vs (.int .i64) E.toList),Ap],c⟩) ?_ _ _ _ ⟨1,_,k+1,d,rfl,by omega,by omega,hl,by rw[h1,h2];simp;omega,by omega,by rw[h1,h2],fun j _ _=>rfl,rfl,rfl⟩
  rintro _ _ _ ⟨k2,c,w,E,rfl,hk2,hkl,hE,hw,hwk,hW,V8,rfl,rfl⟩
  refine⟨rfl,?_⟩
  (conv=>whnf);repeat' (first|(apply Au;(· exact nPn (k+1+k2) (by omega) (by first|omega|(simp;omega)));conv=>whnf)|(apply Au;(· exact nPn (k+1+k2-1) (by omega) (by first|omega|(simp;omega)));conv=>whnf)|((with_reducible show AB _ _ _);refine BM (w) ?_;conv=>whnf)|((with_reducible show eqK _ _);refine Dn AL (w) ?_;conv=>whnf)|refine kA ?_;conv=>whnf|(apply Br.mk<;>intro hc<;>first|exact hc.elim|conv=>whnf)|refine kB ?_)
  ·have e1:=V8 (k+1+k2) (by omega) (by omega)
   have e2:=V8 (k+1+k2-1) (by omega) (by omega)
   rw[e1,e2]at hc
   exact again.mk ⟨_,by omega,k2+1,_,w,E,rfl,by omega,by omega,hE,by rw[hw,←Gp (d:=d) (n:=k+1+k2) (by omega) hc];rfl,by omega,by rw[hW,←Gp (d:=d) (n:=k+1+k2) (by omega) hc];rfl,fun j h1 h2=>V8 j (by omega) h2,rfl,rfl⟩
  ·have e1:=V8 (k+1+k2) (by omega) (by omega)
   have e2:=V8 (k+1+k2-1) (by omega) (by omega)
   rw[e1,e2]at hc
   have e3:Jd d (k+1+(k2+1))=Jd d (k+1+k2)++[d[k+1+k2]!]:=Mc fun _=>hc
   refine again.mk ⟨_,by omega,k2+1,_,w+1,E.setIfInBounds w E[k+1+k2]!,rfl,by omega,by omega,by simpa using hE,by rw[e3,List.length_append,←hw];rfl,by omega,?_,fun j h1 h2=>?_,rfl,rfl⟩
   ·rw[Array.toList_setIfInBounds,List.take_succ_eq_append_getElem (by simp;omega),e3,←hW,e1]
    simp[List.take_set_of_le]
   ·rw[← V8 j (by omega) h2,getElem!_pos _ j (by simp;omega),getElem!_pos E j (by omega),Array.getElem_setIfInBounds_ne (by omega) (by omega)]
  ·have AgX:k+1+k2=len:=by omega
   rw[AgX]at hW hw hwk
   refine Ae (clr (n:=len-w) rfl rfl (by simp;omega) (by omega)) ?_
   have e4:List.take (Int.toNat (w:Int)) (vs (.int .i64) E.toList)=vs (.int .i64) (Jd d len++[]):=by
        rw[List.append_nil,←hW];simp[vs,List.map_take]
   (conv=>whnf);repeat' (first  |refine kA ?_;conv=>whnf|(apply Br.mk<;>intro hc<;>first|exact hc.elim|conv=>whnf)|refine kB ?_)
   refine⟨c,[],by rw[← hw];rfl,?_⟩
   rw[← e4]
   rfl
 ·exact again.mk ⟨_,by omega,k+1,_,rfl,by omega,fun j h0 hj=>by
   rcases Nat.lt_or_ge j k with h|h
   ·exact hk j h0 h
   ·obtain rfl:j=k:=by omega
    first|exact hc|assumption,rfl,rfl⟩
 ·have e:=hend (fun j h0 hj=>hk j h0 (by omega))
  rw[e,Array.length_toList,hl]
  exact⟨_,[],rfl,by rw[List.append_nil]⟩
end
section
open Go.Sort
theorem Aqr {Ap:Obj} {g len c:Nat} {nn cl:Bool} {d:Array Int} (hl:d.size=len) (hs:len<2^61):
 Am (Ac tab) 43 [.own 1 g 0 len] ⟨[Ap,.arr g 1 nn cl (vs (.int .i64) d.toList)],c⟩ fun out s'=>∃c' T,out=.ok (.own 1 g 0 (Jd d len).length)∧s'=⟨[Ap,.arr g 1 nn cl (vs (.int .i64) (Jd d len++T))],c'⟩:=by
 have hend:(∀ j,0<j→j<len→¬d[j]! =d[j-1]!)→Jd d len=d.toList:=fun h=>by
  rw[Nv len (by omega) h,List.take_of_length_le (by simp[hl])]
 refine Ah rfl rfl ?_
 (conv=>whnf);repeat' (first  |refine kA ?_;conv=>whnf|(apply Br.mk<;>intro hc<;>first|exact hc.elim|conv=>whnf)|refine kB ?_)
 ·have e:=hend (fun j h0 hj=>absurd h0 (by omega))
  rw[e,Array.length_toList,hl]
  exact⟨_,[],rfl,by rw[List.append_nil]⟩
 refine Af (fun m env s=>∃(k c:Nat),m=len-k∧0<k∧(∀ j,0<j→j<k→¬d[j]! =d[j-1]!)∧env=[(0,.own 1 g 0 len),(3,.int .i64 k)]∧s=⟨[Ap,.arr g 1 nn cl (vs (.int .i64) d.toList)],c⟩) ?_ _ _ _ ⟨1,c,rfl,by omega,fun j h0 h1=>absurd h0 (by omega),rfl,rfl⟩
 rintro _ _ _ ⟨k,c,rfl,hk0,hk,rfl,rfl⟩
 refine⟨rfl,?_⟩
 (conv=>whnf);repeat' (first|((with_reducible show AB _ _ _);refine BM (k) ?_;conv=>whnf)|((with_reducible show AB _ _ _);refine BM (k-1) ?_;conv=>whnf)|refine kA ?_;conv=>whnf|(apply Br.mk<;>intro hc<;>first|exact hc.elim|conv=>whnf)|refine kB ?_)
 ·have h1:Jd d (k+1)=Jd d k:=Gp hk0 (by assumption)
  have h2:Jd d k=d.toList.take k:=Nv k (by omega) hk
  obtain⟨k,rfl⟩:∃k',k=k'+1:=⟨k-1,by omega⟩
  refine Af (fun m env s=>∃(k2 c w:Nat) (E:Array Int),m=len-(k+1)-k2∧0<k2∧k+1+k2≤len∧E.size=len∧w=(Jd d (k+1+k2)).length∧w<k+1+k2∧E.toList.take w=Jd d (k+1+k2)∧(∀ j,k+1+k2≤j+1→j<len→E[j]! =d[j]!)∧env=[(0,.own 1 g 0 len),(3,.int .i64 w),(4,.own 1 g (k+1) (len-(k+1))),(5,.int .i64 k2)]∧s=⟨[Ap,.arr g 1 nn cl (vs (.int .i64) E.toList)],c⟩) ?_ _ _ _ ⟨1,_,k+1,d,rfl,by omega,by omega,hl,by rw[h1,h2];simp;omega,by omega,by rw[h1,h2],fun j _ _=>rfl,rfl,rfl⟩
  rintro _ _ _ ⟨k2,c,w,E,rfl,hk2,hkl,hE,hw,hwk,hW,V8,rfl,rfl⟩
  refine⟨rfl,?_⟩
  (conv=>whnf);repeat' (first|(apply Au;(· exact nPn (k+1+k2) (by omega) (by first|omega|(simp;omega)));conv=>whnf)|(apply Au;(· exact nPn (k+1+k2-1) (by omega) (by first|omega|(simp;omega)));conv=>whnf)|((with_reducible show AB _ _ _);refine BM (w) ?_;conv=>whnf)|((with_reducible show eqK _ _);refine Dn AL (w) ?_;conv=>whnf)|refine kA ?_;conv=>whnf|(apply Br.mk<;>intro hc<;>first|exact hc.elim|conv=>whnf)|refine kB ?_)
  ·have e1:=V8 (k+1+k2) (by omega) (by omega)
   have e2:=V8 (k+1+k2-1) (by omega) (by omega)
   rw[e1,e2]at hc
   exact again.mk ⟨_,by omega,k2+1,_,w,E,rfl,by omega,by omega,hE,by rw[hw,←Gp (d:=d) (n:=k+1+k2) (by omega) hc];rfl,by omega,by rw[hW,←Gp (d:=d) (n:=k+1+k2) (by omega) hc];rfl,fun j h1 h2=>V8 j (by omega) h2,rfl,rfl⟩
  ·have e1:=V8 (k+1+k2) (by omega) (by omega)
   have e2:=V8 (k+1+k2-1) (by omega) (by omega)
   rw[e1,e2]at hc
   have e3:Jd d (k+1+(k2+1))=Jd d (k+1+k2)++[d[k+1+k2]!]:=Mc fun _=>hc
   refine again.mk ⟨_,by omega,k2+1,_,w+1,E.setIfInBounds w E[k+1+k2]!,rfl,by omega,by omega,by simpa using hE,by rw[e3,List.length_append,←hw];rfl,by omega,?_,fun j h1 h2=>?_,rfl,rfl⟩
   ·rw[Array.toList_setIfInBounds,List.take_succ_eq_append_getElem (by simp;omega),e3,←hW,e1]
    simp[List.take_set_of_le]
   ·rw[← V8 j (by omega) h2,getElem!_pos _ j (by simp;omega),getElem!_pos E j (by omega),Array.getElem_setIfInBounds_ne (by omega) (by omega)]
  ·have AgX:k+1+k2=len:=by omega
   rw[AgX]at hW hw hwk
   refine Ae (clr (n:=len-w) rfl rfl (by simp;omega) (by omega)) ?_
   have e4:List.take (Int.toNat (w:Int)) (vs (.int .i64) E.toList)=vs (.int .i64) (Jd d len++[]):=by
        rw[List.append_nil,←hW];simp[vs,List.map_take]
   (conv=>whnf);repeat' (first  |refine kA ?_;conv=>whnf|(apply Br.mk<;>intro hc<;>first|exact hc.elim|conv=>whnf)|refine kB ?_)
   refine⟨c,[],by rw[← hw];rfl,?_⟩
   rw[← e4]
   rfl
 ·exact again.mk ⟨_,by omega,k+1,_,rfl,by omega,fun j h0 hj=>by
   rcases Nat.lt_or_ge j k with h|h
   ·exact hk j h0 h
   ·obtain rfl:j=k:=by omega
    first|exact hc|assumption,rfl,rfl⟩
 ·have e:=hend (fun j h0 hj=>hk j h0 (by omega))
  rw[e,Array.length_toList,hl]
  exact⟨_,[],rfl,by rw[List.append_nil]⟩
end
section
open Go.Sort
theorem Aqm {c:GC} (h:1≤c.op∧c.op≤5):tN c=[c.id]:=by unfold tN;rw[if_pos h,if_neg (by omega)];rfl
theorem Aqn {c:GC} (h:c.op=6):tN c=[c.fr,c.to]:=by unfold tN;rw[if_neg (by omega),if_pos h];rfl
theorem Aqo {c:GC} (h:¬(1≤c.op∧c.op≤5)) (h6:c.op≠6):tN c=[]:=by unfold tN;rw[if_neg h,if_neg h6];rfl
theorem Aj2 {c:GC} (h:6≤c.op∧c.op≤8):tE c=[c.id]:=by unfold tE;rw[if_pos (by omega)]
theorem Aj3 {c:GC} (h:¬(6≤c.op∧c.op≤8)):tE c=[]:=by unfold tE;rw[if_neg (by omega)]
theorem AaG {W:List Int} {x:Int}:x∈Jd W.toArray W.length↔x∈W:=by
 rw[QX W.length (by simp)];simp
theorem Aqp {W:List Int} (hs:W.Pairwise (fun x y=>BJ y x=false)):(Jd W.toArray W.length).Pairwise (fun x y=>x<y):=by
 have ht:∀x y:Int,BJ x y=false→BJ y x=false→x=y:=fun x y h1 h2=>by
  have a:=Tt.1 h1
  have b:=Tt.1 h2
  omega
 refine List.Pairwise.imp (fun h=>QY.1 h) (Acl Ip ht (d:=W.toArray) ?_ W.length (by simp))
 intro i j h0 hij hj
 simp only[List.size_toArray]at hj
 rw[getElem!_pos _ j (by simpa using hj),getElem!_pos _ i (by simp;omega)]
 simp only[List.getElem_toArray]
 exact List.pairwise_iff_getElem.1 hs i j (by omega) hj hij
set_option maxHeartbeats 4000000 in
theorem Agv {L:List GC} {nn:Bool} (hL:L.length≤1000):Ag (Ac tab) 18 [.sl nn (vs GC.av L)] (fun v=>∃b1 R1 b2 R2,v=.BG [.sl b1 (vs (.int .i64) R1),.sl b2 (vs (.int .i64) R2)]∧R1.length≤2*L.length∧R2.length≤L.length∧(∀ x,x∈R1↔x∈L.flatMap tN)∧(∀ x,x∈R2↔x∈L.flatMap tE)∧R1.Pairwise (fun x y=>x<y)∧R2.Pairwise (fun x y=>x<y)):=by
 refine Ad rfl rfl ?_
 (conv=>whnf);repeat' (first  |refine kA ?_;conv=>whnf|(apply Br.mk<;>intro hc<;>first|exact hc.elim|conv=>whnf)|refine kB ?_)
 refine Af (fun z env s=>∃(i c ga gb n m:Nat) (fa fb:Bool) (A B:List Int),z=L.length-i∧i≤L.length∧A=(L.take i).flatMap tN∧B=(L.take i).flatMap tE∧n=A.length∧m=B.length∧A.length≤2*i∧B.length≤i∧env=[(2,.own 0 ga 0 n),(3,.own 1 gb 0 m),(6,.sl nn (vs GC.av L)),(7,.int .i64 L.length),(8,.int .i64 i)]∧s=⟨[.arr ga 1 fa true (vs (.int .i64) A),.arr gb 1 fb true (vs (.int .i64) B)],c⟩) ?_ _ _ _ ⟨0,_,_,_,_,_,_,_,[],[],rfl,by omega,rfl,rfl,rfl,rfl,by simp,by simp,by first|rfl|(rw [← lV (f:=GC.av) L];rfl),rfl⟩
 rintro _ _ _ ⟨i,c,ga,gb,n,m,fa,fb,A,B,rfl,hi,hA,hB,hn,hm,hAl,hBl,rfl,rfl⟩
 refine⟨rfl,?_⟩
 by_cases hlt:i<L.length
 ·have hsA:=U5 (f:=tN) hlt
  have hsB:=U5 (f:=tE) hlt
  rw[← hA]at hsA
  rw[← hB]at hsB
  by_cases h1:1≤(L[i]).op∧(L[i]).op≤5
  ·rw[Aqm h1]at hsA
   rw[Aj3 (by omega),List.append_nil]at hsB
   obtain⟨h1,h2⟩:=h1
   (conv=>whnf);repeat' (first|(refine Dt (f:=.int .i64) (l:=A) (x:=(L[i]).id) AL hn (by omega) ?_;conv=>whnf)|refine kA ?_;conv=>whnf|(apply Br.mk<;>intro hc<;>first|exact hc.elim|conv=>whnf)|refine kB ?_)
   all_goals first
        |(exfalso;omega)
        |exact again.mk ⟨_,by omega,i+1,_,_,_,_,_,_,_,A++[(L[i]).id],B,rfl,by omega,hsA.symm,hsB.symm,by simp,hm,by simp;omega,by omega,rfl,rfl⟩
  ·by_cases h6:(L[i]).op=6
   ·rw[Aqn h6]at hsA
    rw[Aj2 (by omega)]at hsB
    (conv=>whnf);repeat' (first|(refine Dt (f:=.int .i64) (l:=B) (x:=(L[i]).id) AL hm (by omega) ?_;conv=>whnf)|(refine P6 (f:=.int .i64) (l:=A) (l':=[(L[i]).fr,(L[i]).to]) rfl AL hn (by simp;omega) (fun b=>?_);conv=>whnf)|refine kA ?_;conv=>whnf|(apply Br.mk<;>intro hc<;>first|exact hc.elim|conv=>whnf)|refine kB ?_)
    all_goals first
     |(exfalso;omega)
     |exact again.mk ⟨_,by omega,i+1,_,_,_,_,_,_,_,A++[(L[i]).fr,(L[i]).to],B++[(L[i]).id],rfl,by omega,hsA.symm,hsB.symm,by simp,by simp,by simp;omega,by simp;omega,rfl,rfl⟩
   ·rw[Aqo h1 h6,List.append_nil]at hsA
    by_cases h7:6≤(L[i]).op∧(L[i]).op≤8
    ·rw[Aj2 h7]at hsB
     (conv=>whnf);repeat' (first|(refine Dt (f:=.int .i64) (l:=B) (x:=(L[i]).id) AL hm (by omega) ?_;conv=>whnf)|refine kA ?_;conv=>whnf|(apply Br.mk<;>intro hc<;>first|exact hc.elim|conv=>whnf)|refine kB ?_)
     all_goals first
       |(exfalso;omega)
       |exact again.mk ⟨_,by omega,i+1,_,_,_,_,_,_,_,A,B++[(L[i]).id],rfl,by omega,hsA.symm,hsB.symm,hn,by simp,by omega,by simp;omega,rfl,rfl⟩
    ·rw[Aj3 h7,List.append_nil]at hsB
     (conv=>whnf);repeat' (first  |refine kA ?_;conv=>whnf|(apply Br.mk<;>intro hc<;>first|exact hc.elim|conv=>whnf)|refine kB ?_)
     all_goals first
       |(exfalso;omega)
       |exact again.mk ⟨_,by omega,i+1,_,_,_,_,_,_,_,A,B,rfl,by omega,hsA.symm,hsB.symm,hn,hm,by omega,by omega,rfl,rfl⟩
 ·rw[List.take_of_length_le (by omega)]at hA hB
  have e1:A.length≤2*L.length:=by omega
  have e2:B.length≤L.length:=by omega
  clear hAl hBl
  (conv=>whnf);repeat' (first  |refine kA ?_;conv=>whnf|(apply Br.mk<;>intro hc<;>first|exact hc.elim|conv=>whnf)|refine kB ?_)
  refine(Ani (L:=A) hn.symm (by omega)).mono ?_
  rintro _ _ ⟨c1,W,rfl,rfl,p1,p2⟩
  have hw:=p1.length_eq
  conv=>whnf
  apply Ae rfl
  (conv=>whnf);repeat' (first  |refine kA ?_;conv=>whnf|(apply Br.mk<;>intro hc<;>first|exact hc.elim|conv=>whnf)|refine kB ?_)
  refine(Anj (L:=B) hm.symm (by omega)).mono ?_
  rintro _ _ ⟨c2,V,rfl,rfl,r1,r2⟩
  have hv:=r1.length_eq
  conv=>whnf
  apply Ae rfl
  (conv=>whnf);repeat' (first  |refine kA ?_;conv=>whnf|(apply Br.mk<;>intro hc<;>first|exact hc.elim|conv=>whnf)|refine kB ?_)
  refine(Aqq (d:=W.toArray) (by simp;omega) (by omega)).mono ?_
  rintro _ _ ⟨c3,T,rfl,rfl⟩
  rw[show n=W.length by omega]
  conv=>whnf
  apply Ae rfl
  (conv=>whnf);repeat' (first  |refine kA ?_;conv=>whnf|(apply Br.mk<;>intro hc<;>first|exact hc.elim|conv=>whnf)|refine kB ?_)
  refine(Aqr (d:=V.toArray) (by simp;omega) (by omega)).mono ?_
  rintro _ _ ⟨c4,U,rfl,rfl⟩
  rw[show m=V.length by omega]
  conv=>whnf
  apply Ae rfl
  (conv=>whnf);repeat' (first  |refine kA ?_;conv=>whnf|(apply Br.mk<;>intro hc<;>first|exact hc.elim|conv=>whnf)|refine kB ?_)
  have l1:=Zl W.toArray W.length
  have l2:=Zl V.toArray V.length
  refine⟨fa,Jd W.toArray W.length,fb,Jd V.toArray V.length,?_,by omega,by omega,fun x=>?_,fun x=>?_,Aqp p2,Aqp r2⟩
  ·rw[Ik,Ik];simp
  ·rw[AaG,p1.mem_iff,hA]
  ·rw[AaG,r1.mem_iff,hB]
end
set_option maxHeartbeats 4000000 in
theorem Ahh {L:List GC} {nn:Bool} (hL:L.length≤1000):Ag (Ac tab) 19 [.sl nn (vs GC.av L)] (fun v=>∃b1 R1 b2 R2,v=.BG [.sl b1 (vs (.int .i64) R1),.sl b2 (vs (.int .i64) R2)]∧(∀ x,x∈R1↔x∈L.flatMap tN)∧(∀ x,x∈R2↔x∈L.flatMap tE)∧ZG R1∧ZG R2):=by
 refine Ad rfl rfl ?_
 (conv=>whnf);repeat' (first  |refine kA ?_;conv=>whnf|(apply Br.mk<;>intro hc<;>first|exact hc.elim|conv=>whnf)|refine kB ?_)
 refine Af (fun z env s=>∃(i c:Nat) (b1 b2:Bool) (A B:List Int),z=L.length-i∧i≤L.length∧(∀ x,x∈A↔x∈(L.take i).flatMap tN)∧(∀ x,x∈B↔x∈(L.take i).flatMap tE)∧ZG A∧ZG B∧A.length≤3*i∧B.length≤i∧env=[(0,.sl nn (vs GC.av L)),(4,.sl b1 (vs (.int .i64) A)),(5,.sl b2 (vs (.int .i64) B)),(6,.int .i64 i)]∧s=⟨[],c⟩) ?_ _ _ _ ⟨0,_,_,_,[],[],rfl,by omega,by simp,by simp,List.Pairwise.nil,List.Pairwise.nil,by simp,by simp,rfl,rfl⟩
 rintro _ _ _ ⟨i,c,b1,b2,A,B,rfl,hi,hA,hB,uA,uB,hAl,hBl,rfl,rfl⟩
 refine⟨rfl,?_⟩
 by_cases hlt:i<L.length
 ·have hsA:∀x,x∈(L.take (i+1)).flatMap tN↔x∈A∨x∈tN L[i]:=fun x=>by rw[U5 hlt,List.mem_append,hA]
  have hsB:∀x,x∈(L.take (i+1)).flatMap tE↔x∈B∨x∈tE L[i]:=fun x=>by rw[U5 hlt,List.mem_append,hB]
  by_cases h1:1≤(L[i]).op∧(L[i]).op≤5
  ·rw[Aqm h1]at hsA
   rw[Aj3 (by omega)]at hsB
   obtain⟨h1,h2⟩:=h1
   have w:=Abi (b:=b1) (x:=(L[i]).id) (W:=A) (by omega) uA
   (conv=>whnf);repeat' (first|(refine Aa w ?_;rintro _ ⟨b',W',rfl,w1,w2,w3⟩;conv=>whnf)|refine kA ?_;conv=>whnf|(apply Br.mk<;>intro hc<;>first|exact hc.elim|conv=>whnf)|refine kB ?_)
   all_goals first
        |(exfalso;omega)
        |exact again.mk ⟨_,by omega,i+1,_,_,_,W',B,rfl,by omega,fun x=>by rw[w3,hsA,List.mem_singleton],fun x=>by rw[hsB];simp,w1,uB,by omega,by omega,rfl,rfl⟩
  ·by_cases h6:(L[i]).op=6
   ·rw[Aqn h6]at hsA
    rw[Aj2 (by omega)]at hsB
    have w:=Abi (b:=b1) (x:=(L[i]).fr) (W:=A) (by omega) uA
    have v:=Abi (b:=b2) (x:=(L[i]).id) (W:=B) (by omega) uB
    (conv=>whnf);repeat' (first|(refine Aa w ?_;rintro _ ⟨b',W',rfl,w1,w2,w3⟩;conv=>whnf)|(refine Aa (Abi (b:=b') (x:=(L[i]).to) (W:=W') (by omega) w1) ?_;rintro _ ⟨b'',W'',rfl,x1,x2,x3⟩;conv=>whnf)|(refine Aa v ?_;rintro _ ⟨c',V',rfl,v1,v2,v3⟩;conv=>whnf)|refine kA ?_;conv=>whnf|(apply Br.mk<;>intro hc<;>first|exact hc.elim|conv=>whnf)|refine kB ?_)
    all_goals first
     |(exfalso;omega)
     |exact again.mk ⟨_,by omega,i+1,_,_,_,W'',V',rfl,by omega,fun x=>by rw[x3,w3,hsA,List.mem_cons,List.mem_singleton,or_assoc],fun x=>by rw[v3,hsB,List.mem_singleton],x1,v1,by omega,by omega,rfl,rfl⟩
   ·rw[Aqo h1 h6]at hsA
    by_cases h7:6≤(L[i]).op∧(L[i]).op≤8
    ·rw[Aj2 h7]at hsB
     have v:=Abi (b:=b2) (x:=(L[i]).id) (W:=B) (by omega) uB
     (conv=>whnf);repeat' (first|(refine Aa v ?_;rintro _ ⟨c',V',rfl,v1,v2,v3⟩;conv=>whnf)|refine kA ?_;conv=>whnf|(apply Br.mk<;>intro hc<;>first|exact hc.elim|conv=>whnf)|refine kB ?_)
     all_goals first
       |(exfalso;omega)
       |exact again.mk ⟨_,by omega,i+1,_,_,_,A,V',rfl,by omega,fun x=>by rw[hsA];simp,fun x=>by rw[v3,hsB,List.mem_singleton],uA,v1,by omega,by omega,rfl,rfl⟩
    ·rw[Aj3 h7]at hsB
     (conv=>whnf);repeat' (first  |refine kA ?_;conv=>whnf|(apply Br.mk<;>intro hc<;>first|exact hc.elim|conv=>whnf)|refine kB ?_)
     all_goals first
       |(exfalso;omega)
       |exact again.mk ⟨_,by omega,i+1,_,_,_,A,B,rfl,by omega,fun x=>by rw[hsA];simp,fun x=>by rw[hsB];simp,uA,uB,by omega,by omega,rfl,rfl⟩
 ·rw[List.take_of_length_le (by omega)]at hA hB
  (conv=>whnf);repeat' (first  |refine kA ?_;conv=>whnf|(apply Br.mk<;>intro hc<;>first|exact hc.elim|conv=>whnf)|refine kB ?_)
  all_goals first
   |exact⟨_,A,_,B,rfl,hA,hB,uA,uB⟩
   |(exfalso;omega)
theorem AcF {L:List GC} {nn:Bool} (hL:L.length≤1000):∃b1 b2 b3 b4 R1 R2,R1.length≤2000∧R2.length≤1000∧Ag (Ac tab) 18 [.sl nn (vs GC.av L)] (· =.BG [.sl b1 (vs (.int .i64) R1),.sl b2 (vs (.int .i64) R2)])∧Ag (Ac tab) 19 [.sl nn (vs GC.av L)] (· =.BG [.sl b3 (vs (.int .i64) R1),.sl b4 (vs (.int .i64) R2)]):=by
 obtain⟨_,⟨b1,R1,b2,R2,rfl,l1,l2,m1,m2,u1,u2⟩,p1⟩:=(Agv (nn:=nn) hL).IJ
 obtain⟨_,⟨b3,S1,b4,S2,rfl,n1,n2,v1,v2⟩,p2⟩:=(Ahh (nn:=nn) hL).IJ
 obtain rfl:R1=S1:=AcG u1 v1 fun x=>by rw[m1,n1]
 obtain rfl:R2=S2:=AcG u2 v2 fun x=>by rw[m2,n2]
 exact⟨b1,b2,b3,b4,R1,R2,by omega,by omega,p1,p2⟩
theorem AmK {l:List Int} {nl nm:Bool} (hl:l.length<2^62):Ag (Ac tab) 20 [.sl nl (vs (.int .i64) l),.sl nm (vs (.int .i64) l)] (· =.bool true):=by
 refine Ad rfl rfl ?_
 (conv=>whnf);repeat' (first  |refine kA ?_;conv=>whnf|(apply Br.mk<;>intro hc<;>first|exact hc.elim|conv=>whnf)|refine kB ?_)
 all_goals first|(exfalso;omega)|(exact absurd rfl (by assumption))|skip
 refine Af (fun z env s=>∃(i:Nat),z=l.length-i∧env=[(0,.sl nl (vs (.int .i64) l)),(1,.sl nm (vs (.int .i64) l)),(12,.int .i64 l.length),(13,.int .i64 i)]∧s=⟨[],0⟩) ?_ _ _ _ ⟨0,rfl,by first|rfl|(rw [← lV (f:=AV.int .i64) l];rfl),rfl⟩
 rintro _ _ _ ⟨i,rfl,rfl,rfl⟩
 refine⟨rfl,?_⟩
 by_cases hlt:i<l.length
 ·(conv=>whnf);repeat' (first  |refine kA ?_;conv=>whnf|(apply Br.mk<;>intro hc<;>first|exact hc.elim|conv=>whnf)|refine kB ?_)
  all_goals first|exact again.mk ⟨_,by omega,i+1,rfl,rfl,rfl⟩|(exfalso;omega)|exact absurd rfl (by assumption)
 ·(conv=>whnf);repeat' (first  |refine kA ?_;conv=>whnf|(apply Br.mk<;>intro hc<;>first|exact hc.elim|conv=>whnf)|refine kB ?_)
  all_goals first|rfl|(exfalso;omega)
theorem Asq {AP:Nat→Option Jc} {f es:Nat} {args elems:List AV} {s:Aq} {K:AV→Aq→Prop} (hcl:D9 args=true) (h:Am AP f args ⟨[],0⟩ fun out s'=>∃o g nn,out=.ok (.own o g 0 elems.length)∧nth s'.σ o=some (.arr g es nn true elems))
 (hk:∀nn,K (.own s.σ.length s.ctr 0 elems.length) (push s (.arr s.ctr es nn true elems))):∃N r s',Bv (run AP N) .own f args s=some (.ok r,s')∧K r s':=by
 obtain⟨N,out,s1,h1,o,g,nn,rfl,h2⟩:=h
 exact⟨N,_,_,by simp[Bv,hcl,h1,h2],hk nn⟩
theorem Asr {n:Int} (h0:0≤n) (h1:n≤100000):Am (Ac tab) 92 [.sl false [],.int .i64 n] ⟨[],0⟩ fun out s'=>∃o g nn,out=.ok (.own o g 0 ([]:List AV).length)∧nth s'.σ o=some (.arr g 10 nn true []):=
 MG (s':=⟨[.arr 0 10 (decide (n≠0)) true []],1⟩) (out:=.ok (.own 0 0 0 0)) (sp:=Z8) rfl (by show O1 10 112 _ _=_;simp only[O1];rw[if_pos ⟨h0,by omega⟩];rfl) ⟨0,0,_,rfl,rfl⟩
set_option maxHeartbeats 4000000 in
theorem Ad1 {L M:List GC} {nl nm:Bool} (hL:L.length≤1000) (hM:M.length≤1000):Ag (Ac tab) 41 [.sl true [.sl nl (vs GC.av L),.sl nm (vs GC.av M)]] (fun v=>∃b,v=.sl b (vs GC.av (L++M))):=by
 refine Ad rfl rfl ?_
 (conv=>whnf);repeat' (first|(refine Ue ?_ rfl;conv=>whnf)|(refine Asq rfl (Asr (by omega) (by omega)) (fun nn=>?_);conv=>whnf)|(refine P6 (f:=GC.av) (l:=[]) (l':=L) rfl Dv rfl (by simp;omega) (fun b0=>?_);conv=>whnf)|(refine P6 (f:=GC.av) (l:=[]++L) (l':=M) rfl Dv (by simp) (by simp;omega) (fun b=>?_);conv=>whnf)|refine kA ?_;conv=>whnf|(apply Br.mk<;>intro hc<;>first|exact hc.elim|conv=>whnf)|refine kB ?_)
 all_goals first
  |(exfalso;omega)
  |exact⟨_,rfl⟩
  |(exfalso;simp only[List.length_cons,List.length_nil]at *;omega)
  |(refine ⟨b,?_⟩;rw[← List.length_append,uV];simp;done)
theorem AmI {g:GG} {L M:List GC} {nl nm n:Bool} {b:Bool} {X:List AV} {e:Int} (hC:Ag (Ac tab) 41 [.sl true [.sl nl (vs GC.av L),.sl nm (vs GC.av M)]] (· =.sl n (vs GC.av (L++M)))) (hN:Ag (Ac tab) 11 [g.av,.sl n (vs GC.av (L++M))] (· =.BG [.sl b X,.int .i64 e])):
 Ag (Ac tab) 16 [g.av,.sl nl (vs GC.av L),.sl nm (vs GC.av M)] (· =.BG [.sl b X,.int .i64 e]):=by
 refine Ad rfl rfl ?_
 (conv=>whnf);repeat' (first|((first|refine Aa hC ?_|refine Aa hN ?_);rintro _ rfl;conv=>whnf)|refine kA ?_;conv=>whnf|(apply Br.mk<;>intro hc<;>first|exact hc.elim|conv=>whnf)|refine kB ?_)
 all_goals first|rfl|(exfalso;omega)
theorem Afh {N:List GN} {nx:Int} {i:Nat}:ER (N.map ET) nx i=ER N nx i:=by
 unfold ER
 simp only[List.getElem?_map]
 cases N[i]? with
 |none=>rfl
 |some n=>
  cases N[i-1]? with
  |none=>simp[ET]
  |some k=>simp[ET]
theorem Ag8 {N:List GN}:Hw (N.map ET)=Hw N:=by unfold Hw;rw[List.map_map];rfl
theorem Afi {N:List GN} {E:List GE} {nx:Int} {i:Nat}:EX (N.map ET) (E.map Gq) nx i=EX N E nx i:=by
 unfold EX
 simp only[List.getElem?_map,Ag8]
 cases E[i]? with
 |none=>rfl
 |some n=>
  cases E[i-1]? with
  |none=>simp[Gq]
  |some k=>simp[Gq]
theorem Ny {g h:GG} (e:BL g=BL h):AZ g=AZ h:=by
 have key:∀g:GG,AZ (BL g)=AZ g:=fun g=>by
  have e1:(BL g).nodes.length=g.nodes.length:=List.length_map ..
  have e2:(BL g).edges.length=g.edges.length:=List.length_map ..
  have n1:ER (BL g).nodes (BL g).BF=ER g.nodes g.BF:=funext fun i=>Afh
  have n2:EX (BL g).nodes (BL g).edges (BL g).BA=EX g.nodes g.edges g.BA:=funext fun i=>Afi
  have f:Gs (BL g)↔Gs g:=by unfold Gs;rw[e1,e2]
  have x:Hy (BL g)↔Hy g:=Iff.rfl
  unfold AZ
  rw[n1,n2,e1,e2]
  simp only[f,x]
 rw[← key g,e,key h]
theorem AkW (g:GG):SG g g:=by
 have h0:∀v,EL 12 v v=0:=fun v=>by have:=(PU 12).anti v v;omega
 have hp:∀P:List GP,QI SP P P:=fun P=>⟨rfl,fun k _ _=>⟨rfl,h0 _⟩⟩
 exact⟨⟨rfl,fun k _ _=>⟨rfl,rfl,hp _⟩⟩,rfl,fun k _ _=>⟨rfl,rfl,rfl,rfl,hp _⟩⟩
theorem Arr {g h:GG} {L:List GC} {nn b:Bool} {X:List AV} {n e:Int} (hA:Ag (Ac tab) 10 [g.av,.sl nn (vs GC.av L)] (· =.BG [h.av,.int .i64 n,.int .i64 0])) (hO:Ag (Ac tab) 40 [g.av,h.av] (· =.BG [.sl b X,.int .i64 e])):
 Ag (Ac tab) 15 [g.av,.sl nn (vs GC.av L)] (· =.BG [.sl b X,.int .i64 e]):=by
 refine Ad rfl rfl ?_
 (conv=>whnf);repeat' (first|((first|refine Aa hA ?_|refine Aa hO ?_);rintro _ rfl;conv=>whnf)|refine kA ?_;conv=>whnf|(apply Br.mk<;>intro hc<;>first|exact hc.elim|conv=>whnf)|refine kB ?_)
 all_goals first|rfl|(exfalso;omega)
theorem AoB {g h:GG} {L:List GC} {nn:Bool} {n e:Int} (hA:Ag (Ac tab) 10 [g.av,.sl nn (vs GC.av L)] (· =.BG [h.av,.int .i64 n,.int .i64 e])) (h0:e≠0):
 Ag (Ac tab) 15 [g.av,.sl nn (vs GC.av L)] (· =.BG [.sl false [],.int .i64 e]):=by
 refine Ad rfl rfl ?_
 (conv=>whnf);repeat' (first|(refine Aa hA ?_;rintro _ rfl;conv=>whnf)|refine kA ?_;conv=>whnf|(apply Br.mk<;>intro hc<;>first|exact hc.elim|conv=>whnf)|refine kB ?_)
 all_goals first|rfl|(exfalso;omega)
theorem AkX {a b:GG} (ha:a.ok) (hb:b.ok) (pa:CX a) (pb:CX b) (ea:AZ a=0) (eb:AZ b=0):∃nn,Ag (Ac tab) 40 [a.av,b.av] (· =.BG [.sl nn (vs GC.av (DT a b)),.int .i64 0]):=by
 obtain⟨_,⟨n1,rfl⟩,pP⟩:=(ofR ha hb (fun _=>pa) (fun _=>pb)).IJ
 have hoL:ofL a b=DT a b:=by unfold ofL;rw[if_pos ea,if_pos eb]
 have hoE:ofE a b=0:=by unfold ofE;rw[if_pos ea,eb]
 rw[hoL,hoE]at pP
 exact⟨n1,pP⟩
theorem Afy {g h:GG} (e:BL h=BL g) (ho:h.ok) (p:CX g):CX h:=by
 have l:=JM e
 refine⟨ho,by have:=p.nn;omega,by have:=p.en;omega,fun n hn=>?_,fun n hn=>?_⟩
 ·have:ET n∈g.nodes.map ET:=by rw[← J6 e];exact List.mem_map_of_mem hn
  obtain⟨m,hm,em⟩:=List.mem_map.1 this
  have q1:m.labels=n.labels:=by have z:=congrArg (fun x:GN=>x.labels) em;exact z
  have q2:m.props=n.props:=by have z:=congrArg (fun x:GN=>x.props) em;exact z
  have o:=ho.2.2.1 n hn
  have k:=p.nodes m hm
  rw[q1,q2]at k
  exact⟨o,k.2.1,k.2.2.1,k.2.2.2.1,k.2.2.2.2⟩
 ·have:Gq n∈g.edges.map Gq:=by rw[← J7 e];exact List.mem_map_of_mem hn
  obtain⟨m,hm,em⟩:=List.mem_map.1 this
  have q2:m.props=n.props:=by have z:=congrArg (fun x:GE=>x.props) em;exact z
  have o:=ho.2.2.2.2.2.1 n hn
  have k:=p.edges m hm
  rw[q2]at k
  exact⟨o,k.2.1,k.2.2.1,k.2.2.2⟩
theorem YA {g:GG} {L:List GC} {nn nm:Bool} (hg:g.ok) (sg:SmG g 24 30) (hok:∀c∈L,c.ok) (Abg:∀c∈L,GY 12 c.v.av) (hl:L.length≤60):
 ∃(n1 n2:Bool) (X Y:List GC) (e:Int),Ag (Ac tab) 11 [g.av,.sl nn (vs GC.av L)] (· =.BG [.sl n1 (vs GC.av X),.int .i64 e])∧Ag (Ac tab) 15 [g.av,.sl nm (vs GC.av L)] (· =.BG [.sl n2 (vs GC.av Y),.int .i64 e])∧
  Ag (Ac tab) 14 [.sl n1 (vs GC.av X),.sl n2 (vs GC.av Y)] (· =.bool true):=by
 have gN:=sg.1
 have gE:=sg.2.1
 obtain⟨_,⟨h',rfl,hn',ho'⟩,pR⟩:=(LX (nn:=nm) hg (by omega) hok (by omega) (by omega)).IJ
 have pP:=J5 (nn:=nn) hg (by omega) hok
 by_cases h0:(AX g L).2.2=0
 case neg=>
  refine⟨false,false,[],[],_,AqX pP h0,AoB pR h0,?_⟩
  exact Abk (A:=[]) (B:=[]) (by decide) (by trivial) (fun c hc=>by cases hc) (fun c hc=>by cases hc)
 obtain⟨cg,hrun⟩:=Lc h0
 have kg:=Zk cg
 rw[IC cg hrun]at pP
 rw[h0]at pR
 generalize (AX g L).1=h at hn' hrun pP
 generalize (AX g L).2.1=nR at pR
 have kh:=kg.run hrun
 have hh:=WQ hg kg hok hrun
 have lh:=Vo hrun
 have vg0:=AcD (ZF hg sg)
 have vh:=vg0.run (fun c hc=>⟨(hok c hc).2.2.2.2.2,Abg c hc⟩) hrun
 have pg:=WC hg sg cg
 have ph:=RF hh kh vh (by omega) (by omega)
 have ch:=Tc kh
 have ph':=Afy hn' ho' ph
 have ch':AZ h'=0:=(Ny hn').trans ch
 obtain⟨n1,o1⟩:=of_run hg hh pg ph cg ch
 obtain⟨n2,o2⟩:=AkX hg ho' pg ph' cg ch'
 refine⟨n1,n2,_,_,_,AdO pP o1,Arr pR o2,?_⟩
 exact Abk (ND kg.vg kh.vg) (Yt (AcE hn' (AkW h))) (Js ph) (Js ph')
theorem Art {α:Type} {f:α→AV} {es g len:Nat} {nn cl:Bool} {l l':List α} {ys:List AV} {bytes:Nat} {K:Nat→Bool→Bool→List AV→Prop} (he:ys=vs f l') (hf:∀x,(f x).cells.length=es) (hl:len=l.length) (hr:(l.length+l'.length)*bytes≤2 ^ 46) (h:K (l.length+l'.length) (nn||!(vs f l').isEmpty) cl (vs f (l++l'))):
 La g g es es len nn cl true (vs f l) ys bytes K:=by
 subst hl he
 refine⟨⟨rfl,rfl,by simp,Ey hf l',by rw[lV];exact OG hr⟩,?_⟩
 rw[lV,Bool.and_true,List.take_of_length_le (by simp)]
 have e:vs f l++vs f l'=vs f (l++l'):=by simp[vs]
 rw[e]
 exact h
theorem Aru {g:GG} {L M:List GC} {nl nm:Bool} {b:Bool} {X:List AV} {e:Int} (hL:L.length≤1000) (hM:M.length≤1000) (hN:Ag (Ac tab) 15 [g.av,.sl ((false||!(vs GC.av L).isEmpty)||!(vs GC.av M).isEmpty) (vs GC.av (L++M))] (· =.BG [.sl b X,.int .i64 e])):
 Ag (Ac tab) 17 [g.av,.sl nl (vs GC.av L),.sl nm (vs GC.av M)] (· =.BG [.sl b X,.int .i64 e]):=by
 have esub:sub (vs GC.av (L++M)) 0 (L.length+M.length)=vs GC.av (L++M):=by rw[← List.length_append,uV]
 rw[← esub]at hN
 refine Ad rfl rfl ?_
 (conv=>whnf);repeat' (first|(refine Art (f:=GC.av) (l:=[]) (l':=L) rfl Dv rfl (by simp;omega) ?_;conv=>whnf)|(refine Art (f:=GC.av) (l:=L) (l':=M) rfl Dv (by simp) (by omega) ?_;conv=>whnf)|(refine Aa hN ?_;rintro _ rfl;conv=>whnf)|refine kA ?_;conv=>whnf|(apply Br.mk<;>intro hc<;>first|exact hc.elim|conv=>whnf)|refine kB ?_)
 all_goals first|rfl|(exfalso;omega)
set_option maxRecDepth 10000 in
set_option maxHeartbeats 8000000 in
theorem Afd:∀xs,likes Tryz.prog [25,26,26] xs→Am (Ac tab) 4 xs ⟨[],0⟩ fun out _=>out=.ok (.bool true):=by
 intro xs h
 match xs,h with
 |[x,y,z],h=>
  obtain⟨h1,h2,h3,_⟩:=h
  obtain⟨g,rfl,hg⟩:=NC h1
  obtain⟨nn,L,rfl,hL,hok⟩:=Iz h2
  obtain⟨nm,M,rfl,hM,hmk⟩:=Iz h3
  obtain⟨_,⟨b1,rfl,q1⟩,p1⟩:=(AcC hg hg).IJ
  obtain⟨_,⟨b2,rfl,q2⟩,p2⟩:=(AgY (nn:=nn) hL hok).IJ
  obtain⟨_,⟨b3,rfl,q3⟩,p3⟩:=(AgY (nn:=nm) hM hmk).IJ
  refine Ah rfl rfl ?_
  cases b1
  case false=>
   (conv=>whnf);repeat' (first|(refine Aa p1 ?_;rintro _ rfl;conv=>whnf)|(refine Bo IB (fun _=>?_) (fun h=>absurd trivial h);conv=>whnf)|refine kA ?_;conv=>whnf|(apply Br.mk<;>intro hc<;>first|exact hc.elim|conv=>whnf)|refine kB ?_)
   all_goals first|rfl
  cases b2
  case false=>
   (conv=>whnf);repeat' (first|((first|refine Aa p1 ?_|refine Aa p2 ?_);rintro _ rfl;conv=>whnf)|(refine Bo IB (fun _=>?_) (fun h=>absurd trivial h);conv=>whnf)|refine kA ?_;conv=>whnf|(apply Br.mk<;>intro hc<;>first|exact hc.elim|conv=>whnf)|refine kB ?_)
   all_goals first|rfl
  cases b3
  case false=>
   (conv=>whnf);repeat' (first|((first|refine Aa p1 ?_|refine Aa p2 ?_|refine Aa p3 ?_);rintro _ rfl;conv=>whnf)|(refine Bo IB (fun _=>?_) (fun h=>absurd trivial h);conv=>whnf)|refine kA ?_;conv=>whnf|(apply Br.mk<;>intro hc<;>first|exact hc.elim|conv=>whnf)|refine kB ?_)
   all_goals first|rfl
  obtain⟨sg,_⟩:=q1 rfl
  obtain⟨l30,Abg⟩:=q2 rfl
  obtain⟨m30,Aoh⟩:=q3 rfl
  obtain⟨n1,n2,X,Y,e,N1,N2,S1⟩:=YA (nn:=nn) (nm:=nn) hg sg hok Abg (by omega)
  have hLM:∀c∈L++M,c.ok:=fun c hc=>(List.mem_append.1 hc).elim (hok c) (hmk c)
  have iLM:∀c∈L++M,GY 12 c.v.av:=fun c hc=>(List.mem_append.1 hc).elim (Abg c) (Aoh c)
  obtain⟨_,⟨fC,rfl⟩,hC⟩:=(Ad1 (L:=L) (M:=M) (nl:=nn) (nm:=nm) (by omega) (by omega)).IJ
  obtain⟨n3,n4,X2,Y2,e2,J1,J2,S2⟩:=YA (nn:=fC) (nm:=(false||!(vs GC.av L).isEmpty)||!(vs GC.av M).isEmpty) hg sg hLM iLM (by rw[List.length_append];omega)
  have K1:=AmI hC J1
  have K2:=Aru (nl:=nn) (nm:=nm) (by omega) (by omega) J2
  obtain⟨b1,b2,b3,b4,R1,R2,r1,r2,T1,T2⟩:=AcF (nn:=nn) (L:=L) (by omega)
  have i1:=AmK (l:=R1) (nl:=b1) (nm:=b3) (by omega)
  have i2:=AmK (l:=R2) (nl:=b2) (nm:=b4) (by omega)
  clear J1 J2 hC hLM iLM q1 q2 q3
  (conv=>whnf);repeat' (first|((first|refine Aa p1 ?_|refine Aa p2 ?_|refine Aa p3 ?_|refine Aa N1 ?_|refine Aa N2 ?_|refine Aa K1 ?_|refine Aa K2 ?_|refine Aa T1 ?_|refine Aa T2 ?_|refine Aa S1 ?_|refine Aa S2 ?_|refine Aa i1 ?_|refine Aa i2 ?_);rintro _ rfl;conv=>whnf)|(refine Bo IB (fun _=>?_) (fun h=>absurd trivial h);conv=>whnf)|refine kA ?_;conv=>whnf|(apply Br.mk<;>intro hc<;>first|exact hc.elim|conv=>whnf)|refine kB ?_)
  all_goals first|rfl|(exfalso;omega)|exact absurd rfl (by assumption)
end AI
end Go.Proofs.YthnehejdkajjhaaGreatDoor
