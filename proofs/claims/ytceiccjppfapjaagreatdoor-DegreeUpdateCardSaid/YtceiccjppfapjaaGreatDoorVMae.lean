/- Sorting numbers in descending order: the order. Sorting in place (CmpFunc[int]): insertion, heaps. Sorting in place (CmpFunc[int]): the pivot, reversing, breaking patterns. -/
import Derived.Test.YtceiccjppfapjaaGreatDoorVMad
set_option linter.unusedVariables false
set_option maxRecDepth 4000
namespace Go.Proofs.YtceiccjppfapjaaGreatDoor
namespace AI
section
open Go.Sort
def Dy (x y:Int):Bool:=decide (C9 y x<0)
theorem UR {x y:Int}:Dy x y=true↔y<x:=by unfold Dy;rw[decide_eq_true_eq,NY]
theorem U3 {x y:Int}:Dy x y=false↔¬y<x:=by rw[← UR];simp
theorem Q7:SWO Dy where
 irrefl x:=U3.2 (by omega)
 trans x y z h1 h2:=UR.2 (by have:=UR.1 h1;have:=UR.1 h2;omega)
 ntrans x y z h1 h2:=U3.2 (by have:=U3.1 h1;have:=U3.1 h2;omega)
theorem Cj (x:Int):(AV.int .i64 x).cells.length=1:=rfl
theorem Le {x y:Int}:Af (Ad tab) 136 [.int .i64 x,.int .i64 y] (· =.int .i64 (C9 y x)):=by
 refine Ac rfl rfl ?_
 (conv=>whnf);repeat' (first|(refine Aa compare ?_;rintro _ rfl;conv=>whnf)|(refine kA ?_;conv=>whnf)|(refine Br.mk (fun hc=>?_) fun hc=>?_<;>first|exact hc.elim|conv=>whnf)|(refine kB ?_))
 rfl
theorem Iz {x y:Int} {A B:Prop} (h1:Dy x y=true→A) (h2:Dy x y=false→B):Pm (C9 y x<0) A B:=
 ⟨fun h=>h1 (decide_eq_true h),fun h=>h2 (decide_eq_false h)⟩
attribute [irreducible] Dy
end
section
open Go.Sort
set_option maxHeartbeats 1000000 in
theorem Aqi {AX Cc:Obj} {g c len:Nat} {nn cl:Bool} {d:Array Int} {a b:Nat} (hl:d.size=len) (hb:b≤len) (hs:len<2^61) (ha:a≤len):
 Au (Ad tab) 284 [.own 2 g 0 len,.int .i64 a,.int .i64 b,.fn 136 []] ⟨[AX,Cc,.arr g 1 nn cl (vs (.int .i64) d.toList)],c⟩ fun out s'=>∃c',out=.ok (.BH [])∧s'=⟨[AX,Cc,.arr g 1 nn cl (vs (.int .i64) (insertionSort Dy d a b).toList)],c'⟩:=by
 refine Ah rfl rfl ?_
 (conv=>whnf);repeat' (first  |(refine kA ?_;conv=>whnf)|(refine Br.mk (fun hc=>?_) fun hc=>?_<;>first|exact hc.elim|conv=>whnf)|(refine kB ?_))
 refine Ae (fun m env s=>∃(i c:Nat) (D:Array Int),m=b-i∧insOuter Dy a b i D=insertionSort Dy d a b∧D.size=len∧env=[(0,.own 2 g 0 len),(1,.int .i64 a),(2,.int .i64 b),(3,.fn 136 []),(8,.int .i64 i)]∧s=⟨[AX,Cc,.arr g 1 nn cl (vs (.int .i64) D.toList)],c⟩) ?_ _ _ _ ⟨a+1,c,d,rfl,rfl,hl,rfl,rfl⟩
 rintro _ _ _ ⟨i,c,D,rfl,hD,hDl,rfl,rfl⟩
 refine⟨rfl,?_⟩
 (conv=>whnf);repeat' (first  |(refine kA ?_;conv=>whnf)|(refine Br.mk (fun hc=>?_) fun hc=>?_<;>first|exact hc.elim|conv=>whnf)|(refine kB ?_))
 ·rw[Ac4 (by omega)]at hD
  refine Ae (fun m env s=>∃(j c:Nat) (z:Int) (E:Array Int),m=j∧z=j∧j≤i∧insInner Dy a j E=insInner Dy a i D∧E.size=len∧env=[(0,.own 2 g 0 len),(1,.int .i64 a),(2,.int .i64 b),(3,.fn 136 []),(8,.int .i64 i),(9,.int .i64 z)]∧s=⟨[AX,Cc,.arr g 1 nn cl (vs (.int .i64) E.toList)],c⟩) ?_ _ _ _ ⟨i,_,_,D,rfl,rfl,by omega,rfl,hDl,rfl,rfl⟩
  rintro j _ _ ⟨_,c,z,E,rfl,hz,hj,hE,hEl,rfl,rfl⟩
  refine⟨rfl,?_⟩
  cases j with
  |zero=>
   (conv=>whnf);repeat' (first  |(refine kA ?_;conv=>whnf)|(refine Br.mk (fun hc=>?_) fun hc=>?_<;>first|exact hc.elim|conv=>whnf)|(refine kB ?_))
   rw[← hE]at hD
   exact again.mk ⟨_,by omega,i+1,_,E,rfl,hD,hEl,rfl,rfl⟩
  |succ j=>
   (conv=>whnf);repeat' (first|((with_reducible show Bq _ _ _);refine DT (j+1) ?_;conv=>whnf)|((with_reducible show Bq _ _ _);refine DT (j) ?_;conv=>whnf)|(refine Aa Le ?_;rintro _ rfl;conv=>whnf)|(refine Iz (fun hc=>?_) (fun hc=>?_)<;>conv=>whnf)|((with_reducible show eqK _ _);refine Hl Cj (j+1) ?_;conv=>whnf)|((with_reducible show eqK _ _);refine Hl Cj (j) ?_;conv=>whnf)|(refine kA ?_;conv=>whnf)|(refine Br.mk (fun hc=>?_) fun hc=>?_<;>first|exact hc.elim|conv=>whnf)|(refine kB ?_))
   ·rw[Z9 (by omega) hc]at hE
    exact again.mk ⟨_,by omega,j,_,_,swp E (j+1) j,rfl,by omega,by omega,hE,by simpa using hEl,rfl,rfl⟩
   ·rw[Qs (fun _=>hc)]at hE
    rw[← hE]at hD
    exact again.mk ⟨_,by omega,i+1,_,E,rfl,hD,hEl,rfl,rfl⟩
   ·rw[Qs (fun h=>absurd h (by omega))]at hE
    rw[← hE]at hD
    exact again.mk ⟨_,by omega,i+1,_,E,rfl,hD,hEl,rfl,rfl⟩
 ·rw[Ac5 (by omega)]at hD
  exact⟨_,rfl,by rw[hD]⟩
set_option maxHeartbeats 1000000 in
theorem AiF {AX Cc:Obj} {g c len:Nat} {nn cl:Bool} {d:Array Int} {lo hi first:Nat} (hl:d.size=len) (hb:first+hi≤len) (hs:len<2^61) (hlo:lo≤len):
 Au (Ad tab) 328 [.own 2 g 0 len,.int .i64 lo,.int .i64 hi,.int .i64 first,.fn 136 []] ⟨[AX,Cc,.arr g 1 nn cl (vs (.int .i64) d.toList)],c⟩ fun out s'=>∃c',out=.ok (.BH [])∧s'=⟨[AX,Cc,.arr g 1 nn cl (vs (.int .i64) (siftDown Dy hi first lo d).toList)],c'⟩:=by
 refine Ah rfl rfl ?_
 (conv=>whnf);repeat' (first  |(refine kA ?_;conv=>whnf)|(refine Br.mk (fun hc=>?_) fun hc=>?_<;>first|exact hc.elim|conv=>whnf)|(refine kB ?_))
 refine Ae (fun m env s=>∃(root c:Nat) (z:Int) (D:Array Int),m=hi-root∧z=root∧root≤len∧siftDown Dy hi first root D=siftDown Dy hi first lo d∧D.size=len∧env=[(0,.own 2 g 0 len),(2,.int .i64 hi),(3,.int .i64 first),(4,.fn 136 []),(10,.int .i64 z)]∧s=⟨[AX,Cc,.arr g 1 nn cl (vs (.int .i64) D.toList)],c⟩) ?_ _ _ _ ⟨lo,c,_,d,rfl,rfl,hlo,rfl,hl,rfl,rfl⟩
 rintro _ _ _ ⟨root,c,z,D,rfl,hz,hr,hD,hDl,rfl,rfl⟩
 refine⟨rfl,?_⟩
 (conv=>whnf);repeat' (first|((with_reducible show Bq _ _ _);refine DT (first+root) ?_;conv=>whnf)|((with_reducible show Bq _ _ _);refine DT (first+(2*root+1)) ?_;conv=>whnf)|((with_reducible show Bq _ _ _);refine DT (first+(2*root+1)+1) ?_;conv=>whnf)|(refine Aa Le ?_;rintro _ rfl;conv=>whnf)|(refine Iz (fun hc=>?_) (fun hc=>?_)<;>conv=>whnf)|((with_reducible show eqK _ _);refine Hl Cj (first+root) ?_;conv=>whnf)|((with_reducible show eqK _ _);refine Hl Cj (first+(2*root+1)) ?_;conv=>whnf)|((with_reducible show eqK _ _);refine Hl Cj (first+(2*root+1)+1) ?_;conv=>whnf)|(refine kA ?_;conv=>whnf)|(refine Br.mk (fun hc=>?_) fun hc=>?_<;>first|exact hc.elim|conv=>whnf)|(refine kB ?_))
 ·rw[Ve (by omega)]at hD
  exact⟨_,rfl,by rw[hD]⟩
 all_goals first
  |(rw [Ago (by omega) (by assumption) hc]at hD
    exact again.mk ⟨_,by omega,2*root+2,_,_,swp D (first+root) (first+(2*root+2)),rfl,by omega,by omega,hD,by simpa using hDl,rfl,rfl⟩)
  |(rw [Ac6 (by omega) (by assumption) hc]at hD
    exact⟨_,rfl,by rw[hD]⟩)
  |(rw [YN (by omega) (fun _=>by assumption) hc]at hD
    exact again.mk ⟨_,by omega,2*root+1,_,_,swp D (first+root) (first+(2*root+1)),rfl,by omega,by omega,hD,by simpa using hDl,rfl,rfl⟩)
  |(rw [Uu (by omega) (fun _=>by assumption) hc]at hD
    exact⟨_,rfl,by rw[hD]⟩)
  |(rw [YN (by omega) (fun h=>absurd h (by omega)) hc]at hD
    exact again.mk ⟨_,by omega,2*root+1,_,_,swp D (first+root) (first+(2*root+1)),rfl,by omega,by omega,hD,by simpa using hDl,rfl,rfl⟩)
  |(rw [Uu (by omega) (fun h=>absurd h (by omega)) hc]at hD
    exact⟨_,rfl,by rw[hD]⟩)
set_option maxHeartbeats 1000000 in
theorem AkO {AX Cc:Obj} {g c len:Nat} {nn cl:Bool} {d:Array Int} {a n:Nat} {z:Int} {Q:AA→Env→Ap→Prop} (hl:d.size=len) (hb:a+n≤len) (hs:len<2^61) (hz:z=(n:Int)-1)
 (hQ:∀c' e,Q (.exit 2) e ⟨[AX,Cc,.arr g 1 nn cl (vs (.int .i64) (heapPop Dy a n d).toList)],c'⟩):
 Run (Ad tab) (.loop l285_1_h l285_1_b) [(0,.own 2 g 0 len),(3,.fn 136 []),(8,.int .i64 a),(9,.int .i64 0),(12,.int .i64 z)] ⟨[AX,Cc,.arr g 1 nn cl (vs (.int .i64) d.toList)],c⟩ Q:=by
 refine Ae (fun m env s=>∃(k c:Nat) (z:Int) (E:Array Int),m=k∧z=(k:Int)-1∧a+k≤len∧heapPop Dy a k E=heapPop Dy a n d∧E.size=len∧env=[(0,.own 2 g 0 len),(3,.fn 136 []),(8,.int .i64 a),(9,.int .i64 0),(12,.int .i64 z)]∧s=⟨[AX,Cc,.arr g 1 nn cl (vs (.int .i64) E.toList)],c⟩) ?_ _ _ _ ⟨n,c,_,d,rfl,hz,by omega,rfl,hl,rfl,rfl⟩
 clear hz
 rintro k _ _ ⟨_,c,z,E,rfl,hz,hk,hE,hEl,rfl,rfl⟩
 refine⟨rfl,?_⟩
 cases k with
 |succ k=>
  obtain rfl:z=(k:Nat):=by omega
  (conv=>whnf);repeat' (first|((with_reducible show Bq _ _ _);refine DT (a) ?_;conv=>whnf)|((with_reducible show Bq _ _ _);refine DT (a+k) ?_;conv=>whnf)|((with_reducible show eqK _ _);refine Hl Cj (a) ?_;conv=>whnf)|((with_reducible show eqK _ _);refine Hl Cj (a+k) ?_;conv=>whnf)|(refine kA ?_;conv=>whnf)|(refine Br.mk (fun hc=>?_) fun hc=>?_<;>first|exact hc.elim|conv=>whnf)|(refine kB ?_))
  refine(AiF (d:=swp E a (a+k)) (lo:=0) (by simpa using hEl) (by omega) hs (by omega)).mono ?_
  rintro _ _ ⟨c',rfl,rfl⟩
  (conv=>whnf);repeat' (first  |(refine kA ?_;conv=>whnf)|(refine Br.mk (fun hc=>?_) fun hc=>?_<;>first|exact hc.elim|conv=>whnf)|(refine kB ?_))
  rw[heapPop]at hE
  exact again.mk ⟨_,by omega,k,_,(k:Int)-1,_,rfl,by omega,by omega,hE,by simpa using hEl,rfl,rfl⟩
 |zero=>
  rw[← hE]at hQ
  (conv=>whnf);repeat' (first  |(refine kA ?_;conv=>whnf)|(refine Br.mk (fun hc=>?_) fun hc=>?_<;>first|exact hc.elim|conv=>whnf)|(refine kB ?_))
  exact hQ _ _
theorem Ani {AX Cc:Obj} {g c len:Nat} {nn cl:Bool} {d:Array Int} {a b:Nat} (hl:d.size=len) (hb:b≤len) (hs:len<2^61) (hab:a<b):
 Au (Ad tab) 285 [.own 2 g 0 len,.int .i64 a,.int .i64 b,.fn 136 []] ⟨[AX,Cc,.arr g 1 nn cl (vs (.int .i64) d.toList)],c⟩ fun out s'=>∃c',out=.ok (.BH [])∧s'=⟨[AX,Cc,.arr g 1 nn cl (vs (.int .i64) (heapSort Dy d a b).toList)],c'⟩:=by
 refine Ah rfl rfl ?_
 (conv=>whnf);repeat' (first|(refine Nz (b-a-1) 2 (by omega) (by omega) ?_;conv=>whnf)|(refine kA ?_;conv=>whnf)|(refine Br.mk (fun hc=>?_) fun hc=>?_<;>first|exact hc.elim|conv=>whnf)|(refine kB ?_))
 refine Ae (fun m env s=>∃(k c:Nat) (z:Int) (D:Array Int),m=k∧z=k-1∧k≤len∧heapBuild Dy (b-a) a k D=heapBuild Dy (b-a) a ((b-a-1) / 2+1) d∧D.size=len∧env=[(0,.own 2 g 0 len),(3,.fn 136 []),(8,.int .i64 a),(9,.int .i64 0),(10,.int .i64 (b-a)),(11,.int .i64 z)]∧s=⟨[AX,Cc,.arr g 1 nn cl (vs (.int .i64) D.toList)],c⟩) ?_ _ _ _ ⟨(b-a-1) / 2+1,c,_,d,rfl,by omega,by omega,rfl,hl,rfl,rfl⟩
 rintro k _ _ ⟨_,c,z,D,rfl,hz,hk,hD,hDl,rfl,rfl⟩
 refine⟨rfl,?_⟩
 cases k with
 |succ k=>
  obtain rfl:z=(k:Nat):=by omega
  (conv=>whnf);repeat' (first  |(refine kA ?_;conv=>whnf)|(refine Br.mk (fun hc=>?_) fun hc=>?_<;>first|exact hc.elim|conv=>whnf)|(refine kB ?_))
  rw[show ((b:Int)-a)=((b-a:Nat):Int) by omega]
  refine(AiF hDl (by omega) hs (by omega)).mono ?_
  rintro _ _ ⟨c',rfl,rfl⟩
  (conv=>whnf);repeat' (first  |(refine kA ?_;conv=>whnf)|(refine Br.mk (fun hc=>?_) fun hc=>?_<;>first|exact hc.elim|conv=>whnf)|(refine kB ?_))
  rw[heapBuild]at hD
  exact again.mk ⟨_,by omega,k,_,(k:Int)-1,_,rfl,by omega,by omega,hD,by simpa using hDl,rfl,rfl⟩
 |zero=>
  have hD:D=_:=hD
  (conv=>whnf);repeat' (first  |(refine kA ?_;conv=>whnf)|(refine Br.mk (fun hc=>?_) fun hc=>?_<;>first|exact hc.elim|conv=>whnf)|(refine kB ?_))
  refine AkO hDl (n:=b-a) (by omega) hs (by omega) (fun c' e=>?_)
  (conv=>whnf);repeat' (first  |(refine kA ?_;conv=>whnf)|(refine Br.mk (fun hc=>?_) fun hc=>?_<;>first|exact hc.elim|conv=>whnf)|(refine kB ?_))
  exact⟨_,rfl,by rw[hD];rfl⟩
end
section
open Go.Sort
theorem Aiv {AX Cc:Obj} {g g2 c len:Nat} {nn cl:Bool} {d:Array Int} {a b n:Nat} (hl:d.size=len) (ha:a<len) (hb:b<len) (hs:len<2^61) (hn:n<100):
 Au (Ad tab) 357 [.own 2 g 0 len,.int .i64 a,.int .i64 b,.ref 3 g2 0 0,.fn 136 []] ⟨[AX,Cc,.arr g 1 nn cl (vs (.int .i64) d.toList),.arr g2 1 true true [.int .i64 n]],c⟩ fun out s'=>∃(c' x y n':Nat),out=.ok (.BH [.int .i64 x,.int .i64 y])∧s'=⟨[AX,Cc,.arr g 1 nn cl (vs (.int .i64) d.toList),.arr g2 1 true true [.int .i64 n']],c'⟩∧n'≤n+1∧(x=a∧y=b∨x=b∧y=a):=by
 refine Ah rfl rfl ?_
 (conv=>whnf);repeat' (first|((with_reducible show Bq _ _ _);refine DT (a) ?_;conv=>whnf)|((with_reducible show Bq _ _ _);refine DT (b) ?_;conv=>whnf)|(refine Aa Le ?_;rintro _ rfl;conv=>whnf)|(refine Iz (fun hc=>?_) (fun hc=>?_)<;>conv=>whnf)|(refine kA ?_;conv=>whnf)|(refine Br.mk (fun hc=>?_) fun hc=>?_<;>first|exact hc.elim|conv=>whnf)|(refine kB ?_))
 ·exact⟨_,b,a,n+1,rfl,rfl,by omega,Or.inr ⟨rfl,rfl⟩⟩
 ·exact⟨_,a,b,n,rfl,rfl,by omega,Or.inl ⟨rfl,rfl⟩⟩
theorem Aiw {AX Cc:Obj} {g g2 c len:Nat} {nn cl:Bool} {d:Array Int} {a b e n:Nat} (hl:d.size=len) (ha:a<len) (hb:b<len) (he:e<len) (hs:len<2^61) (hn:n<90):
 Au (Ad tab) 330 [.own 2 g 0 len,.int .i64 a,.int .i64 b,.int .i64 e,.ref 3 g2 0 0,.fn 136 []] ⟨[AX,Cc,.arr g 1 nn cl (vs (.int .i64) d.toList),.arr g2 1 true true [.int .i64 n]],c⟩ fun out s'=>∃(c' m n':Nat),out=.ok (.int .i64 m)∧s'=⟨[AX,Cc,.arr g 1 nn cl (vs (.int .i64) d.toList),.arr g2 1 true true [.int .i64 n']],c'⟩∧n'≤n+3∧(m=a∨m=b∨m=e):=by
 refine Ah rfl rfl ?_
 (conv=>whnf);repeat' (first  |(refine kA ?_;conv=>whnf)|(refine Br.mk (fun hc=>?_) fun hc=>?_<;>first|exact hc.elim|conv=>whnf)|(refine kB ?_))
 refine(Aiv hl ha hb hs (by omega)).mono ?_
 rintro _ _ ⟨c1,x1,y1,n1,rfl,rfl,h1,e1⟩
 conv=>whnf
 apply Ag rfl
 (conv=>whnf);repeat' (first  |(refine kA ?_;conv=>whnf)|(refine Br.mk (fun hc=>?_) fun hc=>?_<;>first|exact hc.elim|conv=>whnf)|(refine kB ?_))
 refine(Aiv (a:=y1) (b:=e) hl (by omega) he hs (by omega)).mono ?_
 rintro _ _ ⟨c2,x2,y2,n2,rfl,rfl,h2,e2⟩
 conv=>whnf
 apply Ag rfl
 (conv=>whnf);repeat' (first  |(refine kA ?_;conv=>whnf)|(refine Br.mk (fun hc=>?_) fun hc=>?_<;>first|exact hc.elim|conv=>whnf)|(refine kB ?_))
 refine(Aiv (a:=x1) (b:=x2) hl (by omega) (by omega) hs (by omega)).mono ?_
 rintro _ _ ⟨c3,x3,y3,n3,rfl,rfl,h3,e3⟩
 conv=>whnf
 apply Ag rfl
 (conv=>whnf);repeat' (first  |(refine kA ?_;conv=>whnf)|(refine Br.mk (fun hc=>?_) fun hc=>?_<;>first|exact hc.elim|conv=>whnf)|(refine kB ?_))
 exact⟨_,y3,n3,rfl,rfl,by omega,by omega⟩
theorem Aix {AX Cc:Obj} {g g2 c len:Nat} {nn cl:Bool} {d:Array Int} {a n:Nat} (hl:d.size=len) (ha:a+1<len) (h0:0<a) (hs:len<2^61) (hn:n<90):
 Au (Ad tab) 329 [.own 2 g 0 len,.int .i64 a,.ref 3 g2 0 0,.fn 136 []] ⟨[AX,Cc,.arr g 1 nn cl (vs (.int .i64) d.toList),.arr g2 1 true true [.int .i64 n]],c⟩ fun out s'=>∃(c' m n':Nat),out=.ok (.int .i64 m)∧s'=⟨[AX,Cc,.arr g 1 nn cl (vs (.int .i64) d.toList),.arr g2 1 true true [.int .i64 n']],c'⟩∧n'≤n+3∧a≤m+1∧m≤a+1:=by
 refine Ah rfl rfl ?_
 (conv=>whnf);repeat' (first  |(refine kA ?_;conv=>whnf)|(refine Br.mk (fun hc=>?_) fun hc=>?_<;>first|exact hc.elim|conv=>whnf)|(refine kB ?_))
 rw[show ((a:Int)-1)=((a-1:Nat):Int) by omega]
 refine(Aiw (a:=a-1) (b:=a) (e:=a+1) hl (by omega) (by omega) ha hs hn).mono ?_
 rintro _ _ ⟨c',m,n',rfl,rfl,h1,h2⟩
 conv=>whnf
 apply Ag rfl
 (conv=>whnf);repeat' (first  |(refine kA ?_;conv=>whnf)|(refine Br.mk (fun hc=>?_) fun hc=>?_<;>first|exact hc.elim|conv=>whnf)|(refine kB ?_))
 exact⟨_,m,n',rfl,rfl,h1,by omega,by omega⟩
set_option maxHeartbeats 1000000 in
theorem Aqg {AX Cc:Obj} {g c len:Nat} {nn cl:Bool} {d:Array Int} {a b:Nat} (hl:d.size=len) (hb:b≤len) (hab:a+12<b) (hs:len<2^61):
 Au (Ad tab) 287 [.own 2 g 0 len,.int .i64 a,.int .i64 b,.fn 136 []] ⟨[AX,Cc,.arr g 1 nn cl (vs (.int .i64) d.toList)],c⟩ fun out s'=>∃(c' p:Nat) (h:Int) (ob:Obj),out=.ok (.BH [.int .i64 p,.int .i64 h])∧s'=⟨[AX,Cc,.arr g 1 nn cl (vs (.int .i64) d.toList),ob],c'⟩∧a≤p∧p<b:=by
 refine Ah rfl rfl ?_
 have hq:(b-a) / 4*4≤b-a:=Nat.div_mul_le_self _ _
 have hq2:3≤(b-a) / 4:=by omega
 generalize hL:(b-a) / 4=L at hq hq2
 (conv=>whnf);repeat' (first|(refine Nz (b-a) 4 (by omega) (by omega) ?_;rw[hL];conv=>whnf)|(refine kA ?_;conv=>whnf)|(refine Br.mk (fun hc=>?_) fun hc=>?_<;>first|exact hc.elim|conv=>whnf)|(refine kB ?_))
 ·refine(Aix (g2:=c) (n:=0) (a:=a+L*1) hl (by omega) (by omega) hs (by omega)).mono ?_
  rintro _ _ ⟨c1,i,n1,rfl,rfl,h1,i1,i2⟩
  conv=>whnf
  apply Ag rfl
  (conv=>whnf);repeat' (first  |(refine kA ?_;conv=>whnf)|(refine Br.mk (fun hc=>?_) fun hc=>?_<;>first|exact hc.elim|conv=>whnf)|(refine kB ?_))
  refine(Aix (g2:=c) (a:=a+L*2) hl (by omega) (by omega) hs (by omega)).mono ?_
  rintro _ _ ⟨c2,j,n2,rfl,rfl,h2,j1,j2⟩
  conv=>whnf
  apply Ag rfl
  (conv=>whnf);repeat' (first  |(refine kA ?_;conv=>whnf)|(refine Br.mk (fun hc=>?_) fun hc=>?_<;>first|exact hc.elim|conv=>whnf)|(refine kB ?_))
  refine(Aix (g2:=c) (a:=a+L*3) hl (by omega) (by omega) hs (by omega)).mono ?_
  rintro _ _ ⟨c3,k,n3,rfl,rfl,h3,k1,k2⟩
  conv=>whnf
  apply Ag rfl
  (conv=>whnf);repeat' (first  |(refine kA ?_;conv=>whnf)|(refine Br.mk (fun hc=>?_) fun hc=>?_<;>first|exact hc.elim|conv=>whnf)|(refine kB ?_))
  refine(Aiw (g2:=c) (a:=i) (b:=j) (e:=k) hl (by omega) (by omega) (by omega) hs (by omega)).mono ?_
  rintro _ _ ⟨c4,m,n4,rfl,rfl,h4,h5⟩
  conv=>whnf
  apply Ag rfl
  (conv=>whnf);repeat' (first  |(refine kA ?_;conv=>whnf)|(refine Br.mk (fun hc=>?_) fun hc=>?_<;>first|exact hc.elim|conv=>whnf)|(refine kB ?_))
  all_goals exact⟨_,m,_,_,rfl,rfl,by omega,by omega⟩
 ·refine(Aiw (g2:=c) (n:=0) (a:=a+L*1) (b:=a+L*2) (e:=a+L*3) hl (by omega) (by omega) (by omega) hs (by omega)).mono ?_
  rintro _ _ ⟨c4,m,n4,rfl,rfl,h4,h5⟩
  conv=>whnf
  apply Ag rfl
  (conv=>whnf);repeat' (first  |(refine kA ?_;conv=>whnf)|(refine Br.mk (fun hc=>?_) fun hc=>?_<;>first|exact hc.elim|conv=>whnf)|(refine kB ?_))
  all_goals exact⟨_,m,_,_,rfl,rfl,by omega,by omega⟩
theorem Aqf {AX Cc:Obj} {g c len:Nat} {nn cl:Bool} {d:Array Int} {a b:Nat} (hl:d.size=len) (hb:b≤len) (hab:a<b) (hs:len<2^61):
 Au (Ad tab) 288 [.own 2 g 0 len,.int .i64 a,.int .i64 b,.fn 136 []] ⟨[AX,Cc,.arr g 1 nn cl (vs (.int .i64) d.toList)],c⟩ fun out s'=>∃c' D,out=.ok (.BH [])∧s'=⟨[AX,Cc,.arr g 1 nn cl (vs (.int .i64) D.toList)],c'⟩∧PermIn a b d D:=by
 refine Ah rfl rfl ?_
 (conv=>whnf);repeat' (first  |(refine kA ?_;conv=>whnf)|(refine Br.mk (fun hc=>?_) fun hc=>?_<;>first|exact hc.elim|conv=>whnf)|(refine kB ?_))
 refine Ae (fun m env s=>∃(i c:Nat) (z:Int) (D:Array Int),m=b-i∧a≤i∧i≤b∧z=(a:Int)+b-1-i∧PermIn a b d D∧env=[(0,.own 2 g 0 len),(8,.int .i64 i),(9,.int .i64 z)]∧s=⟨[AX,Cc,.arr g 1 nn cl (vs (.int .i64) D.toList)],c⟩) ?_ _ _ _ ⟨a,c,_,d,rfl,by omega,by omega,by omega,permIn_refl _ _ _,rfl,rfl⟩
 rintro _ _ _ ⟨i,c,z,D,rfl,hi,hib,hz,hD,rfl,rfl⟩
 refine⟨rfl,?_⟩
 have hDl:D.size=len:=by rw[hD.1,hl]
 (conv=>whnf);repeat' (first|((with_reducible show Bq _ _ _);refine DT (i) ?_;conv=>whnf)|((with_reducible show Bq _ _ _);refine DT (a+b-1-i) ?_;conv=>whnf)|((with_reducible show eqK _ _);refine Hl Cj (i) ?_;conv=>whnf)|((with_reducible show eqK _ _);refine Hl Cj (a+b-1-i) ?_;conv=>whnf)|(refine kA ?_;conv=>whnf)|(refine Br.mk (fun hc=>?_) fun hc=>?_<;>first|exact hc.elim|conv=>whnf)|(refine kB ?_))
 ·exact again.mk ⟨_,by omega,i+1,_,z-1,swp D i (a+b-1-i),rfl,by omega,by omega,by omega,permIn_trans _ _ _ _ _ hD (swp_permIn _ _ _ _ _ (by omega) (by omega) (by omega) (by omega) (by omega)),rfl,rfl⟩
 ·exact⟨_,D,rfl,rfl,hD⟩
theorem AnR {AX Cc:Obj} {obX:Obj} {g2 c:Nat} {r:Int}:
 Au (Ad tab) 273 [.ref 3 g2 0 0] ⟨[AX,Cc,  obX,.arr g2 1 true true [.int .u64 r]],c⟩ fun out s'=>∃c' r',out=.ok (.int .u64 r')∧s'=⟨[AX,Cc,  obX,.arr g2 1 true true [.int .u64 r']],c'⟩:=by
 refine Ah rfl rfl ?_
 (conv=>whnf);repeat' (first|(apply BG rfl;conv=>whnf)|(apply BQ rfl;conv=>whnf)|(refine kA ?_;conv=>whnf)|(refine Br.mk (fun hc=>?_) fun hc=>?_<;>first|exact hc.elim|conv=>whnf)|(refine kB ?_))
 exact⟨_,_,rfl,rfl⟩
theorem AqP {r:Int} {M:Nat} (h0:0<M) (h:M<2^63):∃n:Nat,IntKind.u64.wrap ((BitVec.ofInt IntKind.u64.bits r &&& BitVec.ofInt IntKind.u64.bits ((M-1:Nat):Int)).toNat:Int)=n∧n<M:=by
 have e:(BitVec.ofInt IntKind.u64.bits ((M-1:Nat):Int)).toNat=M-1:=by
  rw[BitVec.toNat_ofInt]
  show Int.toNat (((M-1:Nat):Int) % ((2 ^ 64:Nat):Int))=M-1
  omega
 refine⟨(BitVec.ofInt IntKind.u64.bits r &&& BitVec.ofInt IntKind.u64.bits ((M-1:Nat):Int)).toNat,Acg rfl (by omega) ?_,?_⟩
 ·rw[BitVec.toNat_and,e]
  have:=@Nat.and_le_right (BitVec.ofInt IntKind.u64.bits r).toNat (M-1)
  show _<(2:Int) ^ 64
  omega
 ·rw[BitVec.toNat_and,e]
  have:=@Nat.and_le_right (BitVec.ofInt IntKind.u64.bits r).toNat (M-1)
  omega
set_option maxHeartbeats 1000000 in
theorem Aqh {AX Cc:Obj} {g c len:Nat} {nn cl:Bool} {d:Array Int} {a b:Nat} (hl:d.size=len) (hb:b≤len) (hab:a+12<b) (hs:len<2^61):
 Au (Ad tab) 286 [.own 2 g 0 len,.int .i64 a,.int .i64 b,.fn 136 []] ⟨[AX,Cc,.arr g 1 nn cl (vs (.int .i64) d.toList)],c⟩ fun out s'=>∃c' D ob,out=.ok (.BH [])∧s'=⟨[AX,Cc,.arr g 1 nn cl (vs (.int .i64) D.toList),ob],c'⟩∧PermIn a b d D:=by
 refine Ah rfl rfl ?_
 have hq:(b-a) / 4*4≤b-a:=Nat.div_mul_le_self _ _
 have hq2:3≤(b-a) / 4:=by omega
 generalize hL:(b-a) / 4=L at hq hq2
 (conv=>whnf);repeat' (first|(refine Nz (b-a) 4 (by omega) (by omega) ?_;rw[hL];conv=>whnf)|(refine wrapN (b-a) rfl (by omega) (by show _<2^64;omega) ?_;conv=>whnf)|(refine kA ?_;conv=>whnf)|(refine Br.mk (fun hc=>?_) fun hc=>?_<;>first|exact hc.elim|conv=>whnf)|(refine kB ?_))
 rw[show ((b:Int)-a)=((b-a:Nat):Int) by omega]
 refine Aa (X6 (n:=b-a) (by omega) (by omega)) ?_
 rintro _ ⟨M,rfl,hM1,hM2⟩
 (conv=>whnf);repeat' (first|(refine Nz (b-a) 4 (by omega) (by omega) ?_;rw[hL];conv=>whnf)|(refine kA ?_;conv=>whnf)|(refine Br.mk (fun hc=>?_) fun hc=>?_<;>first|exact hc.elim|conv=>whnf)|(refine kB ?_))
 refine Ae (fun m env s=>∃(k cc:Nat) (z r:Int) (D:Array Int),m=3-k∧k≤3∧z=(a:Int)+L*2-1+k∧PermIn a b d D∧env=[(0,.own 2 g 0 len),(1,.int .i64 a),(8,.int .i64 (b-a:Nat)),(9,.ref 3 c 0 0),(10,.int .u64 M),(11,.int .i64 z)]∧s=⟨[AX,Cc,.arr g 1 nn cl (vs (.int .i64) D.toList),.arr c 1 true true [.int .u64 r]],cc⟩) ?_ _ _ _ ⟨0,_,_,((b-a:Nat):Int),d,rfl,by omega,by omega,permIn_refl _ _ _,rfl,rfl⟩
 rintro _ _ _ ⟨k,c1,z,r,D,rfl,hk,hz,hD,rfl,rfl⟩
 refine⟨rfl,?_⟩
 have hDl:D.size=len:=by rw[hD.1,hl]
 (conv=>whnf);repeat' (first|(refine Nz (b-a) 4 (by omega) (by omega) ?_;rw[hL];conv=>whnf)|(refine kA ?_;conv=>whnf)|(refine Br.mk (fun hc=>?_) fun hc=>?_<;>first|exact hc.elim|conv=>whnf)|(refine kB ?_))
 ·refine(AnR).mono ?_
  rintro _ _ ⟨c2,r2,rfl,rfl⟩
  obtain⟨o,ho1,ho2⟩:=AqP (r:=r2) (M:=M) (by omega) (by omega)
  conv=>whnf
  apply Ag rfl
  (conv=>whnf);repeat' (first|(refine wrapN (M-1) rfl (by omega) (by show _<2^64;omega) ?_;conv=>whnf)|(apply BG ho1;conv=>whnf)|(refine BQ (wrap_i64 (by omega) (by omega)) ?_;conv=>whnf)|((with_reducible show Bq _ _ _);refine DT (a+(o-(b-a))) ?_;conv=>whnf)|((with_reducible show Bq _ _ _);refine DT (a+o) ?_;conv=>whnf)|((with_reducible show Bq _ _ _);refine DT (a+L*2-1+k) ?_;conv=>whnf)|((with_reducible show eqK _ _);refine Hl Cj (a+(o-(b-a))) ?_;conv=>whnf)|((with_reducible show eqK _ _);refine Hl Cj (a+o) ?_;conv=>whnf)|((with_reducible show eqK _ _);refine Hl Cj (a+L*2-1+k) ?_;conv=>whnf)|(refine kA ?_;conv=>whnf)|(refine Br.mk (fun hc=>?_) fun hc=>?_<;>first|exact hc.elim|conv=>whnf)|(refine kB ?_))
  ·exact again.mk ⟨_,by omega,k+1,_,_,_,swp D (a+L*2-1+k) (a+(o-(b-a))),rfl,by omega,by omega,permIn_trans _ _ _ _ _ hD (swp_permIn _ _ _ _ _ (by omega) (by omega) (by omega) (by omega) (by omega)),rfl,rfl⟩
  ·exact again.mk ⟨_,by omega,k+1,_,_,_,swp D (a+L*2-1+k) (a+o),rfl,by omega,by omega,permIn_trans _ _ _ _ _ hD (swp_permIn _ _ _ _ _ (by omega) (by omega) (by omega) (by omega) (by omega)),rfl,rfl⟩
 ·exact⟨_,D,_,rfl,rfl,hD⟩
end
end AI
end Go.Proofs.YtceiccjppfapjaaGreatDoor
