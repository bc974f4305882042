/- Sorting in place (CmpFunc[graphdb/api.Rule]): insertion, heaps. Sorting in place (CmpFunc[graphdb/api.Rule]): the pivot, reversing, breaking patterns. -/
import Derived.Test.YtjijnamhalgamaaGreatDoorTMap
import Derived.Test.YtjijnamhalgamaaGreatDoorTMad
set_option linter.unusedVariables false
set_option maxRecDepth 4000
namespace Go.Proofs.YtjijnamhalgamaaGreatDoor
namespace AI
section
open Go.Sort
set_option maxHeartbeats 1000000 in
theorem Anc {Bv:Obj} {g c len:Nat} {nn cl:Bool} {d:Array GR} {a b:Nat} (hl:d.size=len) (hb:b≤len) (hs:len<2^61) (ha:a≤len):
 Ar (Ad tab) 180 [.own 1 g 0 len,.int .i64 a,.int .i64 b,.fn 56 []] ⟨[Bv,.arr g 6 nn cl (vs GR.av d.toList)],c⟩ fun out s'=>∃c',out=.ok (.BD [])∧s'=⟨[Bv,.arr g 6 nn cl (vs GR.av (insertionSort BX d a b).toList)],c'⟩:=by
 refine Ai rfl rfl ?_
 (conv=>whnf);repeat' (first|((first|refine kA ?_|(apply Br.mk<;>intro hc))<;>first|exact hc.elim|conv=>whnf)|refine kB ?_)
 refine Ag (fun m env s=>∃(i c:Nat) (D:Array GR),m=b-i∧insOuter BX a b i D=insertionSort BX d a b∧D.size=len∧env=[(0,.own 1 g 0 len),(1,.int .i64 a),(2,.int .i64 b),(3,.fn 56 []),(8,.int .i64 i)]∧s=⟨[Bv,.arr g 6 nn cl (vs GR.av D.toList)],c⟩) ?_ _ _ _ ⟨a+1,c,d,rfl,rfl,hl,rfl,rfl⟩
 rintro _ _ _ ⟨i,c,D,rfl,hD,hDl,rfl,rfl⟩
 refine⟨rfl,?_⟩
 (conv=>whnf);repeat' (first|((first|refine kA ?_|(apply Br.mk<;>intro hc))<;>first|exact hc.elim|conv=>whnf)|refine kB ?_)
 ·rw[Ah6 (by omega)]at hD
  refine Ag (fun m env s=>∃(j c:Nat) (z:Int) (E:Array GR),m=j∧z=j∧j≤i∧insInner BX a j E=insInner BX a i D∧E.size=len∧env=[(0,.own 1 g 0 len),(1,.int .i64 a),(2,.int .i64 b),(3,.fn 56 []),(8,.int .i64 i),(9,.int .i64 z)]∧s=⟨[Bv,.arr g 6 nn cl (vs GR.av E.toList)],c⟩) ?_ _ _ _ ⟨i,_,_,D,rfl,rfl,by omega,rfl,hDl,rfl,rfl⟩
  rintro j _ _ ⟨_,c,z,E,rfl,hz,hj,hE,hEl,rfl,rfl⟩
  refine⟨rfl,?_⟩
  cases j with
  |zero=>
   (conv=>whnf);repeat' (first|((first|refine kA ?_|(apply Br.mk<;>intro hc))<;>first|exact hc.elim|conv=>whnf)|refine kB ?_)
   rw[← hE]at hD
   exact again.mk ⟨_,by omega,i+1,_,E,rfl,hD,hEl,rfl,rfl⟩
  |succ j=>
   (conv=>whnf);repeat' (first|((first|((with_reducible show Ci _ _ _);refine Hu (j+1) ?_)|((with_reducible show Ci _ _ _);refine Hu (j) ?_)|apply kE D6|refine Hr (fun hc=>?_) (fun hc=>?_)|((with_reducible show eqK _ _);refine NJ BQ (j+1) ?_)|((with_reducible show eqK _ _);refine NJ BQ (j) ?_)|refine kA ?_|(apply Br.mk<;>intro hc))<;>first|exact hc.elim|conv=>whnf)|refine kB ?_)
   ·rw[AfC (by omega) hc]at hE
    exact again.mk ⟨_,by omega,j,_,_,swp E (j+1) j,rfl,by omega,by omega,hE,by simpa using hEl,rfl,rfl⟩
   ·rw[YE (fun _=>hc)]at hE
    rw[← hE]at hD
    exact again.mk ⟨_,by omega,i+1,_,E,rfl,hD,hEl,rfl,rfl⟩
   ·rw[YE (fun h=>absurd h (by omega))]at hE
    rw[← hE]at hD
    exact again.mk ⟨_,by omega,i+1,_,E,rfl,hD,hEl,rfl,rfl⟩
 ·rw[Ah7 (by omega)]at hD
  exact⟨_,rfl,by rw[hD]⟩
set_option maxHeartbeats 1000000 in
theorem AfL {Bv:Obj} {g c len:Nat} {nn cl:Bool} {d:Array GR} {lo hi first:Nat} (hl:d.size=len) (hb:first+hi≤len) (hs:len<2^61) (hlo:lo≤len):
 Ar (Ad tab) 242 [.own 1 g 0 len,.int .i64 lo,.int .i64 hi,.int .i64 first,.fn 56 []] ⟨[Bv,.arr g 6 nn cl (vs GR.av d.toList)],c⟩ fun out s'=>∃c',out=.ok (.BD [])∧s'=⟨[Bv,.arr g 6 nn cl (vs GR.av (siftDown BX hi first lo d).toList)],c'⟩:=by
 refine Ai rfl rfl ?_
 (conv=>whnf);repeat' (first|((first|refine kA ?_|(apply Br.mk<;>intro hc))<;>first|exact hc.elim|conv=>whnf)|refine kB ?_)
 refine Ag (fun m env s=>∃(root c:Nat) (z:Int) (D:Array GR),m=hi-root∧z=root∧root≤len∧siftDown BX hi first root D=siftDown BX hi first lo d∧D.size=len∧env=[(0,.own 1 g 0 len),(2,.int .i64 hi),(3,.int .i64 first),(4,.fn 56 []),(10,.int .i64 z)]∧s=⟨[Bv,.arr g 6 nn cl (vs GR.av D.toList)],c⟩) ?_ _ _ _ ⟨lo,c,_,d,rfl,rfl,hlo,rfl,hl,rfl,rfl⟩
 rintro _ _ _ ⟨root,c,z,D,rfl,hz,hr,hD,hDl,rfl,rfl⟩
 refine⟨rfl,?_⟩
 (conv=>whnf);repeat' (first|((first|((with_reducible show Ci _ _ _);refine Hu (first+root) ?_)|((with_reducible show Ci _ _ _);refine Hu (first+(2*root+1)) ?_)|((with_reducible show Ci _ _ _);refine Hu (first+(2*root+1)+1) ?_)|apply kE D6|refine Hr (fun hc=>?_) (fun hc=>?_)|((with_reducible show eqK _ _);refine NJ BQ (first+root) ?_)|((with_reducible show eqK _ _);refine NJ BQ (first+(2*root+1)) ?_)|((with_reducible show eqK _ _);refine NJ BQ (first+(2*root+1)+1) ?_)|refine kA ?_|(apply Br.mk<;>intro hc))<;>first|exact hc.elim|conv=>whnf)|refine kB ?_)
 ·rw[YG (by omega)]at hD
  exact⟨_,rfl,by rw[hD]⟩
 all_goals first
  |(rw [Alo (by omega) ‹_› hc]at hD
    exact again.mk ⟨_,by omega,2*root+2,_,_,swp D (first+root) (first+(2*root+2)),rfl,by omega,by omega,hD,by simpa using hDl,rfl,rfl⟩)
  |(rw [Ah8 (by omega) ‹_› hc]at hD
    exact⟨_,rfl,by rw[hD]⟩)
  |(rw [AfD (by omega) (fun _=>by assumption) hc]at hD
    exact again.mk ⟨_,by omega,2*root+1,_,_,swp D (first+root) (first+(2*root+1)),rfl,by omega,by omega,hD,by simpa using hDl,rfl,rfl⟩)
  |(rw [Abm (by omega) (fun _=>by assumption) hc]at hD
    exact⟨_,rfl,by rw[hD]⟩)
  |(rw [AfD (by omega) (fun h=>absurd h (by omega)) hc]at hD
    exact again.mk ⟨_,by omega,2*root+1,_,_,swp D (first+root) (first+(2*root+1)),rfl,by omega,by omega,hD,by simpa using hDl,rfl,rfl⟩)
  |(rw [Abm (by omega) (fun h=>absurd h (by omega)) hc]at hD
    exact⟨_,rfl,by rw[hD]⟩)
set_option maxHeartbeats 1000000 in
theorem Aic {Bv:Obj} {g c len:Nat} {nn cl:Bool} {d:Array GR} {a n:Nat} {z:Int} {Q:AQ→Env→Am→Prop} (hl:d.size=len) (hb:a+n≤len) (hs:len<2^61) (hz:z=(n:Int)-1)
 (hQ:∀c' e,Q (.exit 2) e ⟨[Bv,.arr g 6 nn cl (vs GR.av (heapPop BX a n d).toList)],c'⟩):
 Run (Ad tab) (.loop l181_1_h l181_1_b) [(0,.own 1 g 0 len),(3,.fn 56 []),(8,.int .i64 a),(9,.int .i64 0),(12,.int .i64 z)] ⟨[Bv,.arr g 6 nn cl (vs GR.av d.toList)],c⟩ Q:=by
 refine Ag (fun m env s=>∃(k c:Nat) (z:Int) (E:Array GR),m=k∧z=(k:Int)-1∧a+k≤len∧heapPop BX a k E=heapPop BX a n d∧E.size=len∧env=[(0,.own 1 g 0 len),(3,.fn 56 []),(8,.int .i64 a),(9,.int .i64 0),(12,.int .i64 z)]∧s=⟨[Bv,.arr g 6 nn cl (vs GR.av E.toList)],c⟩) ?_ _ _ _ ⟨n,c,_,d,rfl,hz,by omega,rfl,hl,rfl,rfl⟩
 clear hz
 rintro k _ _ ⟨_,c,z,E,rfl,hz,hk,hE,hEl,rfl,rfl⟩
 refine⟨rfl,?_⟩
 cases k with
 |succ k=>
  obtain rfl:z=(k:Nat):=by omega
  (conv=>whnf);repeat' (first|((first|((with_reducible show Ci _ _ _);refine Hu (a) ?_)|((with_reducible show Ci _ _ _);refine Hu (a+k) ?_)|((with_reducible show eqK _ _);refine NJ BQ (a) ?_)|((with_reducible show eqK _ _);refine NJ BQ (a+k) ?_)|refine kA ?_|(apply Br.mk<;>intro hc))<;>first|exact hc.elim|conv=>whnf)|refine kB ?_)
  refine(AfL (d:=swp E a (a+k)) (lo:=0) (by simpa using hEl) (by omega) hs (by omega)).mono ?_
  rintro _ _ ⟨c',rfl,rfl⟩
  (conv=>whnf);repeat' (first|((first|refine kA ?_|(apply Br.mk<;>intro hc))<;>first|exact hc.elim|conv=>whnf)|refine kB ?_)
  rw[heapPop]at hE
  exact again.mk ⟨_,by omega,k,_,(k:Int)-1,_,rfl,by omega,by omega,hE,by simpa using hEl,rfl,rfl⟩
 |zero=>
  rw[← hE]at hQ
  (conv=>whnf);repeat' (first|((first|refine kA ?_|(apply Br.mk<;>intro hc))<;>first|exact hc.elim|conv=>whnf)|refine kB ?_)
  exact hQ _ _
theorem AkY {Bv:Obj} {g c len:Nat} {nn cl:Bool} {d:Array GR} {a b:Nat} (hl:d.size=len) (hb:b≤len) (hs:len<2^61) (hab:a<b):
 Ar (Ad tab) 181 [.own 1 g 0 len,.int .i64 a,.int .i64 b,.fn 56 []] ⟨[Bv,.arr g 6 nn cl (vs GR.av d.toList)],c⟩ fun out s'=>∃c',out=.ok (.BD [])∧s'=⟨[Bv,.arr g 6 nn cl (vs GR.av (heapSort BX d a b).toList)],c'⟩:=by
 refine Ai rfl rfl ?_
 (conv=>whnf);repeat' (first|((first|refine U9 (b-a-1) 2 (by omega) (by omega) ?_|refine kA ?_|(apply Br.mk<;>intro hc))<;>first|exact hc.elim|conv=>whnf)|refine kB ?_)
 refine Ag (fun m env s=>∃(k c:Nat) (z:Int) (D:Array GR),m=k∧z=k-1∧k≤len∧heapBuild BX (b-a) a k D=heapBuild BX (b-a) a ((b-a-1) / 2+1) d∧D.size=len∧env=[(0,.own 1 g 0 len),(3,.fn 56 []),(8,.int .i64 a),(9,.int .i64 0),(10,.int .i64 (b-a)),(11,.int .i64 z)]∧s=⟨[Bv,.arr g 6 nn cl (vs GR.av D.toList)],c⟩) ?_ _ _ _ ⟨(b-a-1) / 2+1,c,_,d,rfl,by omega,by omega,rfl,hl,rfl,rfl⟩
 rintro k _ _ ⟨_,c,z,D,rfl,hz,hk,hD,hDl,rfl,rfl⟩
 refine⟨rfl,?_⟩
 cases k with
 |succ k=>
  obtain rfl:z=(k:Nat):=by omega
  (conv=>whnf);repeat' (first|((first|refine kA ?_|(apply Br.mk<;>intro hc))<;>first|exact hc.elim|conv=>whnf)|refine kB ?_)
  rw[show ((b:Int)-a)=((b-a:Nat):Int) by omega]
  refine(AfL hDl (by omega) hs (by omega)).mono ?_
  rintro _ _ ⟨c',rfl,rfl⟩
  (conv=>whnf);repeat' (first|((first|refine kA ?_|(apply Br.mk<;>intro hc))<;>first|exact hc.elim|conv=>whnf)|refine kB ?_)
  rw[heapBuild]at hD
  exact again.mk ⟨_,by omega,k,_,(k:Int)-1,_,rfl,by omega,by omega,hD,by simpa using hDl,rfl,rfl⟩
 |zero=>
  have hD:D=_:=hD
  (conv=>whnf);repeat' (first|((first|refine kA ?_|(apply Br.mk<;>intro hc))<;>first|exact hc.elim|conv=>whnf)|refine kB ?_)
  refine Aic hDl (n:=b-a) (by omega) hs (by omega) (fun c' e=>?_)
  (conv=>whnf);repeat' (first|((first|refine kA ?_|(apply Br.mk<;>intro hc))<;>first|exact hc.elim|conv=>whnf)|refine kB ?_)
  exact⟨_,rfl,by rw[hD];rfl⟩
end
section
open Go.Sort
theorem AdO {Bv:Obj} {g g2 c len:Nat} {nn cl:Bool} {d:Array GR} {a b n:Nat} (hl:d.size=len) (ha:a<len) (hb:b<len) (hs:len<2^61) (hn:n<100):
 Ar (Ad tab) 285 [.own 1 g 0 len,.int .i64 a,.int .i64 b,.ref 2 g2 0 0,.fn 56 []] ⟨[Bv,.arr g 6 nn cl (vs GR.av d.toList),.arr g2 1 true true [.int .i64 n]],c⟩ fun out s'=>∃(c' x y n':Nat),out=.ok (.BD [.int .i64 x,.int .i64 y])∧s'=⟨[Bv,.arr g 6 nn cl (vs GR.av d.toList),.arr g2 1 true true [.int .i64 n']],c'⟩∧n'≤n+1∧(x=a∧y=b∨x=b∧y=a):=by
 refine Ai rfl rfl ?_
 (conv=>whnf);repeat' (first|((first|((with_reducible show Ci _ _ _);refine Hu (a) ?_)|((with_reducible show Ci _ _ _);refine Hu (b) ?_)|apply kE D6|refine Hr (fun hc=>?_) (fun hc=>?_)|refine kA ?_|(apply Br.mk<;>intro hc))<;>first|exact hc.elim|conv=>whnf)|refine kB ?_)
 ·exact⟨_,b,a,n+1,rfl,rfl,by omega,Or.inr ⟨rfl,rfl⟩⟩
 ·exact⟨_,a,b,n,rfl,rfl,by omega,Or.inl ⟨rfl,rfl⟩⟩
theorem AdP {Bv:Obj} {g g2 c len:Nat} {nn cl:Bool} {d:Array GR} {a b e n:Nat} (hl:d.size=len) (ha:a<len) (hb:b<len) (he:e<len) (hs:len<2^61) (hn:n<90):
 Ar (Ad tab) 246 [.own 1 g 0 len,.int .i64 a,.int .i64 b,.int .i64 e,.ref 2 g2 0 0,.fn 56 []] ⟨[Bv,.arr g 6 nn cl (vs GR.av d.toList),.arr g2 1 true true [.int .i64 n]],c⟩ fun out s'=>∃(c' m n':Nat),out=.ok (.int .i64 m)∧s'=⟨[Bv,.arr g 6 nn cl (vs GR.av d.toList),.arr g2 1 true true [.int .i64 n']],c'⟩∧n'≤n+3∧(m=a∨m=b∨m=e):=by
 refine Ai rfl rfl ?_
 (conv=>whnf);repeat' (first|((first|refine kA ?_|(apply Br.mk<;>intro hc))<;>first|exact hc.elim|conv=>whnf)|refine kB ?_)
 refine(AdO hl ha hb hs (by omega)).mono ?_
 rintro _ _ ⟨c1,x1,y1,n1,rfl,rfl,h1,e1⟩
 conv=>whnf
 apply Aj rfl
 (conv=>whnf);repeat' (first|((first|refine kA ?_|(apply Br.mk<;>intro hc))<;>first|exact hc.elim|conv=>whnf)|refine kB ?_)
 refine(AdO (a:=y1) (b:=e) hl (by omega) he hs (by omega)).mono ?_
 rintro _ _ ⟨c2,x2,y2,n2,rfl,rfl,h2,e2⟩
 conv=>whnf
 apply Aj rfl
 (conv=>whnf);repeat' (first|((first|refine kA ?_|(apply Br.mk<;>intro hc))<;>first|exact hc.elim|conv=>whnf)|refine kB ?_)
 refine(AdO (a:=x1) (b:=x2) hl (by omega) (by omega) hs (by omega)).mono ?_
 rintro _ _ ⟨c3,x3,y3,n3,rfl,rfl,h3,e3⟩
 conv=>whnf
 apply Aj rfl
 (conv=>whnf);repeat' (first|((first|refine kA ?_|(apply Br.mk<;>intro hc))<;>first|exact hc.elim|conv=>whnf)|refine kB ?_)
 exact⟨_,y3,n3,rfl,rfl,by omega,by omega⟩
theorem AdQ {Bv:Obj} {g g2 c len:Nat} {nn cl:Bool} {d:Array GR} {a n:Nat} (hl:d.size=len) (ha:a+1<len) (h0:0<a) (hs:len<2^61) (hn:n<90):
 Ar (Ad tab) 245 [.own 1 g 0 len,.int .i64 a,.ref 2 g2 0 0,.fn 56 []] ⟨[Bv,.arr g 6 nn cl (vs GR.av d.toList),.arr g2 1 true true [.int .i64 n]],c⟩ fun out s'=>∃(c' m n':Nat),out=.ok (.int .i64 m)∧s'=⟨[Bv,.arr g 6 nn cl (vs GR.av d.toList),.arr g2 1 true true [.int .i64 n']],c'⟩∧n'≤n+3∧a≤m+1∧m≤a+1:=by
 refine Ai rfl rfl ?_
 (conv=>whnf);repeat' (first|((first|refine kA ?_|(apply Br.mk<;>intro hc))<;>first|exact hc.elim|conv=>whnf)|refine kB ?_)
 rw[show ((a:Int)-1)=((a-1:Nat):Int) by omega]
 refine(AdP (a:=a-1) (b:=a) (e:=a+1) hl (by omega) (by omega) ha hs hn).mono ?_
 rintro _ _ ⟨c',m,n',rfl,rfl,h1,h2⟩
 conv=>whnf
 apply Aj rfl
 (conv=>whnf);repeat' (first|((first|refine kA ?_|(apply Br.mk<;>intro hc))<;>first|exact hc.elim|conv=>whnf)|refine kB ?_)
 exact⟨_,m,n',rfl,rfl,h1,by omega,by omega⟩
set_option maxHeartbeats 1000000 in
theorem Ami {Bv:Obj} {g c len:Nat} {nn cl:Bool} {d:Array GR} {a b:Nat} (hl:d.size=len) (hb:b≤len) (hab:a+12<b) (hs:len<2^61):
 Ar (Ad tab) 183 [.own 1 g 0 len,.int .i64 a,.int .i64 b,.fn 56 []] ⟨[Bv,.arr g 6 nn cl (vs GR.av d.toList)],c⟩ fun out s'=>∃(c' p:Nat) (h:Int) (ob:Obj),out=.ok (.BD [.int .i64 p,.int .i64 h])∧s'=⟨[Bv,.arr g 6 nn cl (vs GR.av d.toList),ob],c'⟩∧a≤p∧p<b:=by
 refine Ai rfl rfl ?_
 have hq:(b-a) / 4*4≤b-a:=Nat.div_mul_le_self _ _
 have hq2:3≤(b-a) / 4:=by omega
 generalize hL:(b-a) / 4=L at hq hq2
 (conv=>whnf);repeat' (first|((first|(refine U9 (b-a) 4 (by omega) (by omega) ?_;rw[hL])|refine kA ?_|(apply Br.mk<;>intro hc))<;>first|exact hc.elim|conv=>whnf)|refine kB ?_)
 ·refine(AdQ (g2:=c) (n:=0) (a:=a+L*1) hl (by omega) (by omega) hs (by omega)).mono ?_
  rintro _ _ ⟨c1,i,n1,rfl,rfl,h1,i1,i2⟩
  conv=>whnf
  apply Aj rfl
  (conv=>whnf);repeat' (first|((first|refine kA ?_|(apply Br.mk<;>intro hc))<;>first|exact hc.elim|conv=>whnf)|refine kB ?_)
  refine(AdQ (g2:=c) (a:=a+L*2) hl (by omega) (by omega) hs (by omega)).mono ?_
  rintro _ _ ⟨c2,j,n2,rfl,rfl,h2,j1,j2⟩
  conv=>whnf
  apply Aj rfl
  (conv=>whnf);repeat' (first|((first|refine kA ?_|(apply Br.mk<;>intro hc))<;>first|exact hc.elim|conv=>whnf)|refine kB ?_)
  refine(AdQ (g2:=c) (a:=a+L*3) hl (by omega) (by omega) hs (by omega)).mono ?_
  rintro _ _ ⟨c3,k,n3,rfl,rfl,h3,k1,k2⟩
  conv=>whnf
  apply Aj rfl
  (conv=>whnf);repeat' (first|((first|refine kA ?_|(apply Br.mk<;>intro hc))<;>first|exact hc.elim|conv=>whnf)|refine kB ?_)
  refine(AdP (g2:=c) (a:=i) (b:=j) (e:=k) hl (by omega) (by omega) (by omega) hs (by omega)).mono ?_
  rintro _ _ ⟨c4,m,n4,rfl,rfl,h4,h5⟩
  conv=>whnf
  apply Aj rfl
  (conv=>whnf);repeat' (first|((first|refine kA ?_|(apply Br.mk<;>intro hc))<;>first|exact hc.elim|conv=>whnf)|refine kB ?_)
  all_goals exact⟨_,m,_,_,rfl,rfl,by omega,by omega⟩
 ·refine(AdP (g2:=c) (n:=0) (a:=a+L*1) (b:=a+L*2) (e:=a+L*3) hl (by omega) (by omega) (by omega) hs (by omega)).mono ?_
  rintro _ _ ⟨c4,m,n4,rfl,rfl,h4,h5⟩
  conv=>whnf
  apply Aj rfl
  (conv=>whnf);repeat' (first|((first|refine kA ?_|(apply Br.mk<;>intro hc))<;>first|exact hc.elim|conv=>whnf)|refine kB ?_)
  all_goals exact⟨_,m,_,_,rfl,rfl,by omega,by omega⟩
theorem Amj {Bv:Obj} {g c len:Nat} {nn cl:Bool} {d:Array GR} {a b:Nat} (hl:d.size=len) (hb:b≤len) (hab:a<b) (hs:len<2^61):
 Ar (Ad tab) 184 [.own 1 g 0 len,.int .i64 a,.int .i64 b,.fn 56 []] ⟨[Bv,.arr g 6 nn cl (vs GR.av d.toList)],c⟩ fun out s'=>∃c' D,out=.ok (.BD [])∧s'=⟨[Bv,.arr g 6 nn cl (vs GR.av D.toList)],c'⟩∧PermIn a b d D:=by
 refine Ai rfl rfl ?_
 (conv=>whnf);repeat' (first|((first|refine kA ?_|(apply Br.mk<;>intro hc))<;>first|exact hc.elim|conv=>whnf)|refine kB ?_)
 refine Ag (fun m env s=>∃(i c:Nat) (z:Int) (D:Array GR),m=b-i∧a≤i∧i≤b∧z=(a:Int)+b-1-i∧PermIn a b d D∧env=[(0,.own 1 g 0 len),(8,.int .i64 i),(9,.int .i64 z)]∧s=⟨[Bv,.arr g 6 nn cl (vs GR.av D.toList)],c⟩) ?_ _ _ _ ⟨a,c,_,d,rfl,by omega,by omega,by omega,permIn_refl _ _ _,rfl,rfl⟩
 rintro _ _ _ ⟨i,c,z,D,rfl,hi,hib,hz,hD,rfl,rfl⟩
 refine⟨rfl,?_⟩
 have hDl:D.size=len:=by rw[hD.1,hl]
 (conv=>whnf);repeat' (first|((first|((with_reducible show Ci _ _ _);refine Hu (i) ?_)|((with_reducible show Ci _ _ _);refine Hu (a+b-1-i) ?_)|((with_reducible show eqK _ _);refine NJ BQ (i) ?_)|((with_reducible show eqK _ _);refine NJ BQ (a+b-1-i) ?_)|refine kA ?_|(apply Br.mk<;>intro hc))<;>first|exact hc.elim|conv=>whnf)|refine kB ?_)
 ·exact again.mk ⟨_,by omega,i+1,_,z-1,swp D i (a+b-1-i),rfl,by omega,by omega,by omega,permIn_trans _ _ _ _ _ hD (swp_permIn _ _ _ _ _ (by omega) (by omega) (by omega) (by omega) (by omega)),rfl,rfl⟩
 ·exact⟨_,D,rfl,rfl,hD⟩
theorem AjQ {Bv:Obj} {obX:Obj} {g2 c:Nat} {r:Int}:
 Ar (Ad tab) 244 [.ref 2 g2 0 0] ⟨[Bv,  obX,.arr g2 1 true true [.int .u64 r]],c⟩ fun out s'=>∃c' r',out=.ok (.int .u64 r')∧s'=⟨[Bv,  obX,.arr g2 1 true true [.int .u64 r']],c'⟩:=by
 refine Ai rfl rfl ?_
 (conv=>whnf);repeat' (first|((first|apply Cb rfl|apply BI rfl|refine kA ?_|(apply Br.mk<;>intro hc))<;>first|exact hc.elim|conv=>whnf)|refine kB ?_)
 exact⟨_,_,rfl,rfl⟩
theorem Amk {r:Int} {M:Nat} (h0:0<M) (h:M<2^63):∃n:Nat,IntKind.u64.wrap ((BitVec.ofInt IntKind.u64.bits r &&& BitVec.ofInt IntKind.u64.bits ((M-1:Nat):Int)).toNat:Int)=n∧n<M:=by
 have e:(BitVec.ofInt IntKind.u64.bits ((M-1:Nat):Int)).toNat=M-1:=by
  rw[BitVec.toNat_ofInt]
  show Int.toNat (((M-1:Nat):Int) % ((2 ^ 64:Nat):Int))=M-1
  omega
 refine⟨(BitVec.ofInt IntKind.u64.bits r &&& BitVec.ofInt IntKind.u64.bits ((M-1:Nat):Int)).toNat,Adw rfl (by omega) ?_,?_⟩
 ·rw[BitVec.toNat_and,e]
  have:=@Nat.and_le_right (BitVec.ofInt IntKind.u64.bits r).toNat (M-1)
  show _<(2:Int) ^ 64
  omega
 ·rw[BitVec.toNat_and,e]
  have:=@Nat.and_le_right (BitVec.ofInt IntKind.u64.bits r).toNat (M-1)
  omega
set_option maxHeartbeats 1000000 in
theorem Aml {Bv:Obj} {g c len:Nat} {nn cl:Bool} {d:Array GR} {a b:Nat} (hl:d.size=len) (hb:b≤len) (hab:a+12<b) (hs:len<2^61):
 Ar (Ad tab) 182 [.own 1 g 0 len,.int .i64 a,.int .i64 b,.fn 56 []] ⟨[Bv,.arr g 6 nn cl (vs GR.av d.toList)],c⟩ fun out s'=>∃c' D ob,out=.ok (.BD [])∧s'=⟨[Bv,.arr g 6 nn cl (vs GR.av D.toList),ob],c'⟩∧PermIn a b d D:=by
 refine Ai rfl rfl ?_
 have hq:(b-a) / 4*4≤b-a:=Nat.div_mul_le_self _ _
 have hq2:3≤(b-a) / 4:=by omega
 generalize hL:(b-a) / 4=L at hq hq2
 (conv=>whnf);repeat' (first|((first|(refine U9 (b-a) 4 (by omega) (by omega) ?_;rw[hL])|refine wrapN (b-a) rfl (by omega) (by show _<2^64;omega) ?_|refine kA ?_|(apply Br.mk<;>intro hc))<;>first|exact hc.elim|conv=>whnf)|refine kB ?_)
 rw[show ((b:Int)-a)=((b-a:Nat):Int) by omega]
 refine Aa (AbL (n:=b-a) (by omega) (by omega)) ?_
 rintro _ ⟨M,rfl,hM1,hM2⟩
 (conv=>whnf);repeat' (first|((first|(refine U9 (b-a) 4 (by omega) (by omega) ?_;rw[hL])|refine kA ?_|(apply Br.mk<;>intro hc))<;>first|exact hc.elim|conv=>whnf)|refine kB ?_)
 refine Ag (fun m env s=>∃(k cc:Nat) (z r:Int) (D:Array GR),m=3-k∧k≤3∧z=(a:Int)+L*2-1+k∧PermIn a b d D∧env=[(0,.own 1 g 0 len),(1,.int .i64 a),(8,.int .i64 (b-a:Nat)),(9,.ref 2 c 0 0),(10,.int .u64 M),(11,.int .i64 z)]∧s=⟨[Bv,.arr g 6 nn cl (vs GR.av D.toList),.arr c 1 true true [.int .u64 r]],cc⟩) ?_ _ _ _ ⟨0,_,_,((b-a:Nat):Int),d,rfl,by omega,by omega,permIn_refl _ _ _,rfl,rfl⟩
 rintro _ _ _ ⟨k,c1,z,r,D,rfl,hk,hz,hD,rfl,rfl⟩
 refine⟨rfl,?_⟩
 have hDl:D.size=len:=by rw[hD.1,hl]
 (conv=>whnf);repeat' (first|((first|(refine U9 (b-a) 4 (by omega) (by omega) ?_;rw[hL])|refine kA ?_|(apply Br.mk<;>intro hc))<;>first|exact hc.elim|conv=>whnf)|refine kB ?_)
 ·refine(AjQ).mono ?_
  rintro _ _ ⟨c2,r2,rfl,rfl⟩
  obtain⟨o,ho1,ho2⟩:=Amk (r:=r2) (M:=M) (by omega) (by omega)
  conv=>whnf
  apply Aj rfl
  (conv=>whnf);repeat' (first|((first|refine wrapN (M-1) rfl (by omega) (by show _<2^64;omega) ?_|apply Cb ho1|refine BI (wrap_i64 (by omega) (by omega)) ?_|((with_reducible show Ci _ _ _);refine Hu (a+(o-(b-a))) ?_)|((with_reducible show Ci _ _ _);refine Hu (a+o) ?_)|((with_reducible show Ci _ _ _);refine Hu (a+L*2-1+k) ?_)|((with_reducible show eqK _ _);refine NJ BQ (a+(o-(b-a))) ?_)|((with_reducible show eqK _ _);refine NJ BQ (a+o) ?_)|((with_reducible show eqK _ _);refine NJ BQ (a+L*2-1+k) ?_)|refine kA ?_|(apply Br.mk<;>intro hc))<;>first|exact hc.elim|conv=>whnf)|refine kB ?_)
  ·exact again.mk ⟨_,by omega,k+1,_,_,_,swp D (a+L*2-1+k) (a+(o-(b-a))),rfl,by omega,by omega,permIn_trans _ _ _ _ _ hD (swp_permIn _ _ _ _ _ (by omega) (by omega) (by omega) (by omega) (by omega)),rfl,rfl⟩
  ·exact again.mk ⟨_,by omega,k+1,_,_,_,swp D (a+L*2-1+k) (a+o),rfl,by omega,by omega,permIn_trans _ _ _ _ _ hD (swp_permIn _ _ _ _ _ (by omega) (by omega) (by omega) (by omega) (by omega)),rfl,rfl⟩
 ·exact⟨_,D,_,rfl,rfl,hD⟩
end
end AI
end Go.Proofs.YtjijnamhalgamaaGreatDoor
