/- Sorting in place (CmpFunc[graphdb/api.Pair]): insertion, heaps. Sorting in place (CmpFunc[graphdb/api.Pair]): the pivot, reversing, breaking patterns. -/
import Derived.Test.YthjeehjphekjmaaGreatDoorWMak
import Derived.Test.YthjeehjphekjmaaGreatDoorWMab
set_option linter.unusedVariables false
set_option maxRecDepth 4000
namespace Go.Proofs.YthjeehjphekjmaaGreatDoor
namespace AI
section
open Go.Sort
set_option maxHeartbeats 1000000 in
theorem AdQ {Ap Bv BD BK:Obj} {g c len:Nat} {nn cl:Bool} {d:Array (Int×Int)} {a b:Nat} (hl:d.size=len) (hb:b≤len) (hs:len<2^61) (ha:a≤len):
 AQ (Ac tab) 101 [.own 3 g 0 len,.int .i64 a,.int .i64 b,.fn 36 []] ⟨[Ap,Bv,BD,.arr g 2 nn cl (vs Az d.toList),BK],c⟩ fun out s'=>∃c',out=.ok (.CO [])∧s'=⟨[Ap,Bv,BD,.arr g 2 nn cl (vs Az (insertionSort Cj d a b).toList),BK],c'⟩:=by
 refine Ar rfl rfl ?_
 (conv=>whnf);repeat' (first  |(refine kA ?_;conv=>whnf)|(refine Br.mk (fun hc=>?_) fun hc=>?_<;>first|exact hc.elim|conv=>whnf)|(refine kB ?_))
 refine Ae (fun m env s=>∃(i c:Nat) (D:Array (Int×Int)),m=b-i∧insOuter Cj a b i D=insertionSort Cj d a b∧D.size=len∧env=[(0,.own 3 g 0 len),(1,.int .i64 a),(2,.int .i64 b),(3,.fn 36 []),(8,.int .i64 i)]∧s=⟨[Ap,Bv,BD,.arr g 2 nn cl (vs Az D.toList),BK],c⟩) ?_ _ _ _ ⟨a+1,c,d,rfl,rfl,hl,rfl,rfl⟩
 rintro _ _ _ ⟨i,c,D,rfl,hD,hDl,rfl,rfl⟩
 refine⟨rfl,?_⟩
 (conv=>whnf);repeat' (first  |(refine kA ?_;conv=>whnf)|(refine Br.mk (fun hc=>?_) fun hc=>?_<;>first|exact hc.elim|conv=>whnf)|(refine kB ?_))
 ·rw[Wy (by omega)]at hD
  refine Ae (fun m env s=>∃(j c:Nat) (z:Int) (E:Array (Int×Int)),m=j∧z=j∧j≤i∧insInner Cj a j E=insInner Cj a i D∧E.size=len∧env=[(0,.own 3 g 0 len),(1,.int .i64 a),(2,.int .i64 b),(3,.fn 36 []),(8,.int .i64 i),(9,.int .i64 z)]∧s=⟨[Ap,Bv,BD,.arr g 2 nn cl (vs Az E.toList),BK],c⟩) ?_ _ _ _ ⟨i,_,_,D,rfl,rfl,by omega,rfl,hDl,rfl,rfl⟩
  rintro j _ _ ⟨_,c,z,E,rfl,hz,hj,hE,hEl,rfl,rfl⟩
  refine⟨rfl,?_⟩
  cases j with
  |zero=>
   (conv=>whnf);repeat' (first  |(refine kA ?_;conv=>whnf)|(refine Br.mk (fun hc=>?_) fun hc=>?_<;>first|exact hc.elim|conv=>whnf)|(refine kB ?_))
   rw[← hE]at hD
   exact again.mk ⟨_,by omega,i+1,_,E,rfl,hD,hEl,rfl,rfl⟩
  |succ j=>
   (conv=>whnf);repeat' (first|((with_reducible show AY _ _ _);refine CG (j+1) ?_;conv=>whnf)|((with_reducible show AY _ _ _);refine CG (j) ?_;conv=>whnf)|(refine Aa Eu ?_;rintro _ rfl;conv=>whnf)|(refine FP (fun hc=>?_) (fun hc=>?_)<;>conv=>whnf)|((with_reducible show eqK _ _);refine EP Bd (j+1) ?_;conv=>whnf)|((with_reducible show eqK _ _);refine EP Bd (j) ?_;conv=>whnf)|(refine kA ?_;conv=>whnf)|(refine Br.mk (fun hc=>?_) fun hc=>?_<;>first|exact hc.elim|conv=>whnf)|(refine kB ?_))
   ·rw[TQ (by omega) hc]at hE
    exact again.mk ⟨_,by omega,j,_,_,swp E (j+1) j,rfl,by omega,by omega,hE,by simpa using hEl,rfl,rfl⟩
   ·rw[Lu (fun _=>hc)]at hE
    rw[← hE]at hD
    exact again.mk ⟨_,by omega,i+1,_,E,rfl,hD,hEl,rfl,rfl⟩
   ·rw[Lu (fun h=>absurd h (by omega))]at hE
    rw[← hE]at hD
    exact again.mk ⟨_,by omega,i+1,_,E,rfl,hD,hEl,rfl,rfl⟩
 ·rw[WA (by omega)]at hD
  exact⟨_,rfl,by rw[hD]⟩
set_option maxHeartbeats 1000000 in
theorem Yg {Ap Bv BD BK:Obj} {g c len:Nat} {nn cl:Bool} {d:Array (Int×Int)} {lo hi first:Nat} (hl:d.size=len) (hb:first+hi≤len) (hs:len<2^61) (hlo:lo≤len):
 AQ (Ac tab) 153 [.own 3 g 0 len,.int .i64 lo,.int .i64 hi,.int .i64 first,.fn 36 []] ⟨[Ap,Bv,BD,.arr g 2 nn cl (vs Az d.toList),BK],c⟩ fun out s'=>∃c',out=.ok (.CO [])∧s'=⟨[Ap,Bv,BD,.arr g 2 nn cl (vs Az (siftDown Cj hi first lo d).toList),BK],c'⟩:=by
 refine Ar rfl rfl ?_
 (conv=>whnf);repeat' (first  |(refine kA ?_;conv=>whnf)|(refine Br.mk (fun hc=>?_) fun hc=>?_<;>first|exact hc.elim|conv=>whnf)|(refine kB ?_))
 refine Ae (fun m env s=>∃(root c:Nat) (z:Int) (D:Array (Int×Int)),m=hi-root∧z=root∧root≤len∧siftDown Cj hi first root D=siftDown Cj hi first lo d∧D.size=len∧env=[(0,.own 3 g 0 len),(2,.int .i64 hi),(3,.int .i64 first),(4,.fn 36 []),(10,.int .i64 z)]∧s=⟨[Ap,Bv,BD,.arr g 2 nn cl (vs Az D.toList),BK],c⟩) ?_ _ _ _ ⟨lo,c,_,d,rfl,rfl,hlo,rfl,hl,rfl,rfl⟩
 rintro _ _ _ ⟨root,c,z,D,rfl,hz,hr,hD,hDl,rfl,rfl⟩
 refine⟨rfl,?_⟩
 (conv=>whnf);repeat' (first|((with_reducible show AY _ _ _);refine CG (first+root) ?_;conv=>whnf)|((with_reducible show AY _ _ _);refine CG (first+(2*root+1)) ?_;conv=>whnf)|((with_reducible show AY _ _ _);refine CG (first+(2*root+1)+1) ?_;conv=>whnf)|(refine Aa Eu ?_;rintro _ rfl;conv=>whnf)|(refine FP (fun hc=>?_) (fun hc=>?_)<;>conv=>whnf)|((with_reducible show eqK _ _);refine EP Bd (first+root) ?_;conv=>whnf)|((with_reducible show eqK _ _);refine EP Bd (first+(2*root+1)) ?_;conv=>whnf)|((with_reducible show eqK _ _);refine EP Bd (first+(2*root+1)+1) ?_;conv=>whnf)|(refine kA ?_;conv=>whnf)|(refine Br.mk (fun hc=>?_) fun hc=>?_<;>first|exact hc.elim|conv=>whnf)|(refine kB ?_))
 ·rw[OT (by omega)]at hD
  exact⟨_,rfl,by rw[hD]⟩
 all_goals first
  |(rw [Yh (by omega) (by assumption) hc]at hD
    exact again.mk ⟨_,by omega,2*root+2,_,_,swp D (first+root) (first+(2*root+2)),rfl,by omega,by omega,hD,by simpa using hDl,rfl,rfl⟩)
  |(rw [WB (by omega) (by assumption) hc]at hD
    exact⟨_,rfl,by rw[hD]⟩)
  |(rw [RS (by omega) (fun _=>by assumption) hc]at hD
    exact again.mk ⟨_,by omega,2*root+1,_,_,swp D (first+root) (first+(2*root+1)),rfl,by omega,by omega,hD,by simpa using hDl,rfl,rfl⟩)
  |(rw [Ox (by omega) (fun _=>by assumption) hc]at hD
    exact⟨_,rfl,by rw[hD]⟩)
  |(rw [RS (by omega) (fun h=>absurd h (by omega)) hc]at hD
    exact again.mk ⟨_,by omega,2*root+1,_,_,swp D (first+root) (first+(2*root+1)),rfl,by omega,by omega,hD,by simpa using hDl,rfl,rfl⟩)
  |(rw [Ox (by omega) (fun h=>absurd h (by omega)) hc]at hD
    exact⟨_,rfl,by rw[hD]⟩)
set_option maxHeartbeats 1000000 in
theorem Aar {Ap Bv BD BK:Obj} {g c len:Nat} {nn cl:Bool} {d:Array (Int×Int)} {a n:Nat} {z:Int} {Q:Ak→Env→Ag→Prop} (hl:d.size=len) (hb:a+n≤len) (hs:len<2^61) (hz:z=(n:Int)-1)
 (hQ:∀c' e,Q (.exit 2) e ⟨[Ap,Bv,BD,.arr g 2 nn cl (vs Az (heapPop Cj a n d).toList),BK],c'⟩):
 Run (Ac tab) (.loop l102_1_h l102_1_b) [(0,.own 3 g 0 len),(3,.fn 36 []),(8,.int .i64 a),(9,.int .i64 0),(12,.int .i64 z)] ⟨[Ap,Bv,BD,.arr g 2 nn cl (vs Az d.toList),BK],c⟩ Q:=by
 refine Ae (fun m env s=>∃(k c:Nat) (z:Int) (E:Array (Int×Int)),m=k∧z=(k:Int)-1∧a+k≤len∧heapPop Cj a k E=heapPop Cj a n d∧E.size=len∧env=[(0,.own 3 g 0 len),(3,.fn 36 []),(8,.int .i64 a),(9,.int .i64 0),(12,.int .i64 z)]∧s=⟨[Ap,Bv,BD,.arr g 2 nn cl (vs Az E.toList),BK],c⟩) ?_ _ _ _ ⟨n,c,_,d,rfl,hz,by omega,rfl,hl,rfl,rfl⟩
 clear hz
 rintro k _ _ ⟨_,c,z,E,rfl,hz,hk,hE,hEl,rfl,rfl⟩
 refine⟨rfl,?_⟩
 cases k with
 |succ k=>
  obtain rfl:z=(k:Nat):=by omega
  (conv=>whnf);repeat' (first|((with_reducible show AY _ _ _);refine CG (a) ?_;conv=>whnf)|((with_reducible show AY _ _ _);refine CG (a+k) ?_;conv=>whnf)|((with_reducible show eqK _ _);refine EP Bd (a) ?_;conv=>whnf)|((with_reducible show eqK _ _);refine EP Bd (a+k) ?_;conv=>whnf)|(refine kA ?_;conv=>whnf)|(refine Br.mk (fun hc=>?_) fun hc=>?_<;>first|exact hc.elim|conv=>whnf)|(refine kB ?_))
  refine(Yg (d:=swp E a (a+k)) (lo:=0) (by simpa using hEl) (by omega) hs (by omega)).mono ?_
  rintro _ _ ⟨c',rfl,rfl⟩
  (conv=>whnf);repeat' (first  |(refine kA ?_;conv=>whnf)|(refine Br.mk (fun hc=>?_) fun hc=>?_<;>first|exact hc.elim|conv=>whnf)|(refine kB ?_))
  rw[heapPop]at hE
  exact again.mk ⟨_,by omega,k,_,(k:Int)-1,_,rfl,by omega,by omega,hE,by simpa using hEl,rfl,rfl⟩
 |zero=>
  rw[← hE]at hQ
  (conv=>whnf);repeat' (first  |(refine kA ?_;conv=>whnf)|(refine Br.mk (fun hc=>?_) fun hc=>?_<;>first|exact hc.elim|conv=>whnf)|(refine kB ?_))
  exact hQ _ _
theorem Ab5 {Ap Bv BD BK:Obj} {g c len:Nat} {nn cl:Bool} {d:Array (Int×Int)} {a b:Nat} (hl:d.size=len) (hb:b≤len) (hs:len<2^61) (hab:a<b):
 AQ (Ac tab) 102 [.own 3 g 0 len,.int .i64 a,.int .i64 b,.fn 36 []] ⟨[Ap,Bv,BD,.arr g 2 nn cl (vs Az d.toList),BK],c⟩ fun out s'=>∃c',out=.ok (.CO [])∧s'=⟨[Ap,Bv,BD,.arr g 2 nn cl (vs Az (heapSort Cj d a b).toList),BK],c'⟩:=by
 refine Ar rfl rfl ?_
 (conv=>whnf);repeat' (first|(refine Jr (b-a-1) 2 (by omega) (by omega) ?_;conv=>whnf)|(refine kA ?_;conv=>whnf)|(refine Br.mk (fun hc=>?_) fun hc=>?_<;>first|exact hc.elim|conv=>whnf)|(refine kB ?_))
 refine Ae (fun m env s=>∃(k c:Nat) (z:Int) (D:Array (Int×Int)),m=k∧z=k-1∧k≤len∧heapBuild Cj (b-a) a k D=heapBuild Cj (b-a) a ((b-a-1) / 2+1) d∧D.size=len∧env=[(0,.own 3 g 0 len),(3,.fn 36 []),(8,.int .i64 a),(9,.int .i64 0),(10,.int .i64 (b-a)),(11,.int .i64 z)]∧s=⟨[Ap,Bv,BD,.arr g 2 nn cl (vs Az D.toList),BK],c⟩) ?_ _ _ _ ⟨(b-a-1) / 2+1,c,_,d,rfl,by omega,by omega,rfl,hl,rfl,rfl⟩
 rintro k _ _ ⟨_,c,z,D,rfl,hz,hk,hD,hDl,rfl,rfl⟩
 refine⟨rfl,?_⟩
 cases k with
 |succ k=>
  obtain rfl:z=(k:Nat):=by omega
  (conv=>whnf);repeat' (first  |(refine kA ?_;conv=>whnf)|(refine Br.mk (fun hc=>?_) fun hc=>?_<;>first|exact hc.elim|conv=>whnf)|(refine kB ?_))
  rw[show ((b:Int)-a)=((b-a:Nat):Int) by omega]
  refine(Yg hDl (by omega) hs (by omega)).mono ?_
  rintro _ _ ⟨c',rfl,rfl⟩
  (conv=>whnf);repeat' (first  |(refine kA ?_;conv=>whnf)|(refine Br.mk (fun hc=>?_) fun hc=>?_<;>first|exact hc.elim|conv=>whnf)|(refine kB ?_))
  rw[heapBuild]at hD
  exact again.mk ⟨_,by omega,k,_,(k:Int)-1,_,rfl,by omega,by omega,hD,by simpa using hDl,rfl,rfl⟩
 |zero=>
  have hD:D=_:=hD
  (conv=>whnf);repeat' (first  |(refine kA ?_;conv=>whnf)|(refine Br.mk (fun hc=>?_) fun hc=>?_<;>first|exact hc.elim|conv=>whnf)|(refine kB ?_))
  refine Aar hDl (n:=b-a) (by omega) hs (by omega) (fun c' e=>?_)
  (conv=>whnf);repeat' (first  |(refine kA ?_;conv=>whnf)|(refine Br.mk (fun hc=>?_) fun hc=>?_<;>first|exact hc.elim|conv=>whnf)|(refine kB ?_))
  exact⟨_,rfl,by rw[hD];rfl⟩
end
section
open Go.Sort
theorem ZR {Ap Bv BD BK:Obj} {g g2 c len:Nat} {nn cl:Bool} {d:Array (Int×Int)} {a b n:Nat} (hl:d.size=len) (ha:a<len) (hb:b<len) (hs:len<2^61) (hn:n<100):
 AQ (Ac tab) 175 [.own 3 g 0 len,.int .i64 a,.int .i64 b,.ref 5 g2 0 0,.fn 36 []] ⟨[Ap,Bv,BD,.arr g 2 nn cl (vs Az d.toList),BK,.arr g2 1 true true [.int .i64 n]],c⟩ fun out s'=>∃(c' x y n':Nat),out=.ok (.CO [.int .i64 x,.int .i64 y])∧s'=⟨[Ap,Bv,BD,.arr g 2 nn cl (vs Az d.toList),BK,.arr g2 1 true true [.int .i64 n']],c'⟩∧n'≤n+1∧(x=a∧y=b∨x=b∧y=a):=by
 refine Ar rfl rfl ?_
 (conv=>whnf);repeat' (first|((with_reducible show AY _ _ _);refine CG (a) ?_;conv=>whnf)|((with_reducible show AY _ _ _);refine CG (b) ?_;conv=>whnf)|(refine Aa Eu ?_;rintro _ rfl;conv=>whnf)|(refine FP (fun hc=>?_) (fun hc=>?_)<;>conv=>whnf)|(refine kA ?_;conv=>whnf)|(refine Br.mk (fun hc=>?_) fun hc=>?_<;>first|exact hc.elim|conv=>whnf)|(refine kB ?_))
 ·exact⟨_,b,a,n+1,rfl,rfl,by omega,Or.inr ⟨rfl,rfl⟩⟩
 ·exact⟨_,a,b,n,rfl,rfl,by omega,Or.inl ⟨rfl,rfl⟩⟩
theorem ZT {Ap Bv BD BK:Obj} {g g2 c len:Nat} {nn cl:Bool} {d:Array (Int×Int)} {a b e n:Nat} (hl:d.size=len) (ha:a<len) (hb:b<len) (he:e<len) (hs:len<2^61) (hn:n<90):
 AQ (Ac tab) 157 [.own 3 g 0 len,.int .i64 a,.int .i64 b,.int .i64 e,.ref 5 g2 0 0,.fn 36 []] ⟨[Ap,Bv,BD,.arr g 2 nn cl (vs Az d.toList),BK,.arr g2 1 true true [.int .i64 n]],c⟩ fun out s'=>∃(c' m n':Nat),out=.ok (.int .i64 m)∧s'=⟨[Ap,Bv,BD,.arr g 2 nn cl (vs Az d.toList),BK,.arr g2 1 true true [.int .i64 n']],c'⟩∧n'≤n+3∧(m=a∨m=b∨m=e):=by
 refine Ar rfl rfl ?_
 (conv=>whnf);repeat' (first  |(refine kA ?_;conv=>whnf)|(refine Br.mk (fun hc=>?_) fun hc=>?_<;>first|exact hc.elim|conv=>whnf)|(refine kB ?_))
 refine(ZR hl ha hb hs (by omega)).mono ?_
 rintro _ _ ⟨c1,x1,y1,n1,rfl,rfl,h1,e1⟩
 conv=>whnf
 apply Ai rfl
 (conv=>whnf);repeat' (first  |(refine kA ?_;conv=>whnf)|(refine Br.mk (fun hc=>?_) fun hc=>?_<;>first|exact hc.elim|conv=>whnf)|(refine kB ?_))
 refine(ZR (a:=y1) (b:=e) hl (by omega) he hs (by omega)).mono ?_
 rintro _ _ ⟨c2,x2,y2,n2,rfl,rfl,h2,e2⟩
 conv=>whnf
 apply Ai rfl
 (conv=>whnf);repeat' (first  |(refine kA ?_;conv=>whnf)|(refine Br.mk (fun hc=>?_) fun hc=>?_<;>first|exact hc.elim|conv=>whnf)|(refine kB ?_))
 refine(ZR (a:=x1) (b:=x2) hl (by omega) (by omega) hs (by omega)).mono ?_
 rintro _ _ ⟨c3,x3,y3,n3,rfl,rfl,h3,e3⟩
 conv=>whnf
 apply Ai rfl
 (conv=>whnf);repeat' (first  |(refine kA ?_;conv=>whnf)|(refine Br.mk (fun hc=>?_) fun hc=>?_<;>first|exact hc.elim|conv=>whnf)|(refine kB ?_))
 exact⟨_,y3,n3,rfl,rfl,by omega,by omega⟩
theorem ZU {Ap Bv BD BK:Obj} {g g2 c len:Nat} {nn cl:Bool} {d:Array (Int×Int)} {a n:Nat} (hl:d.size=len) (ha:a+1<len) (h0:0<a) (hs:len<2^61) (hn:n<90):
 AQ (Ac tab) 156 [.own 3 g 0 len,.int .i64 a,.ref 5 g2 0 0,.fn 36 []] ⟨[Ap,Bv,BD,.arr g 2 nn cl (vs Az d.toList),BK,.arr g2 1 true true [.int .i64 n]],c⟩ fun out s'=>∃(c' m n':Nat),out=.ok (.int .i64 m)∧s'=⟨[Ap,Bv,BD,.arr g 2 nn cl (vs Az d.toList),BK,.arr g2 1 true true [.int .i64 n']],c'⟩∧n'≤n+3∧a≤m+1∧m≤a+1:=by
 refine Ar rfl rfl ?_
 (conv=>whnf);repeat' (first  |(refine kA ?_;conv=>whnf)|(refine Br.mk (fun hc=>?_) fun hc=>?_<;>first|exact hc.elim|conv=>whnf)|(refine kB ?_))
 rw[show ((a:Int)-1)=((a-1:Nat):Int) by omega]
 refine(ZT (a:=a-1) (b:=a) (e:=a+1) hl (by omega) (by omega) ha hs hn).mono ?_
 rintro _ _ ⟨c',m,n',rfl,rfl,h1,h2⟩
 conv=>whnf
 apply Ai rfl
 (conv=>whnf);repeat' (first  |(refine kA ?_;conv=>whnf)|(refine Br.mk (fun hc=>?_) fun hc=>?_<;>first|exact hc.elim|conv=>whnf)|(refine kB ?_))
 exact⟨_,m,n',rfl,rfl,h1,by omega,by omega⟩
set_option maxHeartbeats 1000000 in
theorem AdW {Ap Bv BD BK:Obj} {g c len:Nat} {nn cl:Bool} {d:Array (Int×Int)} {a b:Nat} (hl:d.size=len) (hb:b≤len) (hab:a+12<b) (hs:len<2^61):
 AQ (Ac tab) 104 [.own 3 g 0 len,.int .i64 a,.int .i64 b,.fn 36 []] ⟨[Ap,Bv,BD,.arr g 2 nn cl (vs Az d.toList),BK],c⟩ fun out s'=>∃(c' p:Nat) (h:Int) (ob:Obj),out=.ok (.CO [.int .i64 p,.int .i64 h])∧s'=⟨[Ap,Bv,BD,.arr g 2 nn cl (vs Az d.toList),BK,ob],c'⟩∧a≤p∧p<b:=by
 refine Ar rfl rfl ?_
 have hq:(b-a) / 4*4≤b-a:=Nat.div_mul_le_self _ _
 have hq2:3≤(b-a) / 4:=by omega
 generalize hL:(b-a) / 4=L at hq hq2
 (conv=>whnf);repeat' (first|(refine Jr (b-a) 4 (by omega) (by omega) ?_;rw[hL];conv=>whnf)|(refine kA ?_;conv=>whnf)|(refine Br.mk (fun hc=>?_) fun hc=>?_<;>first|exact hc.elim|conv=>whnf)|(refine kB ?_))
 ·refine(ZU (g2:=c) (n:=0) (a:=a+L*1) hl (by omega) (by omega) hs (by omega)).mono ?_
  rintro _ _ ⟨c1,i,n1,rfl,rfl,h1,i1,i2⟩
  conv=>whnf
  apply Ai rfl
  (conv=>whnf);repeat' (first  |(refine kA ?_;conv=>whnf)|(refine Br.mk (fun hc=>?_) fun hc=>?_<;>first|exact hc.elim|conv=>whnf)|(refine kB ?_))
  refine(ZU (g2:=c) (a:=a+L*2) hl (by omega) (by omega) hs (by omega)).mono ?_
  rintro _ _ ⟨c2,j,n2,rfl,rfl,h2,j1,j2⟩
  conv=>whnf
  apply Ai rfl
  (conv=>whnf);repeat' (first  |(refine kA ?_;conv=>whnf)|(refine Br.mk (fun hc=>?_) fun hc=>?_<;>first|exact hc.elim|conv=>whnf)|(refine kB ?_))
  refine(ZU (g2:=c) (a:=a+L*3) hl (by omega) (by omega) hs (by omega)).mono ?_
  rintro _ _ ⟨c3,k,n3,rfl,rfl,h3,k1,k2⟩
  conv=>whnf
  apply Ai rfl
  (conv=>whnf);repeat' (first  |(refine kA ?_;conv=>whnf)|(refine Br.mk (fun hc=>?_) fun hc=>?_<;>first|exact hc.elim|conv=>whnf)|(refine kB ?_))
  refine(ZT (g2:=c) (a:=i) (b:=j) (e:=k) hl (by omega) (by omega) (by omega) hs (by omega)).mono ?_
  rintro _ _ ⟨c4,m,n4,rfl,rfl,h4,h5⟩
  conv=>whnf
  apply Ai rfl
  (conv=>whnf);repeat' (first  |(refine kA ?_;conv=>whnf)|(refine Br.mk (fun hc=>?_) fun hc=>?_<;>first|exact hc.elim|conv=>whnf)|(refine kB ?_))
  all_goals exact⟨_,m,_,_,rfl,rfl,by omega,by omega⟩
 ·refine(ZT (g2:=c) (n:=0) (a:=a+L*1) (b:=a+L*2) (e:=a+L*3) hl (by omega) (by omega) (by omega) hs (by omega)).mono ?_
  rintro _ _ ⟨c4,m,n4,rfl,rfl,h4,h5⟩
  conv=>whnf
  apply Ai rfl
  (conv=>whnf);repeat' (first  |(refine kA ?_;conv=>whnf)|(refine Br.mk (fun hc=>?_) fun hc=>?_<;>first|exact hc.elim|conv=>whnf)|(refine kB ?_))
  all_goals exact⟨_,m,_,_,rfl,rfl,by omega,by omega⟩
theorem AdV {Ap Bv BD BK:Obj} {g c len:Nat} {nn cl:Bool} {d:Array (Int×Int)} {a b:Nat} (hl:d.size=len) (hb:b≤len) (hab:a<b) (hs:len<2^61):
 AQ (Ac tab) 105 [.own 3 g 0 len,.int .i64 a,.int .i64 b,.fn 36 []] ⟨[Ap,Bv,BD,.arr g 2 nn cl (vs Az d.toList),BK],c⟩ fun out s'=>∃c' D,out=.ok (.CO [])∧s'=⟨[Ap,Bv,BD,.arr g 2 nn cl (vs Az D.toList),BK],c'⟩∧PermIn a b d D:=by
 refine Ar rfl rfl ?_
 (conv=>whnf);repeat' (first  |(refine kA ?_;conv=>whnf)|(refine Br.mk (fun hc=>?_) fun hc=>?_<;>first|exact hc.elim|conv=>whnf)|(refine kB ?_))
 refine Ae (fun m env s=>∃(i c:Nat) (z:Int) (D:Array (Int×Int)),m=b-i∧a≤i∧i≤b∧z=(a:Int)+b-1-i∧PermIn a b d D∧env=[(0,.own 3 g 0 len),(8,.int .i64 i),(9,.int .i64 z)]∧s=⟨[Ap,Bv,BD,.arr g 2 nn cl (vs Az D.toList),BK],c⟩) ?_ _ _ _ ⟨a,c,_,d,rfl,by omega,by omega,by omega,permIn_refl _ _ _,rfl,rfl⟩
 rintro _ _ _ ⟨i,c,z,D,rfl,hi,hib,hz,hD,rfl,rfl⟩
 refine⟨rfl,?_⟩
 have hDl:D.size=len:=by rw[hD.1,hl]
 (conv=>whnf);repeat' (first|((with_reducible show AY _ _ _);refine CG (i) ?_;conv=>whnf)|((with_reducible show AY _ _ _);refine CG (a+b-1-i) ?_;conv=>whnf)|((with_reducible show eqK _ _);refine EP Bd (i) ?_;conv=>whnf)|((with_reducible show eqK _ _);refine EP Bd (a+b-1-i) ?_;conv=>whnf)|(refine kA ?_;conv=>whnf)|(refine Br.mk (fun hc=>?_) fun hc=>?_<;>first|exact hc.elim|conv=>whnf)|(refine kB ?_))
 ·exact again.mk ⟨_,by omega,i+1,_,z-1,swp D i (a+b-1-i),rfl,by omega,by omega,by omega,permIn_trans _ _ _ _ _ hD (swp_permIn _ _ _ _ _ (by omega) (by omega) (by omega) (by omega) (by omega)),rfl,rfl⟩
 ·exact⟨_,D,rfl,rfl,hD⟩
theorem Adz {Ap Bv BD BK:Obj} {obX:Obj} {g2 c:Nat} {r:Int}:
 AQ (Ac tab) 155 [.ref 5 g2 0 0] ⟨[Ap,Bv,BD,  obX,BK,.arr g2 1 true true [.int .u64 r]],c⟩ fun out s'=>∃c' r',out=.ok (.int .u64 r')∧s'=⟨[Ap,Bv,BD,  obX,BK,.arr g2 1 true true [.int .u64 r']],c'⟩:=by
 refine Ar rfl rfl ?_
 (conv=>whnf);repeat' (first|(apply Bh rfl;conv=>whnf)|(apply Dz rfl;conv=>whnf)|(refine kA ?_;conv=>whnf)|(refine Br.mk (fun hc=>?_) fun hc=>?_<;>first|exact hc.elim|conv=>whnf)|(refine kB ?_))
 exact⟨_,_,rfl,rfl⟩
theorem andNx {r:Int} {M:Nat} (h0:0<M) (h:M<2^63):∃n:Nat,IntKind.u64.wrap ((BitVec.ofInt IntKind.u64.bits r &&& BitVec.ofInt IntKind.u64.bits ((M-1:Nat):Int)).toNat:Int)=n∧n<M:=by
 have e:(BitVec.ofInt IntKind.u64.bits ((M-1:Nat):Int)).toNat=M-1:=by
  rw[BitVec.toNat_ofInt]
  show Int.toNat (((M-1:Nat):Int) % ((2 ^ 64:Nat):Int))=M-1
  omega
 refine⟨(BitVec.ofInt IntKind.u64.bits r &&& BitVec.ofInt IntKind.u64.bits ((M-1:Nat):Int)).toNat,Vd rfl (by omega) ?_,?_⟩
 ·rw[BitVec.toNat_and,e]
  have:=@Nat.and_le_right (BitVec.ofInt IntKind.u64.bits r).toNat (M-1)
  show _<(2:Int) ^ 64
  omega
 ·rw[BitVec.toNat_and,e]
  have:=@Nat.and_le_right (BitVec.ofInt IntKind.u64.bits r).toNat (M-1)
  omega
set_option maxHeartbeats 1000000 in
theorem AdX {Ap Bv BD BK:Obj} {g c len:Nat} {nn cl:Bool} {d:Array (Int×Int)} {a b:Nat} (hl:d.size=len) (hb:b≤len) (hab:a+12<b) (hs:len<2^61):
 AQ (Ac tab) 103 [.own 3 g 0 len,.int .i64 a,.int .i64 b,.fn 36 []] ⟨[Ap,Bv,BD,.arr g 2 nn cl (vs Az d.toList),BK],c⟩ fun out s'=>∃c' D ob,out=.ok (.CO [])∧s'=⟨[Ap,Bv,BD,.arr g 2 nn cl (vs Az D.toList),BK,ob],c'⟩∧PermIn a b d D:=by
 refine Ar rfl rfl ?_
 have hq:(b-a) / 4*4≤b-a:=Nat.div_mul_le_self _ _
 have hq2:3≤(b-a) / 4:=by omega
 generalize hL:(b-a) / 4=L at hq hq2
 (conv=>whnf);repeat' (first|(refine Jr (b-a) 4 (by omega) (by omega) ?_;rw[hL];conv=>whnf)|(refine wrapN (b-a) rfl (by omega) (by show _<2^64;omega) ?_;conv=>whnf)|(refine kA ?_;conv=>whnf)|(refine Br.mk (fun hc=>?_) fun hc=>?_<;>first|exact hc.elim|conv=>whnf)|(refine kB ?_))
 rw[show ((b:Int)-a)=((b-a:Nat):Int) by omega]
 refine Aa (QM (n:=b-a) (by omega) (by omega)) ?_
 rintro _ ⟨M,rfl,hM1,hM2⟩
 (conv=>whnf);repeat' (first|(refine Jr (b-a) 4 (by omega) (by omega) ?_;rw[hL];conv=>whnf)|(refine kA ?_;conv=>whnf)|(refine Br.mk (fun hc=>?_) fun hc=>?_<;>first|exact hc.elim|conv=>whnf)|(refine kB ?_))
 refine Ae (fun m env s=>∃(k cc:Nat) (z r:Int) (D:Array (Int×Int)),m=3-k∧k≤3∧z=(a:Int)+L*2-1+k∧PermIn a b d D∧env=[(0,.own 3 g 0 len),(1,.int .i64 a),(8,.int .i64 (b-a:Nat)),(9,.ref 5 c 0 0),(10,.int .u64 M),(11,.int .i64 z)]∧s=⟨[Ap,Bv,BD,.arr g 2 nn cl (vs Az D.toList),BK,.arr c 1 true true [.int .u64 r]],cc⟩) ?_ _ _ _ ⟨0,_,_,((b-a:Nat):Int),d,rfl,by omega,by omega,permIn_refl _ _ _,rfl,rfl⟩
 rintro _ _ _ ⟨k,c1,z,r,D,rfl,hk,hz,hD,rfl,rfl⟩
 refine⟨rfl,?_⟩
 have hDl:D.size=len:=by rw[hD.1,hl]
 (conv=>whnf);repeat' (first|(refine Jr (b-a) 4 (by omega) (by omega) ?_;rw[hL];conv=>whnf)|(refine kA ?_;conv=>whnf)|(refine Br.mk (fun hc=>?_) fun hc=>?_<;>first|exact hc.elim|conv=>whnf)|(refine kB ?_))
 ·refine(Adz).mono ?_
  rintro _ _ ⟨c2,r2,rfl,rfl⟩
  obtain⟨o,ho1,ho2⟩:=andNx (r:=r2) (M:=M) (by omega) (by omega)
  conv=>whnf
  apply Ai rfl
  (conv=>whnf);repeat' (first|(refine wrapN (M-1) rfl (by omega) (by show _<2^64;omega) ?_;conv=>whnf)|(apply Bh ho1;conv=>whnf)|(refine Dz (wrap_i64 (by omega) (by omega)) ?_;conv=>whnf)|((with_reducible show AY _ _ _);refine CG (a+(o-(b-a))) ?_;conv=>whnf)|((with_reducible show AY _ _ _);refine CG (a+o) ?_;conv=>whnf)|((with_reducible show AY _ _ _);refine CG (a+L*2-1+k) ?_;conv=>whnf)|((with_reducible show eqK _ _);refine EP Bd (a+(o-(b-a))) ?_;conv=>whnf)|((with_reducible show eqK _ _);refine EP Bd (a+o) ?_;conv=>whnf)|((with_reducible show eqK _ _);refine EP Bd (a+L*2-1+k) ?_;conv=>whnf)|(refine kA ?_;conv=>whnf)|(refine Br.mk (fun hc=>?_) fun hc=>?_<;>first|exact hc.elim|conv=>whnf)|(refine kB ?_))
  ·exact again.mk ⟨_,by omega,k+1,_,_,_,swp D (a+L*2-1+k) (a+(o-(b-a))),rfl,by omega,by omega,permIn_trans _ _ _ _ _ hD (swp_permIn _ _ _ _ _ (by omega) (by omega) (by omega) (by omega) (by omega)),rfl,rfl⟩
  ·exact again.mk ⟨_,by omega,k+1,_,_,_,swp D (a+L*2-1+k) (a+o),rfl,by omega,by omega,permIn_trans _ _ _ _ _ hD (swp_permIn _ _ _ _ _ (by omega) (by omega) (by omega) (by omega) (by omega)),rfl,rfl⟩
 ·exact⟨_,D,_,rfl,rfl,hD⟩
end
end AI
end Go.Proofs.YthjeehjphekjmaaGreatDoor
