/- Sorting in place (CmpFunc[graphdb/api.Entry]): insertion, heaps. Sorting in place (CmpFunc[graphdb/api.Entry]): the pivot, reversing, breaking patterns. -/
import Derived.Test.YtceiccjppfapjaaGreatDoorXMah
import Derived.Test.YtceiccjppfapjaaGreatDoorXMaf
set_option linter.unusedVariables false
set_option maxRecDepth 4000
namespace Go.Proofs.YtceiccjppfapjaaGreatDoor
namespace AI
section
open Go.Sort
set_option maxHeartbeats 1000000 in
theorem AhL {BP:Obj} {g c len:Nat} {nn cl:Bool} {d:Array GX} {a b:Nat} (hl:d.size=len) (hb:b≤len) (hs:len<2^61) (ha:a≤len):
 AA (Ad tab) 292 [.own 1 g 0 len,.int .i64 a,.int .i64 b,.fn 86 []] ⟨[BP,.arr g 8 nn cl (vs GX.av d.toList)],c⟩ fun out s'=>∃c',out=.ok (.BL [])∧s'=⟨[BP,.arr g 8 nn cl (vs GX.av (insertionSort BR d a b).toList)],c'⟩:=by
 refine Aj rfl rfl ?_
 (conv=>whnf);repeat' (first  |(refine kA ?_;conv=>whnf)|(refine Br.mk (fun hc=>?_) fun hc=>?_<;>first|exact hc.elim|conv=>whnf)|(refine kB ?_))
 refine Ag (fun m env s=>∃(i c:Nat) (D:Array GX),m=b-i∧insOuter BR a b i D=insertionSort BR d a b∧D.size=len∧env=[(0,.own 1 g 0 len),(1,.int .i64 a),(2,.int .i64 b),(3,.fn 86 []),(8,.int .i64 i)]∧s=⟨[BP,.arr g 8 nn cl (vs GX.av D.toList)],c⟩) ?_ _ _ _ ⟨a+1,c,d,rfl,rfl,hl,rfl,rfl⟩
 rintro _ _ _ ⟨i,c,D,rfl,hD,hDl,rfl,rfl⟩
 refine⟨rfl,?_⟩
 (conv=>whnf);repeat' (first  |(refine kA ?_;conv=>whnf)|(refine Br.mk (fun hc=>?_) fun hc=>?_<;>first|exact hc.elim|conv=>whnf)|(refine kB ?_))
 ·rw[Adt (by omega)]at hD
  refine Ag (fun m env s=>∃(j c:Nat) (z:Int) (E:Array GX),m=j∧z=j∧j≤i∧insInner BR a j E=insInner BR a i D∧E.size=len∧env=[(0,.own 1 g 0 len),(1,.int .i64 a),(2,.int .i64 b),(3,.fn 86 []),(8,.int .i64 i),(9,.int .i64 z)]∧s=⟨[BP,.arr g 8 nn cl (vs GX.av E.toList)],c⟩) ?_ _ _ _ ⟨i,_,_,D,rfl,rfl,by omega,rfl,hDl,rfl,rfl⟩
  rintro j _ _ ⟨_,c,z,E,rfl,hz,hj,hE,hEl,rfl,rfl⟩
  refine⟨rfl,?_⟩
  cases j with
  |zero=>
   (conv=>whnf);repeat' (first  |(refine kA ?_;conv=>whnf)|(refine Br.mk (fun hc=>?_) fun hc=>?_<;>first|exact hc.elim|conv=>whnf)|(refine kB ?_))
   rw[← hE]at hD
   exact again.mk ⟨_,by omega,i+1,_,E,rfl,hD,hEl,rfl,rfl⟩
  |succ j=>
   (conv=>whnf);repeat' (first|((with_reducible show Ce _ _ _);refine He (j+1) ?_;conv=>whnf)|((with_reducible show Ce _ _ _);refine He (j) ?_;conv=>whnf)|(refine Aa Eu ?_;rintro _ rfl;conv=>whnf)|(refine F5 (fun hc=>?_) (fun hc=>?_)<;>conv=>whnf)|((with_reducible show eqK _ _);refine LH BA (j+1) ?_;conv=>whnf)|((with_reducible show eqK _ _);refine LH BA (j) ?_;conv=>whnf)|(refine kA ?_;conv=>whnf)|(refine Br.mk (fun hc=>?_) fun hc=>?_<;>first|exact hc.elim|conv=>whnf)|(refine kB ?_))
   ·rw[Vd (by omega) hc]at hE
    exact again.mk ⟨_,by omega,j,_,_,swp E (j+1) j,rfl,by omega,by omega,hE,by simpa using hEl,rfl,rfl⟩
   ·rw[Qp (fun _=>hc)]at hE
    rw[← hE]at hD
    exact again.mk ⟨_,by omega,i+1,_,E,rfl,hD,hEl,rfl,rfl⟩
   ·rw[Qp (fun h=>absurd h (by omega))]at hE
    rw[← hE]at hD
    exact again.mk ⟨_,by omega,i+1,_,E,rfl,hD,hEl,rfl,rfl⟩
 ·rw[Adu (by omega)]at hD
  exact⟨_,rfl,by rw[hD]⟩
set_option maxHeartbeats 1000000 in
theorem AaP {BP:Obj} {g c len:Nat} {nn cl:Bool} {d:Array GX} {lo hi first:Nat} (hl:d.size=len) (hb:first+hi≤len) (hs:len<2^61) (hlo:lo≤len):
 AA (Ad tab) 331 [.own 1 g 0 len,.int .i64 lo,.int .i64 hi,.int .i64 first,.fn 86 []] ⟨[BP,.arr g 8 nn cl (vs GX.av d.toList)],c⟩ fun out s'=>∃c',out=.ok (.BL [])∧s'=⟨[BP,.arr g 8 nn cl (vs GX.av (siftDown BR hi first lo d).toList)],c'⟩:=by
 refine Aj rfl rfl ?_
 (conv=>whnf);repeat' (first  |(refine kA ?_;conv=>whnf)|(refine Br.mk (fun hc=>?_) fun hc=>?_<;>first|exact hc.elim|conv=>whnf)|(refine kB ?_))
 refine Ag (fun m env s=>∃(root c:Nat) (z:Int) (D:Array GX),m=hi-root∧z=root∧root≤len∧siftDown BR hi first root D=siftDown BR hi first lo d∧D.size=len∧env=[(0,.own 1 g 0 len),(2,.int .i64 hi),(3,.int .i64 first),(4,.fn 86 []),(10,.int .i64 z)]∧s=⟨[BP,.arr g 8 nn cl (vs GX.av D.toList)],c⟩) ?_ _ _ _ ⟨lo,c,_,d,rfl,rfl,hlo,rfl,hl,rfl,rfl⟩
 rintro _ _ _ ⟨root,c,z,D,rfl,hz,hr,hD,hDl,rfl,rfl⟩
 refine⟨rfl,?_⟩
 (conv=>whnf);repeat' (first|((with_reducible show Ce _ _ _);refine He (first+root) ?_;conv=>whnf)|((with_reducible show Ce _ _ _);refine He (first+(2*root+1)) ?_;conv=>whnf)|((with_reducible show Ce _ _ _);refine He (first+(2*root+1)+1) ?_;conv=>whnf)|(refine Aa Eu ?_;rintro _ rfl;conv=>whnf)|(refine F5 (fun hc=>?_) (fun hc=>?_)<;>conv=>whnf)|((with_reducible show eqK _ _);refine LH BA (first+root) ?_;conv=>whnf)|((with_reducible show eqK _ _);refine LH BA (first+(2*root+1)) ?_;conv=>whnf)|((with_reducible show eqK _ _);refine LH BA (first+(2*root+1)+1) ?_;conv=>whnf)|(refine kA ?_;conv=>whnf)|(refine Br.mk (fun hc=>?_) fun hc=>?_<;>first|exact hc.elim|conv=>whnf)|(refine kB ?_))
 ·rw[Ve (by omega)]at hD
  exact⟨_,rfl,by rw[hD]⟩
 all_goals first
  |(rw [AfK (by omega) (by assumption) hc]at hD
    exact again.mk ⟨_,by omega,2*root+2,_,_,swp D (first+root) (first+(2*root+2)),rfl,by omega,by omega,hD,by simpa using hDl,rfl,rfl⟩)
  |(rw [Adv (by omega) (by assumption) hc]at hD
    exact⟨_,rfl,by rw[hD]⟩)
  |(rw [AaQ (by omega) (fun _=>by assumption) hc]at hD
    exact again.mk ⟨_,by omega,2*root+1,_,_,swp D (first+root) (first+(2*root+1)),rfl,by omega,by omega,hD,by simpa using hDl,rfl,rfl⟩)
  |(rw [Yq (by omega) (fun _=>by assumption) hc]at hD
    exact⟨_,rfl,by rw[hD]⟩)
  |(rw [AaQ (by omega) (fun h=>absurd h (by omega)) hc]at hD
    exact again.mk ⟨_,by omega,2*root+1,_,_,swp D (first+root) (first+(2*root+1)),rfl,by omega,by omega,hD,by simpa using hDl,rfl,rfl⟩)
  |(rw [Yq (by omega) (fun h=>absurd h (by omega)) hc]at hD
    exact⟨_,rfl,by rw[hD]⟩)
set_option maxHeartbeats 1000000 in
theorem Adw {BP:Obj} {g c len:Nat} {nn cl:Bool} {d:Array GX} {a n:Nat} {z:Int} {Q:AU→Env→Am→Prop} (hl:d.size=len) (hb:a+n≤len) (hs:len<2^61) (hz:z=(n:Int)-1)
 (hQ:∀c' e,Q (.exit 2) e ⟨[BP,.arr g 8 nn cl (vs GX.av (heapPop BR a n d).toList)],c'⟩):
 Run (Ad tab) (.loop l293_1_h l293_1_b) [(0,.own 1 g 0 len),(3,.fn 86 []),(8,.int .i64 a),(9,.int .i64 0),(12,.int .i64 z)] ⟨[BP,.arr g 8 nn cl (vs GX.av d.toList)],c⟩ Q:=by
 refine Ag (fun m env s=>∃(k c:Nat) (z:Int) (E:Array GX),m=k∧z=(k:Int)-1∧a+k≤len∧heapPop BR a k E=heapPop BR a n d∧E.size=len∧env=[(0,.own 1 g 0 len),(3,.fn 86 []),(8,.int .i64 a),(9,.int .i64 0),(12,.int .i64 z)]∧s=⟨[BP,.arr g 8 nn cl (vs GX.av E.toList)],c⟩) ?_ _ _ _ ⟨n,c,_,d,rfl,hz,by omega,rfl,hl,rfl,rfl⟩
 clear hz
 rintro k _ _ ⟨_,c,z,E,rfl,hz,hk,hE,hEl,rfl,rfl⟩
 refine⟨rfl,?_⟩
 cases k with
 |succ k=>
  obtain rfl:z=(k:Nat):=by omega
  (conv=>whnf);repeat' (first|((with_reducible show Ce _ _ _);refine He (a) ?_;conv=>whnf)|((with_reducible show Ce _ _ _);refine He (a+k) ?_;conv=>whnf)|((with_reducible show eqK _ _);refine LH BA (a) ?_;conv=>whnf)|((with_reducible show eqK _ _);refine LH BA (a+k) ?_;conv=>whnf)|(refine kA ?_;conv=>whnf)|(refine Br.mk (fun hc=>?_) fun hc=>?_<;>first|exact hc.elim|conv=>whnf)|(refine kB ?_))
  refine(AaP (d:=swp E a (a+k)) (lo:=0) (by simpa using hEl) (by omega) hs (by omega)).mono ?_
  rintro _ _ ⟨c',rfl,rfl⟩
  (conv=>whnf);repeat' (first  |(refine kA ?_;conv=>whnf)|(refine Br.mk (fun hc=>?_) fun hc=>?_<;>first|exact hc.elim|conv=>whnf)|(refine kB ?_))
  rw[heapPop]at hE
  exact again.mk ⟨_,by omega,k,_,(k:Int)-1,_,rfl,by omega,by omega,hE,by simpa using hEl,rfl,rfl⟩
 |zero=>
  rw[← hE]at hQ
  (conv=>whnf);repeat' (first  |(refine kA ?_;conv=>whnf)|(refine Br.mk (fun hc=>?_) fun hc=>?_<;>first|exact hc.elim|conv=>whnf)|(refine kB ?_))
  exact hQ _ _
theorem AfL {BP:Obj} {g c len:Nat} {nn cl:Bool} {d:Array GX} {a b:Nat} (hl:d.size=len) (hb:b≤len) (hs:len<2^61) (hab:a<b):
 AA (Ad tab) 293 [.own 1 g 0 len,.int .i64 a,.int .i64 b,.fn 86 []] ⟨[BP,.arr g 8 nn cl (vs GX.av d.toList)],c⟩ fun out s'=>∃c',out=.ok (.BL [])∧s'=⟨[BP,.arr g 8 nn cl (vs GX.av (heapSort BR d a b).toList)],c'⟩:=by
 refine Aj rfl rfl ?_
 (conv=>whnf);repeat' (first|(refine SB (b-a-1) 2 (by omega) (by omega) ?_;conv=>whnf)|(refine kA ?_;conv=>whnf)|(refine Br.mk (fun hc=>?_) fun hc=>?_<;>first|exact hc.elim|conv=>whnf)|(refine kB ?_))
 refine Ag (fun m env s=>∃(k c:Nat) (z:Int) (D:Array GX),m=k∧z=k-1∧k≤len∧heapBuild BR (b-a) a k D=heapBuild BR (b-a) a ((b-a-1) / 2+1) d∧D.size=len∧env=[(0,.own 1 g 0 len),(3,.fn 86 []),(8,.int .i64 a),(9,.int .i64 0),(10,.int .i64 (b-a)),(11,.int .i64 z)]∧s=⟨[BP,.arr g 8 nn cl (vs GX.av D.toList)],c⟩) ?_ _ _ _ ⟨(b-a-1) / 2+1,c,_,d,rfl,by omega,by omega,rfl,hl,rfl,rfl⟩
 rintro k _ _ ⟨_,c,z,D,rfl,hz,hk,hD,hDl,rfl,rfl⟩
 refine⟨rfl,?_⟩
 cases k with
 |succ k=>
  obtain rfl:z=(k:Nat):=by omega
  (conv=>whnf);repeat' (first  |(refine kA ?_;conv=>whnf)|(refine Br.mk (fun hc=>?_) fun hc=>?_<;>first|exact hc.elim|conv=>whnf)|(refine kB ?_))
  rw[show ((b:Int)-a)=((b-a:Nat):Int) by omega]
  refine(AaP hDl (by omega) hs (by omega)).mono ?_
  rintro _ _ ⟨c',rfl,rfl⟩
  (conv=>whnf);repeat' (first  |(refine kA ?_;conv=>whnf)|(refine Br.mk (fun hc=>?_) fun hc=>?_<;>first|exact hc.elim|conv=>whnf)|(refine kB ?_))
  rw[heapBuild]at hD
  exact again.mk ⟨_,by omega,k,_,(k:Int)-1,_,rfl,by omega,by omega,hD,by simpa using hDl,rfl,rfl⟩
 |zero=>
  have hD:D=_:=hD
  (conv=>whnf);repeat' (first  |(refine kA ?_;conv=>whnf)|(refine Br.mk (fun hc=>?_) fun hc=>?_<;>first|exact hc.elim|conv=>whnf)|(refine kB ?_))
  refine Adw hDl (n:=b-a) (by omega) hs (by omega) (fun c' e=>?_)
  (conv=>whnf);repeat' (first  |(refine kA ?_;conv=>whnf)|(refine Br.mk (fun hc=>?_) fun hc=>?_<;>first|exact hc.elim|conv=>whnf)|(refine kB ?_))
  exact⟨_,rfl,by rw[hD];rfl⟩
end
section
open Go.Sort
theorem AcI {BP:Obj} {g g2 c len:Nat} {nn cl:Bool} {d:Array GX} {a b n:Nat} (hl:d.size=len) (ha:a<len) (hb:b<len) (hs:len<2^61) (hn:n<100):
 AA (Ad tab) 358 [.own 1 g 0 len,.int .i64 a,.int .i64 b,.ref 2 g2 0 0,.fn 86 []] ⟨[BP,.arr g 8 nn cl (vs GX.av d.toList),.arr g2 1 true true [.int .i64 n]],c⟩ fun out s'=>∃(c' x y n':Nat),out=.ok (.BL [.int .i64 x,.int .i64 y])∧s'=⟨[BP,.arr g 8 nn cl (vs GX.av d.toList),.arr g2 1 true true [.int .i64 n']],c'⟩∧n'≤n+1∧(x=a∧y=b∨x=b∧y=a):=by
 refine Aj rfl rfl ?_
 (conv=>whnf);repeat' (first|((with_reducible show Ce _ _ _);refine He (a) ?_;conv=>whnf)|((with_reducible show Ce _ _ _);refine He (b) ?_;conv=>whnf)|(refine Aa Eu ?_;rintro _ rfl;conv=>whnf)|(refine F5 (fun hc=>?_) (fun hc=>?_)<;>conv=>whnf)|(refine kA ?_;conv=>whnf)|(refine Br.mk (fun hc=>?_) fun hc=>?_<;>first|exact hc.elim|conv=>whnf)|(refine kB ?_))
 ·exact⟨_,b,a,n+1,rfl,rfl,by omega,Or.inr ⟨rfl,rfl⟩⟩
 ·exact⟨_,a,b,n,rfl,rfl,by omega,Or.inl ⟨rfl,rfl⟩⟩
theorem AcJ {BP:Obj} {g g2 c len:Nat} {nn cl:Bool} {d:Array GX} {a b e n:Nat} (hl:d.size=len) (ha:a<len) (hb:b<len) (he:e<len) (hs:len<2^61) (hn:n<90):
 AA (Ad tab) 333 [.own 1 g 0 len,.int .i64 a,.int .i64 b,.int .i64 e,.ref 2 g2 0 0,.fn 86 []] ⟨[BP,.arr g 8 nn cl (vs GX.av d.toList),.arr g2 1 true true [.int .i64 n]],c⟩ fun out s'=>∃(c' m n':Nat),out=.ok (.int .i64 m)∧s'=⟨[BP,.arr g 8 nn cl (vs GX.av d.toList),.arr g2 1 true true [.int .i64 n']],c'⟩∧n'≤n+3∧(m=a∨m=b∨m=e):=by
 refine Aj rfl rfl ?_
 (conv=>whnf);repeat' (first  |(refine kA ?_;conv=>whnf)|(refine Br.mk (fun hc=>?_) fun hc=>?_<;>first|exact hc.elim|conv=>whnf)|(refine kB ?_))
 refine(AcI hl ha hb hs (by omega)).mono ?_
 rintro _ _ ⟨c1,x1,y1,n1,rfl,rfl,h1,e1⟩
 conv=>whnf
 apply Ah rfl
 (conv=>whnf);repeat' (first  |(refine kA ?_;conv=>whnf)|(refine Br.mk (fun hc=>?_) fun hc=>?_<;>first|exact hc.elim|conv=>whnf)|(refine kB ?_))
 refine(AcI (a:=y1) (b:=e) hl (by omega) he hs (by omega)).mono ?_
 rintro _ _ ⟨c2,x2,y2,n2,rfl,rfl,h2,e2⟩
 conv=>whnf
 apply Ah rfl
 (conv=>whnf);repeat' (first  |(refine kA ?_;conv=>whnf)|(refine Br.mk (fun hc=>?_) fun hc=>?_<;>first|exact hc.elim|conv=>whnf)|(refine kB ?_))
 refine(AcI (a:=x1) (b:=x2) hl (by omega) (by omega) hs (by omega)).mono ?_
 rintro _ _ ⟨c3,x3,y3,n3,rfl,rfl,h3,e3⟩
 conv=>whnf
 apply Ah rfl
 (conv=>whnf);repeat' (first  |(refine kA ?_;conv=>whnf)|(refine Br.mk (fun hc=>?_) fun hc=>?_<;>first|exact hc.elim|conv=>whnf)|(refine kB ?_))
 exact⟨_,y3,n3,rfl,rfl,by omega,by omega⟩
theorem AcK {BP:Obj} {g g2 c len:Nat} {nn cl:Bool} {d:Array GX} {a n:Nat} (hl:d.size=len) (ha:a+1<len) (h0:0<a) (hs:len<2^61) (hn:n<90):
 AA (Ad tab) 332 [.own 1 g 0 len,.int .i64 a,.ref 2 g2 0 0,.fn 86 []] ⟨[BP,.arr g 8 nn cl (vs GX.av d.toList),.arr g2 1 true true [.int .i64 n]],c⟩ fun out s'=>∃(c' m n':Nat),out=.ok (.int .i64 m)∧s'=⟨[BP,.arr g 8 nn cl (vs GX.av d.toList),.arr g2 1 true true [.int .i64 n']],c'⟩∧n'≤n+3∧a≤m+1∧m≤a+1:=by
 refine Aj rfl rfl ?_
 (conv=>whnf);repeat' (first  |(refine kA ?_;conv=>whnf)|(refine Br.mk (fun hc=>?_) fun hc=>?_<;>first|exact hc.elim|conv=>whnf)|(refine kB ?_))
 rw[show ((a:Int)-1)=((a-1:Nat):Int) by omega]
 refine(AcJ (a:=a-1) (b:=a) (e:=a+1) hl (by omega) (by omega) ha hs hn).mono ?_
 rintro _ _ ⟨c',m,n',rfl,rfl,h1,h2⟩
 conv=>whnf
 apply Ah rfl
 (conv=>whnf);repeat' (first  |(refine kA ?_;conv=>whnf)|(refine Br.mk (fun hc=>?_) fun hc=>?_<;>first|exact hc.elim|conv=>whnf)|(refine kB ?_))
 exact⟨_,m,n',rfl,rfl,h1,by omega,by omega⟩
set_option maxHeartbeats 1000000 in
theorem AiO {BP:Obj} {g c len:Nat} {nn cl:Bool} {d:Array GX} {a b:Nat} (hl:d.size=len) (hb:b≤len) (hab:a+12<b) (hs:len<2^61):
 AA (Ad tab) 295 [.own 1 g 0 len,.int .i64 a,.int .i64 b,.fn 86 []] ⟨[BP,.arr g 8 nn cl (vs GX.av d.toList)],c⟩ fun out s'=>∃(c' p:Nat) (h:Int) (ob:Obj),out=.ok (.BL [.int .i64 p,.int .i64 h])∧s'=⟨[BP,.arr g 8 nn cl (vs GX.av d.toList),ob],c'⟩∧a≤p∧p<b:=by
 refine Aj rfl rfl ?_
 have hq:(b-a) / 4*4≤b-a:=Nat.div_mul_le_self _ _
 have hq2:3≤(b-a) / 4:=by omega
 generalize hL:(b-a) / 4=L at hq hq2
 (conv=>whnf);repeat' (first|(refine SB (b-a) 4 (by omega) (by omega) ?_;rw[hL];conv=>whnf)|(refine kA ?_;conv=>whnf)|(refine Br.mk (fun hc=>?_) fun hc=>?_<;>first|exact hc.elim|conv=>whnf)|(refine kB ?_))
 ·refine(AcK (g2:=c) (n:=0) (a:=a+L*1) hl (by omega) (by omega) hs (by omega)).mono ?_
  rintro _ _ ⟨c1,i,n1,rfl,rfl,h1,i1,i2⟩
  conv=>whnf
  apply Ah rfl
  (conv=>whnf);repeat' (first  |(refine kA ?_;conv=>whnf)|(refine Br.mk (fun hc=>?_) fun hc=>?_<;>first|exact hc.elim|conv=>whnf)|(refine kB ?_))
  refine(AcK (g2:=c) (a:=a+L*2) hl (by omega) (by omega) hs (by omega)).mono ?_
  rintro _ _ ⟨c2,j,n2,rfl,rfl,h2,j1,j2⟩
  conv=>whnf
  apply Ah rfl
  (conv=>whnf);repeat' (first  |(refine kA ?_;conv=>whnf)|(refine Br.mk (fun hc=>?_) fun hc=>?_<;>first|exact hc.elim|conv=>whnf)|(refine kB ?_))
  refine(AcK (g2:=c) (a:=a+L*3) hl (by omega) (by omega) hs (by omega)).mono ?_
  rintro _ _ ⟨c3,k,n3,rfl,rfl,h3,k1,k2⟩
  conv=>whnf
  apply Ah rfl
  (conv=>whnf);repeat' (first  |(refine kA ?_;conv=>whnf)|(refine Br.mk (fun hc=>?_) fun hc=>?_<;>first|exact hc.elim|conv=>whnf)|(refine kB ?_))
  refine(AcJ (g2:=c) (a:=i) (b:=j) (e:=k) hl (by omega) (by omega) (by omega) hs (by omega)).mono ?_
  rintro _ _ ⟨c4,m,n4,rfl,rfl,h4,h5⟩
  conv=>whnf
  apply Ah rfl
  (conv=>whnf);repeat' (first  |(refine kA ?_;conv=>whnf)|(refine Br.mk (fun hc=>?_) fun hc=>?_<;>first|exact hc.elim|conv=>whnf)|(refine kB ?_))
  all_goals exact⟨_,m,_,_,rfl,rfl,by omega,by omega⟩
 ·refine(AcJ (g2:=c) (n:=0) (a:=a+L*1) (b:=a+L*2) (e:=a+L*3) hl (by omega) (by omega) (by omega) hs (by omega)).mono ?_
  rintro _ _ ⟨c4,m,n4,rfl,rfl,h4,h5⟩
  conv=>whnf
  apply Ah rfl
  (conv=>whnf);repeat' (first  |(refine kA ?_;conv=>whnf)|(refine Br.mk (fun hc=>?_) fun hc=>?_<;>first|exact hc.elim|conv=>whnf)|(refine kB ?_))
  all_goals exact⟨_,m,_,_,rfl,rfl,by omega,by omega⟩
theorem AiP {BP:Obj} {g c len:Nat} {nn cl:Bool} {d:Array GX} {a b:Nat} (hl:d.size=len) (hb:b≤len) (hab:a<b) (hs:len<2^61):
 AA (Ad tab) 296 [.own 1 g 0 len,.int .i64 a,.int .i64 b,.fn 86 []] ⟨[BP,.arr g 8 nn cl (vs GX.av d.toList)],c⟩ fun out s'=>∃c' D,out=.ok (.BL [])∧s'=⟨[BP,.arr g 8 nn cl (vs GX.av D.toList)],c'⟩∧PermIn a b d D:=by
 refine Aj rfl rfl ?_
 (conv=>whnf);repeat' (first  |(refine kA ?_;conv=>whnf)|(refine Br.mk (fun hc=>?_) fun hc=>?_<;>first|exact hc.elim|conv=>whnf)|(refine kB ?_))
 refine Ag (fun m env s=>∃(i c:Nat) (z:Int) (D:Array GX),m=b-i∧a≤i∧i≤b∧z=(a:Int)+b-1-i∧PermIn a b d D∧env=[(0,.own 1 g 0 len),(8,.int .i64 i),(9,.int .i64 z)]∧s=⟨[BP,.arr g 8 nn cl (vs GX.av D.toList)],c⟩) ?_ _ _ _ ⟨a,c,_,d,rfl,by omega,by omega,by omega,permIn_refl _ _ _,rfl,rfl⟩
 rintro _ _ _ ⟨i,c,z,D,rfl,hi,hib,hz,hD,rfl,rfl⟩
 refine⟨rfl,?_⟩
 have hDl:D.size=len:=by rw[hD.1,hl]
 (conv=>whnf);repeat' (first|((with_reducible show Ce _ _ _);refine He (i) ?_;conv=>whnf)|((with_reducible show Ce _ _ _);refine He (a+b-1-i) ?_;conv=>whnf)|((with_reducible show eqK _ _);refine LH BA (i) ?_;conv=>whnf)|((with_reducible show eqK _ _);refine LH BA (a+b-1-i) ?_;conv=>whnf)|(refine kA ?_;conv=>whnf)|(refine Br.mk (fun hc=>?_) fun hc=>?_<;>first|exact hc.elim|conv=>whnf)|(refine kB ?_))
 ·exact again.mk ⟨_,by omega,i+1,_,z-1,swp D i (a+b-1-i),rfl,by omega,by omega,by omega,permIn_trans _ _ _ _ _ hD (swp_permIn _ _ _ _ _ (by omega) (by omega) (by omega) (by omega) (by omega)),rfl,rfl⟩
 ·exact⟨_,D,rfl,rfl,hD⟩
theorem AgY {BP:Obj} {obX:Obj} {g2 c:Nat} {r:Int}:
 AA (Ad tab) 273 [.ref 2 g2 0 0] ⟨[BP,  obX,.arr g2 1 true true [.int .u64 r]],c⟩ fun out s'=>∃c' r',out=.ok (.int .u64 r')∧s'=⟨[BP,  obX,.arr g2 1 true true [.int .u64 r']],c'⟩:=by
 refine Aj rfl rfl ?_
 (conv=>whnf);repeat' (first|(apply BK rfl;conv=>whnf)|(apply CQ rfl;conv=>whnf)|(refine kA ?_;conv=>whnf)|(refine Br.mk (fun hc=>?_) fun hc=>?_<;>first|exact hc.elim|conv=>whnf)|(refine kB ?_))
 exact⟨_,_,rfl,rfl⟩
theorem AkX {r:Int} {M:Nat} (h0:0<M) (h:M<2^63):∃n:Nat,IntKind.u64.wrap ((BitVec.ofInt IntKind.u64.bits r &&& BitVec.ofInt IntKind.u64.bits ((M-1:Nat):Int)).toNat:Int)=n∧n<M:=by
 have e:(BitVec.ofInt IntKind.u64.bits ((M-1:Nat):Int)).toNat=M-1:=by
  rw[BitVec.toNat_ofInt]
  show Int.toNat (((M-1:Nat):Int) % ((2 ^ 64:Nat):Int))=M-1
  omega
 refine⟨(BitVec.ofInt IntKind.u64.bits r &&& BitVec.ofInt IntKind.u64.bits ((M-1:Nat):Int)).toNat,Ab0 rfl (by omega) ?_,?_⟩
 ·rw[BitVec.toNat_and,e]
  have:=@Nat.and_le_right (BitVec.ofInt IntKind.u64.bits r).toNat (M-1)
  show _<(2:Int) ^ 64
  omega
 ·rw[BitVec.toNat_and,e]
  have:=@Nat.and_le_right (BitVec.ofInt IntKind.u64.bits r).toNat (M-1)
  omega
set_option maxHeartbeats 1000000 in
theorem AiQ {BP:Obj} {g c len:Nat} {nn cl:Bool} {d:Array GX} {a b:Nat} (hl:d.size=len) (hb:b≤len) (hab:a+12<b) (hs:len<2^61):
 AA (Ad tab) 294 [.own 1 g 0 len,.int .i64 a,.int .i64 b,.fn 86 []] ⟨[BP,.arr g 8 nn cl (vs GX.av d.toList)],c⟩ fun out s'=>∃c' D ob,out=.ok (.BL [])∧s'=⟨[BP,.arr g 8 nn cl (vs GX.av D.toList),ob],c'⟩∧PermIn a b d D:=by
 refine Aj rfl rfl ?_
 have hq:(b-a) / 4*4≤b-a:=Nat.div_mul_le_self _ _
 have hq2:3≤(b-a) / 4:=by omega
 generalize hL:(b-a) / 4=L at hq hq2
 (conv=>whnf);repeat' (first|(refine SB (b-a) 4 (by omega) (by omega) ?_;rw[hL];conv=>whnf)|(refine wrapN (b-a) rfl (by omega) (by show _<2^64;omega) ?_;conv=>whnf)|(refine kA ?_;conv=>whnf)|(refine Br.mk (fun hc=>?_) fun hc=>?_<;>first|exact hc.elim|conv=>whnf)|(refine kB ?_))
 rw[show ((b:Int)-a)=((b-a:Nat):Int) by omega]
 refine Aa (Aaf (n:=b-a) (by omega) (by omega)) ?_
 rintro _ ⟨M,rfl,hM1,hM2⟩
 (conv=>whnf);repeat' (first|(refine SB (b-a) 4 (by omega) (by omega) ?_;rw[hL];conv=>whnf)|(refine kA ?_;conv=>whnf)|(refine Br.mk (fun hc=>?_) fun hc=>?_<;>first|exact hc.elim|conv=>whnf)|(refine kB ?_))
 refine Ag (fun m env s=>∃(k cc:Nat) (z r:Int) (D:Array GX),m=3-k∧k≤3∧z=(a:Int)+L*2-1+k∧PermIn a b d D∧env=[(0,.own 1 g 0 len),(1,.int .i64 a),(8,.int .i64 (b-a:Nat)),(9,.ref 2 c 0 0),(10,.int .u64 M),(11,.int .i64 z)]∧s=⟨[BP,.arr g 8 nn cl (vs GX.av D.toList),.arr c 1 true true [.int .u64 r]],cc⟩) ?_ _ _ _ ⟨0,_,_,((b-a:Nat):Int),d,rfl,by omega,by omega,permIn_refl _ _ _,rfl,rfl⟩
 rintro _ _ _ ⟨k,c1,z,r,D,rfl,hk,hz,hD,rfl,rfl⟩
 refine⟨rfl,?_⟩
 have hDl:D.size=len:=by rw[hD.1,hl]
 (conv=>whnf);repeat' (first|(refine SB (b-a) 4 (by omega) (by omega) ?_;rw[hL];conv=>whnf)|(refine kA ?_;conv=>whnf)|(refine Br.mk (fun hc=>?_) fun hc=>?_<;>first|exact hc.elim|conv=>whnf)|(refine kB ?_))
 ·refine(AgY).mono ?_
  rintro _ _ ⟨c2,r2,rfl,rfl⟩
  obtain⟨o,ho1,ho2⟩:=AkX (r:=r2) (M:=M) (by omega) (by omega)
  conv=>whnf
  apply Ah rfl
  (conv=>whnf);repeat' (first|(refine wrapN (M-1) rfl (by omega) (by show _<2^64;omega) ?_;conv=>whnf)|(apply BK ho1;conv=>whnf)|(refine CQ (wrap_i64 (by omega) (by omega)) ?_;conv=>whnf)|((with_reducible show Ce _ _ _);refine He (a+(o-(b-a))) ?_;conv=>whnf)|((with_reducible show Ce _ _ _);refine He (a+o) ?_;conv=>whnf)|((with_reducible show Ce _ _ _);refine He (a+L*2-1+k) ?_;conv=>whnf)|((with_reducible show eqK _ _);refine LH BA (a+(o-(b-a))) ?_;conv=>whnf)|((with_reducible show eqK _ _);refine LH BA (a+o) ?_;conv=>whnf)|((with_reducible show eqK _ _);refine LH BA (a+L*2-1+k) ?_;conv=>whnf)|(refine kA ?_;conv=>whnf)|(refine Br.mk (fun hc=>?_) fun hc=>?_<;>first|exact hc.elim|conv=>whnf)|(refine kB ?_))
  ·exact again.mk ⟨_,by omega,k+1,_,_,_,swp D (a+L*2-1+k) (a+(o-(b-a))),rfl,by omega,by omega,permIn_trans _ _ _ _ _ hD (swp_permIn _ _ _ _ _ (by omega) (by omega) (by omega) (by omega) (by omega)),rfl,rfl⟩
  ·exact again.mk ⟨_,by omega,k+1,_,_,_,swp D (a+L*2-1+k) (a+o),rfl,by omega,by omega,permIn_trans _ _ _ _ _ hD (swp_permIn _ _ _ _ _ (by omega) (by omega) (by omega) (by omega) (by omega)),rfl,rfl⟩
 ·exact⟨_,D,_,rfl,rfl,hD⟩
end
end AI
end Go.Proofs.YtceiccjppfapjaaGreatDoor
