/- Sorting numbers in descending order: the order. Sorting in place (CmpFunc[int]): insertion, heaps. Sorting in place (CmpFunc[int]): the pivot, reversing, breaking patterns. -/
import Derived.Test.YthnehejdkajjhaaGreatDoorUMad
set_option linter.unusedVariables false
set_option maxRecDepth 4000
namespace Go.Proofs.YthnehejdkajjhaaGreatDoor
namespace AI
section
open Go.Sort
def DN (x y:Int):Bool:=decide (Dq y x<0)
theorem U1 {x y:Int}:DN x y=true↔y<x:=by unfold DN;rw[decide_eq_true_eq,Oj]
theorem Vz {x y:Int}:DN x y=false↔¬y<x:=by rw[← U1];simp
theorem QT:SWO DN where
 irrefl x:=Vz.2 (by omega)
 trans x y z h1 h2:=U1.2 (by have:=U1.1 h1;have:=U1.1 h2;omega)
 ntrans x y z h1 h2:=Vz.2 (by have:=Vz.1 h1;have:=Vz.1 h2;omega)
theorem AL (x:Int):(AV.int .i64 x).cells.length=1:=rfl
theorem LQ {x y:Int}:Ag (Ac tab) 102 [.int .i64 x,.int .i64 y] (· =.int .i64 (Dq y x)):=by
 refine Ad rfl rfl ?_
 (conv=>whnf);repeat' (first|(refine Aa compare ?_;rintro _ rfl;conv=>whnf)|(refine kA ?_;conv=>whnf)|(refine Br.mk (fun hc=>?_) fun hc=>?_<;>first|exact hc.elim|conv=>whnf)|(refine kB ?_))
 rfl
theorem IL {x y:Int} {A B:Prop} (h1:DN x y=true→A) (h2:DN x y=false→B):Qa (Dq y x<0) A B:=
 ⟨fun h=>h1 (decide_eq_true h),fun h=>h2 (decide_eq_false h)⟩
attribute [irreducible] DN
end
section
open Go.Sort
set_option maxHeartbeats 1000000 in
theorem Aqf {Ap CO:Obj} {g c len:Nat} {nn cl:Bool} {d:Array Int} {a b:Nat} (hl:d.size=len) (hb:b≤len) (hs:len<2^61) (ha:a≤len):
 Am (Ac tab) 234 [.own 2 g 0 len,.int .i64 a,.int .i64 b,.fn 102 []] ⟨[Ap,CO,.arr g 1 nn cl (vs (.int .i64) d.toList)],c⟩ fun out s'=>∃c',out=.ok (.BG [])∧s'=⟨[Ap,CO,.arr g 1 nn cl (vs (.int .i64) (insertionSort DN d a b).toList)],c'⟩:=by
 refine Ah rfl rfl ?_
 (conv=>whnf);repeat' (first  |(refine kA ?_;conv=>whnf)|(refine Br.mk (fun hc=>?_) fun hc=>?_<;>first|exact hc.elim|conv=>whnf)|(refine kB ?_))
 refine Af (fun m env s=>∃(i c:Nat) (D:Array Int),m=b-i∧insOuter DN a b i D=insertionSort DN d a b∧D.size=len∧env=[(0,.own 2 g 0 len),(1,.int .i64 a),(2,.int .i64 b),(3,.fn 102 []),(8,.int .i64 i)]∧s=⟨[Ap,CO,.arr g 1 nn cl (vs (.int .i64) D.toList)],c⟩) ?_ _ _ _ ⟨a+1,c,d,rfl,rfl,hl,rfl,rfl⟩
 rintro _ _ _ ⟨i,c,D,rfl,hD,hDl,rfl,rfl⟩
 refine⟨rfl,?_⟩
 (conv=>whnf);repeat' (first  |(refine kA ?_;conv=>whnf)|(refine Br.mk (fun hc=>?_) fun hc=>?_<;>first|exact hc.elim|conv=>whnf)|(refine kB ?_))
 ·rw[U2 (by omega)]at hD
  refine Af (fun m env s=>∃(j c:Nat) (z:Int) (E:Array Int),m=j∧z=j∧j≤i∧insInner DN a j E=insInner DN a i D∧E.size=len∧env=[(0,.own 2 g 0 len),(1,.int .i64 a),(2,.int .i64 b),(3,.fn 102 []),(8,.int .i64 i),(9,.int .i64 z)]∧s=⟨[Ap,CO,.arr g 1 nn cl (vs (.int .i64) E.toList)],c⟩) ?_ _ _ _ ⟨i,_,_,D,rfl,rfl,by omega,rfl,hDl,rfl,rfl⟩
  rintro j _ _ ⟨_,c,z,E,rfl,hz,hj,hE,hEl,rfl,rfl⟩
  refine⟨rfl,?_⟩
  cases j with
  |zero=>
   (conv=>whnf);repeat' (first  |(refine kA ?_;conv=>whnf)|(refine Br.mk (fun hc=>?_) fun hc=>?_<;>first|exact hc.elim|conv=>whnf)|(refine kB ?_))
   rw[← hE]at hD
   exact again.mk ⟨_,by omega,i+1,_,E,rfl,hD,hEl,rfl,rfl⟩
  |succ j=>
   (conv=>whnf);repeat' (first|((with_reducible show AB _ _ _);refine BM (j+1) ?_;conv=>whnf)|((with_reducible show AB _ _ _);refine BM (j) ?_;conv=>whnf)|(refine Aa LQ ?_;rintro _ rfl;conv=>whnf)|(refine IL (fun hc=>?_) (fun hc=>?_)<;>conv=>whnf)|((with_reducible show eqK _ _);refine Dn AL (j+1) ?_;conv=>whnf)|((with_reducible show eqK _ _);refine Dn AL (j) ?_;conv=>whnf)|(refine kA ?_;conv=>whnf)|(refine Br.mk (fun hc=>?_) fun hc=>?_<;>first|exact hc.elim|conv=>whnf)|(refine kB ?_))
   ·rw[QU (by omega) hc]at hE
    exact again.mk ⟨_,by omega,j,_,_,swp E (j+1) j,rfl,by omega,by omega,hE,by simpa using hEl,rfl,rfl⟩
   ·rw[Jk (fun _=>hc)]at hE
    rw[← hE]at hD
    exact again.mk ⟨_,by omega,i+1,_,E,rfl,hD,hEl,rfl,rfl⟩
   ·rw[Jk (fun h=>absurd h (by omega))]at hE
    rw[← hE]at hD
    exact again.mk ⟨_,by omega,i+1,_,E,rfl,hD,hEl,rfl,rfl⟩
 ·rw[U3 (by omega)]at hD
  exact⟨_,rfl,by rw[hD]⟩
set_option maxHeartbeats 1000000 in
theorem Agq {Ap CO:Obj} {g c len:Nat} {nn cl:Bool} {d:Array Int} {lo hi first:Nat} (hl:d.size=len) (hb:first+hi≤len) (hs:len<2^61) (hlo:lo≤len):
 Am (Ac tab) 269 [.own 2 g 0 len,.int .i64 lo,.int .i64 hi,.int .i64 first,.fn 102 []] ⟨[Ap,CO,.arr g 1 nn cl (vs (.int .i64) d.toList)],c⟩ fun out s'=>∃c',out=.ok (.BG [])∧s'=⟨[Ap,CO,.arr g 1 nn cl (vs (.int .i64) (siftDown DN hi first lo d).toList)],c'⟩:=by
 refine Ah rfl rfl ?_
 (conv=>whnf);repeat' (first  |(refine kA ?_;conv=>whnf)|(refine Br.mk (fun hc=>?_) fun hc=>?_<;>first|exact hc.elim|conv=>whnf)|(refine kB ?_))
 refine Af (fun m env s=>∃(root c:Nat) (z:Int) (D:Array Int),m=hi-root∧z=root∧root≤len∧siftDown DN hi first root D=siftDown DN hi first lo d∧D.size=len∧env=[(0,.own 2 g 0 len),(2,.int .i64 hi),(3,.int .i64 first),(4,.fn 102 []),(10,.int .i64 z)]∧s=⟨[Ap,CO,.arr g 1 nn cl (vs (.int .i64) D.toList)],c⟩) ?_ _ _ _ ⟨lo,c,_,d,rfl,rfl,hlo,rfl,hl,rfl,rfl⟩
 rintro _ _ _ ⟨root,c,z,D,rfl,hz,hr,hD,hDl,rfl,rfl⟩
 refine⟨rfl,?_⟩
 (conv=>whnf);repeat' (first|((with_reducible show AB _ _ _);refine BM (first+root) ?_;conv=>whnf)|((with_reducible show AB _ _ _);refine BM (first+(2*root+1)) ?_;conv=>whnf)|((with_reducible show AB _ _ _);refine BM (first+(2*root+1)+1) ?_;conv=>whnf)|(refine Aa LQ ?_;rintro _ rfl;conv=>whnf)|(refine IL (fun hc=>?_) (fun hc=>?_)<;>conv=>whnf)|((with_reducible show eqK _ _);refine Dn AL (first+root) ?_;conv=>whnf)|((with_reducible show eqK _ _);refine Dn AL (first+(2*root+1)) ?_;conv=>whnf)|((with_reducible show eqK _ _);refine Dn AL (first+(2*root+1)+1) ?_;conv=>whnf)|(refine kA ?_;conv=>whnf)|(refine Br.mk (fun hc=>?_) fun hc=>?_<;>first|exact hc.elim|conv=>whnf)|(refine kB ?_))
 ·rw[Oo (by omega)]at hD
  exact⟨_,rfl,by rw[hD]⟩
 all_goals first
  |(rw [Zj (by omega) (by assumption) hc]at hD
    exact again.mk ⟨_,by omega,2*root+2,_,_,swp D (first+root) (first+(2*root+2)),rfl,by omega,by omega,hD,by simpa using hDl,rfl,rfl⟩)
  |(rw [U4 (by omega) (by assumption) hc]at hD
    exact⟨_,rfl,by rw[hD]⟩)
  |(rw [Oq (by omega) (fun _=>by assumption) hc]at hD
    exact again.mk ⟨_,by omega,2*root+1,_,_,swp D (first+root) (first+(2*root+1)),rfl,by omega,by omega,hD,by simpa using hDl,rfl,rfl⟩)
  |(rw [KR (by omega) (fun _=>by assumption) hc]at hD
    exact⟨_,rfl,by rw[hD]⟩)
  |(rw [Oq (by omega) (fun h=>absurd h (by omega)) hc]at hD
    exact again.mk ⟨_,by omega,2*root+1,_,_,swp D (first+root) (first+(2*root+1)),rfl,by omega,by omega,hD,by simpa using hDl,rfl,rfl⟩)
  |(rw [KR (by omega) (fun h=>absurd h (by omega)) hc]at hD
    exact⟨_,rfl,by rw[hD]⟩)
set_option maxHeartbeats 1000000 in
theorem AjZ {Ap CO:Obj} {g c len:Nat} {nn cl:Bool} {d:Array Int} {a n:Nat} {z:Int} {Q:Aw→Env→Aq→Prop} (hl:d.size=len) (hb:a+n≤len) (hs:len<2^61) (hz:z=(n:Int)-1)
 (hQ:∀c' e,Q (.exit 2) e ⟨[Ap,CO,.arr g 1 nn cl (vs (.int .i64) (heapPop DN a n d).toList)],c'⟩):
 Run (Ac tab) (.loop l235_1_h l235_1_b) [(0,.own 2 g 0 len),(3,.fn 102 []),(8,.int .i64 a),(9,.int .i64 0),(12,.int .i64 z)] ⟨[Ap,CO,.arr g 1 nn cl (vs (.int .i64) d.toList)],c⟩ Q:=by
 refine Af (fun m env s=>∃(k c:Nat) (z:Int) (E:Array Int),m=k∧z=(k:Int)-1∧a+k≤len∧heapPop DN a k E=heapPop DN a n d∧E.size=len∧env=[(0,.own 2 g 0 len),(3,.fn 102 []),(8,.int .i64 a),(9,.int .i64 0),(12,.int .i64 z)]∧s=⟨[Ap,CO,.arr g 1 nn cl (vs (.int .i64) E.toList)],c⟩) ?_ _ _ _ ⟨n,c,_,d,rfl,hz,by omega,rfl,hl,rfl,rfl⟩
 clear hz
 rintro k _ _ ⟨_,c,z,E,rfl,hz,hk,hE,hEl,rfl,rfl⟩
 refine⟨rfl,?_⟩
 cases k with
 |succ k=>
  obtain rfl:z=(k:Nat):=by omega
  (conv=>whnf);repeat' (first|((with_reducible show AB _ _ _);refine BM (a) ?_;conv=>whnf)|((with_reducible show AB _ _ _);refine BM (a+k) ?_;conv=>whnf)|((with_reducible show eqK _ _);refine Dn AL (a) ?_;conv=>whnf)|((with_reducible show eqK _ _);refine Dn AL (a+k) ?_;conv=>whnf)|(refine kA ?_;conv=>whnf)|(refine Br.mk (fun hc=>?_) fun hc=>?_<;>first|exact hc.elim|conv=>whnf)|(refine kB ?_))
  refine(Agq (d:=swp E a (a+k)) (lo:=0) (by simpa using hEl) (by omega) hs (by omega)).mono ?_
  rintro _ _ ⟨c',rfl,rfl⟩
  (conv=>whnf);repeat' (first  |(refine kA ?_;conv=>whnf)|(refine Br.mk (fun hc=>?_) fun hc=>?_<;>first|exact hc.elim|conv=>whnf)|(refine kB ?_))
  rw[heapPop]at hE
  exact again.mk ⟨_,by omega,k,_,(k:Int)-1,_,rfl,by omega,by omega,hE,by simpa using hEl,rfl,rfl⟩
 |zero=>
  rw[← hE]at hQ
  (conv=>whnf);repeat' (first  |(refine kA ?_;conv=>whnf)|(refine Br.mk (fun hc=>?_) fun hc=>?_<;>first|exact hc.elim|conv=>whnf)|(refine kB ?_))
  exact hQ _ _
theorem Anh {Ap CO:Obj} {g c len:Nat} {nn cl:Bool} {d:Array Int} {a b:Nat} (hl:d.size=len) (hb:b≤len) (hs:len<2^61) (hab:a<b):
 Am (Ac tab) 235 [.own 2 g 0 len,.int .i64 a,.int .i64 b,.fn 102 []] ⟨[Ap,CO,.arr g 1 nn cl (vs (.int .i64) d.toList)],c⟩ fun out s'=>∃c',out=.ok (.BG [])∧s'=⟨[Ap,CO,.arr g 1 nn cl (vs (.int .i64) (heapSort DN d a b).toList)],c'⟩:=by
 refine Ah rfl rfl ?_
 (conv=>whnf);repeat' (first|(refine F8 (b-a-1) 2 (by omega) (by omega) ?_;conv=>whnf)|(refine kA ?_;conv=>whnf)|(refine Br.mk (fun hc=>?_) fun hc=>?_<;>first|exact hc.elim|conv=>whnf)|(refine kB ?_))
 refine Af (fun m env s=>∃(k c:Nat) (z:Int) (D:Array Int),m=k∧z=k-1∧k≤len∧heapBuild DN (b-a) a k D=heapBuild DN (b-a) a ((b-a-1) / 2+1) d∧D.size=len∧env=[(0,.own 2 g 0 len),(3,.fn 102 []),(8,.int .i64 a),(9,.int .i64 0),(10,.int .i64 (b-a)),(11,.int .i64 z)]∧s=⟨[Ap,CO,.arr g 1 nn cl (vs (.int .i64) D.toList)],c⟩) ?_ _ _ _ ⟨(b-a-1) / 2+1,c,_,d,rfl,by omega,by omega,rfl,hl,rfl,rfl⟩
 rintro k _ _ ⟨_,c,z,D,rfl,hz,hk,hD,hDl,rfl,rfl⟩
 refine⟨rfl,?_⟩
 cases k with
 |succ k=>
  obtain rfl:z=(k:Nat):=by omega
  (conv=>whnf);repeat' (first  |(refine kA ?_;conv=>whnf)|(refine Br.mk (fun hc=>?_) fun hc=>?_<;>first|exact hc.elim|conv=>whnf)|(refine kB ?_))
  rw[show ((b:Int)-a)=((b-a:Nat):Int) by omega]
  refine(Agq hDl (by omega) hs (by omega)).mono ?_
  rintro _ _ ⟨c',rfl,rfl⟩
  (conv=>whnf);repeat' (first  |(refine kA ?_;conv=>whnf)|(refine Br.mk (fun hc=>?_) fun hc=>?_<;>first|exact hc.elim|conv=>whnf)|(refine kB ?_))
  rw[heapBuild]at hD
  exact again.mk ⟨_,by omega,k,_,(k:Int)-1,_,rfl,by omega,by omega,hD,by simpa using hDl,rfl,rfl⟩
 |zero=>
  have hD:D=_:=hD
  (conv=>whnf);repeat' (first  |(refine kA ?_;conv=>whnf)|(refine Br.mk (fun hc=>?_) fun hc=>?_<;>first|exact hc.elim|conv=>whnf)|(refine kB ?_))
  refine AjZ hDl (n:=b-a) (by omega) hs (by omega) (fun c' e=>?_)
  (conv=>whnf);repeat' (first  |(refine kA ?_;conv=>whnf)|(refine Br.mk (fun hc=>?_) fun hc=>?_<;>first|exact hc.elim|conv=>whnf)|(refine kB ?_))
  exact⟨_,rfl,by rw[hD];rfl⟩
end
section
open Go.Sort
theorem Agk {Ap CO:Obj} {g g2 c len:Nat} {nn cl:Bool} {d:Array Int} {a b n:Nat} (hl:d.size=len) (ha:a<len) (hb:b<len) (hs:len<2^61) (hn:n<100):
 Am (Ac tab) 286 [.own 2 g 0 len,.int .i64 a,.int .i64 b,.ref 3 g2 0 0,.fn 102 []] ⟨[Ap,CO,.arr g 1 nn cl (vs (.int .i64) d.toList),.arr g2 1 true true [.int .i64 n]],c⟩ fun out s'=>∃(c' x y n':Nat),out=.ok (.BG [.int .i64 x,.int .i64 y])∧s'=⟨[Ap,CO,.arr g 1 nn cl (vs (.int .i64) d.toList),.arr g2 1 true true [.int .i64 n']],c'⟩∧n'≤n+1∧(x=a∧y=b∨x=b∧y=a):=by
 refine Ah rfl rfl ?_
 (conv=>whnf);repeat' (first|((with_reducible show AB _ _ _);refine BM (a) ?_;conv=>whnf)|((with_reducible show AB _ _ _);refine BM (b) ?_;conv=>whnf)|(refine Aa LQ ?_;rintro _ rfl;conv=>whnf)|(refine IL (fun hc=>?_) (fun hc=>?_)<;>conv=>whnf)|(refine kA ?_;conv=>whnf)|(refine Br.mk (fun hc=>?_) fun hc=>?_<;>first|exact hc.elim|conv=>whnf)|(refine kB ?_))
 ·exact⟨_,b,a,n+1,rfl,rfl,by omega,Or.inr ⟨rfl,rfl⟩⟩
 ·exact⟨_,a,b,n,rfl,rfl,by omega,Or.inl ⟨rfl,rfl⟩⟩
theorem Agl {Ap CO:Obj} {g g2 c len:Nat} {nn cl:Bool} {d:Array Int} {a b e n:Nat} (hl:d.size=len) (ha:a<len) (hb:b<len) (he:e<len) (hs:len<2^61) (hn:n<90):
 Am (Ac tab) 271 [.own 2 g 0 len,.int .i64 a,.int .i64 b,.int .i64 e,.ref 3 g2 0 0,.fn 102 []] ⟨[Ap,CO,.arr g 1 nn cl (vs (.int .i64) d.toList),.arr g2 1 true true [.int .i64 n]],c⟩ fun out s'=>∃(c' m n':Nat),out=.ok (.int .i64 m)∧s'=⟨[Ap,CO,.arr g 1 nn cl (vs (.int .i64) d.toList),.arr g2 1 true true [.int .i64 n']],c'⟩∧n'≤n+3∧(m=a∨m=b∨m=e):=by
 refine Ah rfl rfl ?_
 (conv=>whnf);repeat' (first  |(refine kA ?_;conv=>whnf)|(refine Br.mk (fun hc=>?_) fun hc=>?_<;>first|exact hc.elim|conv=>whnf)|(refine kB ?_))
 refine(Agk hl ha hb hs (by omega)).mono ?_
 rintro _ _ ⟨c1,x1,y1,n1,rfl,rfl,h1,e1⟩
 conv=>whnf
 apply Ae rfl
 (conv=>whnf);repeat' (first  |(refine kA ?_;conv=>whnf)|(refine Br.mk (fun hc=>?_) fun hc=>?_<;>first|exact hc.elim|conv=>whnf)|(refine kB ?_))
 refine(Agk (a:=y1) (b:=e) hl (by omega) he hs (by omega)).mono ?_
 rintro _ _ ⟨c2,x2,y2,n2,rfl,rfl,h2,e2⟩
 conv=>whnf
 apply Ae rfl
 (conv=>whnf);repeat' (first  |(refine kA ?_;conv=>whnf)|(refine Br.mk (fun hc=>?_) fun hc=>?_<;>first|exact hc.elim|conv=>whnf)|(refine kB ?_))
 refine(Agk (a:=x1) (b:=x2) hl (by omega) (by omega) hs (by omega)).mono ?_
 rintro _ _ ⟨c3,x3,y3,n3,rfl,rfl,h3,e3⟩
 conv=>whnf
 apply Ae rfl
 (conv=>whnf);repeat' (first  |(refine kA ?_;conv=>whnf)|(refine Br.mk (fun hc=>?_) fun hc=>?_<;>first|exact hc.elim|conv=>whnf)|(refine kB ?_))
 exact⟨_,y3,n3,rfl,rfl,by omega,by omega⟩
theorem Agm {Ap CO:Obj} {g g2 c len:Nat} {nn cl:Bool} {d:Array Int} {a n:Nat} (hl:d.size=len) (ha:a+1<len) (h0:0<a) (hs:len<2^61) (hn:n<90):
 Am (Ac tab) 270 [.own 2 g 0 len,.int .i64 a,.ref 3 g2 0 0,.fn 102 []] ⟨[Ap,CO,.arr g 1 nn cl (vs (.int .i64) d.toList),.arr g2 1 true true [.int .i64 n]],c⟩ fun out s'=>∃(c' m n':Nat),out=.ok (.int .i64 m)∧s'=⟨[Ap,CO,.arr g 1 nn cl (vs (.int .i64) d.toList),.arr g2 1 true true [.int .i64 n']],c'⟩∧n'≤n+3∧a≤m+1∧m≤a+1:=by
 refine Ah rfl rfl ?_
 (conv=>whnf);repeat' (first  |(refine kA ?_;conv=>whnf)|(refine Br.mk (fun hc=>?_) fun hc=>?_<;>first|exact hc.elim|conv=>whnf)|(refine kB ?_))
 rw[show ((a:Int)-1)=((a-1:Nat):Int) by omega]
 refine(Agl (a:=a-1) (b:=a) (e:=a+1) hl (by omega) (by omega) ha hs hn).mono ?_
 rintro _ _ ⟨c',m,n',rfl,rfl,h1,h2⟩
 conv=>whnf
 apply Ae rfl
 (conv=>whnf);repeat' (first  |(refine kA ?_;conv=>whnf)|(refine Br.mk (fun hc=>?_) fun hc=>?_<;>first|exact hc.elim|conv=>whnf)|(refine kB ?_))
 exact⟨_,m,n',rfl,rfl,h1,by omega,by omega⟩
set_option maxHeartbeats 1000000 in
theorem Aqb {Ap CO:Obj} {g c len:Nat} {nn cl:Bool} {d:Array Int} {a b:Nat} (hl:d.size=len) (hb:b≤len) (hab:a+12<b) (hs:len<2^61):
 Am (Ac tab) 237 [.own 2 g 0 len,.int .i64 a,.int .i64 b,.fn 102 []] ⟨[Ap,CO,.arr g 1 nn cl (vs (.int .i64) d.toList)],c⟩ fun out s'=>∃(c' p:Nat) (h:Int) (ob:Obj),out=.ok (.BG [.int .i64 p,.int .i64 h])∧s'=⟨[Ap,CO,.arr g 1 nn cl (vs (.int .i64) d.toList),ob],c'⟩∧a≤p∧p<b:=by
 refine Ah rfl rfl ?_
 have hq:(b-a) / 4*4≤b-a:=Nat.div_mul_le_self _ _
 have hq2:3≤(b-a) / 4:=by omega
 generalize hL:(b-a) / 4=L at hq hq2
 (conv=>whnf);repeat' (first|(refine F8 (b-a) 4 (by omega) (by omega) ?_;rw[hL];conv=>whnf)|(refine kA ?_;conv=>whnf)|(refine Br.mk (fun hc=>?_) fun hc=>?_<;>first|exact hc.elim|conv=>whnf)|(refine kB ?_))
 ·refine(Agm (g2:=c) (n:=0) (a:=a+L*1) hl (by omega) (by omega) hs (by omega)).mono ?_
  rintro _ _ ⟨c1,i,n1,rfl,rfl,h1,i1,i2⟩
  conv=>whnf
  apply Ae rfl
  (conv=>whnf);repeat' (first  |(refine kA ?_;conv=>whnf)|(refine Br.mk (fun hc=>?_) fun hc=>?_<;>first|exact hc.elim|conv=>whnf)|(refine kB ?_))
  refine(Agm (g2:=c) (a:=a+L*2) hl (by omega) (by omega) hs (by omega)).mono ?_
  rintro _ _ ⟨c2,j,n2,rfl,rfl,h2,j1,j2⟩
  conv=>whnf
  apply Ae rfl
  (conv=>whnf);repeat' (first  |(refine kA ?_;conv=>whnf)|(refine Br.mk (fun hc=>?_) fun hc=>?_<;>first|exact hc.elim|conv=>whnf)|(refine kB ?_))
  refine(Agm (g2:=c) (a:=a+L*3) hl (by omega) (by omega) hs (by omega)).mono ?_
  rintro _ _ ⟨c3,k,n3,rfl,rfl,h3,k1,k2⟩
  conv=>whnf
  apply Ae rfl
  (conv=>whnf);repeat' (first  |(refine kA ?_;conv=>whnf)|(refine Br.mk (fun hc=>?_) fun hc=>?_<;>first|exact hc.elim|conv=>whnf)|(refine kB ?_))
  refine(Agl (g2:=c) (a:=i) (b:=j) (e:=k) hl (by omega) (by omega) (by omega) hs (by omega)).mono ?_
  rintro _ _ ⟨c4,m,n4,rfl,rfl,h4,h5⟩
  conv=>whnf
  apply Ae rfl
  (conv=>whnf);repeat' (first  |(refine kA ?_;conv=>whnf)|(refine Br.mk (fun hc=>?_) fun hc=>?_<;>first|exact hc.elim|conv=>whnf)|(refine kB ?_))
  all_goals exact⟨_,m,_,_,rfl,rfl,by omega,by omega⟩
 ·refine(Agl (g2:=c) (n:=0) (a:=a+L*1) (b:=a+L*2) (e:=a+L*3) hl (by omega) (by omega) (by omega) hs (by omega)).mono ?_
  rintro _ _ ⟨c4,m,n4,rfl,rfl,h4,h5⟩
  conv=>whnf
  apply Ae rfl
  (conv=>whnf);repeat' (first  |(refine kA ?_;conv=>whnf)|(refine Br.mk (fun hc=>?_) fun hc=>?_<;>first|exact hc.elim|conv=>whnf)|(refine kB ?_))
  all_goals exact⟨_,m,_,_,rfl,rfl,by omega,by omega⟩
theorem Aqc {Ap CO:Obj} {g c len:Nat} {nn cl:Bool} {d:Array Int} {a b:Nat} (hl:d.size=len) (hb:b≤len) (hab:a<b) (hs:len<2^61):
 Am (Ac tab) 238 [.own 2 g 0 len,.int .i64 a,.int .i64 b,.fn 102 []] ⟨[Ap,CO,.arr g 1 nn cl (vs (.int .i64) d.toList)],c⟩ fun out s'=>∃c' D,out=.ok (.BG [])∧s'=⟨[Ap,CO,.arr g 1 nn cl (vs (.int .i64) D.toList)],c'⟩∧PermIn a b d D:=by
 refine Ah rfl rfl ?_
 (conv=>whnf);repeat' (first  |(refine kA ?_;conv=>whnf)|(refine Br.mk (fun hc=>?_) fun hc=>?_<;>first|exact hc.elim|conv=>whnf)|(refine kB ?_))
 refine Af (fun m env s=>∃(i c:Nat) (z:Int) (D:Array Int),m=b-i∧a≤i∧i≤b∧z=(a:Int)+b-1-i∧PermIn a b d D∧env=[(0,.own 2 g 0 len),(8,.int .i64 i),(9,.int .i64 z)]∧s=⟨[Ap,CO,.arr g 1 nn cl (vs (.int .i64) D.toList)],c⟩) ?_ _ _ _ ⟨a,c,_,d,rfl,by omega,by omega,by omega,permIn_refl _ _ _,rfl,rfl⟩
 rintro _ _ _ ⟨i,c,z,D,rfl,hi,hib,hz,hD,rfl,rfl⟩
 refine⟨rfl,?_⟩
 have hDl:D.size=len:=by rw[hD.1,hl]
 (conv=>whnf);repeat' (first|((with_reducible show AB _ _ _);refine BM (i) ?_;conv=>whnf)|((with_reducible show AB _ _ _);refine BM (a+b-1-i) ?_;conv=>whnf)|((with_reducible show eqK _ _);refine Dn AL (i) ?_;conv=>whnf)|((with_reducible show eqK _ _);refine Dn AL (a+b-1-i) ?_;conv=>whnf)|(refine kA ?_;conv=>whnf)|(refine Br.mk (fun hc=>?_) fun hc=>?_<;>first|exact hc.elim|conv=>whnf)|(refine kB ?_))
 ·exact again.mk ⟨_,by omega,i+1,_,z-1,swp D i (a+b-1-i),rfl,by omega,by omega,by omega,permIn_trans _ _ _ _ _ hD (swp_permIn _ _ _ _ _ (by omega) (by omega) (by omega) (by omega) (by omega)),rfl,rfl⟩
 ·exact⟨_,D,rfl,rfl,hD⟩
theorem Ang {Ap CO:Obj} {obX:Obj} {g2 c:Nat} {r:Int}:
 Am (Ac tab) 223 [.ref 3 g2 0 0] ⟨[Ap,CO,  obX,.arr g2 1 true true [.int .u64 r]],c⟩ fun out s'=>∃c' r',out=.ok (.int .u64 r')∧s'=⟨[Ap,CO,  obX,.arr g2 1 true true [.int .u64 r']],c'⟩:=by
 refine Ah rfl rfl ?_
 (conv=>whnf);repeat' (first|(apply BK rfl;conv=>whnf)|(apply BI rfl;conv=>whnf)|(refine kA ?_;conv=>whnf)|(refine Br.mk (fun hc=>?_) fun hc=>?_<;>first|exact hc.elim|conv=>whnf)|(refine kB ?_))
 exact⟨_,_,rfl,rfl⟩
theorem Aqd {r:Int} {M:Nat} (h0:0<M) (h:M<2^63):∃n:Nat,IntKind.u64.wrap ((BitVec.ofInt IntKind.u64.bits r &&& BitVec.ofInt IntKind.u64.bits ((M-1:Nat):Int)).toNat:Int)=n∧n<M:=by
 have e:(BitVec.ofInt IntKind.u64.bits ((M-1:Nat):Int)).toNat=M-1:=by
  rw[BitVec.toNat_ofInt]
  show Int.toNat (((M-1:Nat):Int) % ((2 ^ 64:Nat):Int))=M-1
  omega
 refine⟨(BitVec.ofInt IntKind.u64.bits r &&& BitVec.ofInt IntKind.u64.bits ((M-1:Nat):Int)).toNat,VD rfl (by omega) ?_,?_⟩
 ·rw[BitVec.toNat_and,e]
  have:=@Nat.and_le_right (BitVec.ofInt IntKind.u64.bits r).toNat (M-1)
  show _<(2:Int) ^ 64
  omega
 ·rw[BitVec.toNat_and,e]
  have:=@Nat.and_le_right (BitVec.ofInt IntKind.u64.bits r).toNat (M-1)
  omega
set_option maxHeartbeats 1000000 in
theorem Aqe {Ap CO:Obj} {g c len:Nat} {nn cl:Bool} {d:Array Int} {a b:Nat} (hl:d.size=len) (hb:b≤len) (hab:a+12<b) (hs:len<2^61):
 Am (Ac tab) 236 [.own 2 g 0 len,.int .i64 a,.int .i64 b,.fn 102 []] ⟨[Ap,CO,.arr g 1 nn cl (vs (.int .i64) d.toList)],c⟩ fun out s'=>∃c' D ob,out=.ok (.BG [])∧s'=⟨[Ap,CO,.arr g 1 nn cl (vs (.int .i64) D.toList),ob],c'⟩∧PermIn a b d D:=by
 refine Ah rfl rfl ?_
 have hq:(b-a) / 4*4≤b-a:=Nat.div_mul_le_self _ _
 have hq2:3≤(b-a) / 4:=by omega
 generalize hL:(b-a) / 4=L at hq hq2
 (conv=>whnf);repeat' (first|(refine F8 (b-a) 4 (by omega) (by omega) ?_;rw[hL];conv=>whnf)|(refine wrapN (b-a) rfl (by omega) (by show _<2^64;omega) ?_;conv=>whnf)|(refine kA ?_;conv=>whnf)|(refine Br.mk (fun hc=>?_) fun hc=>?_<;>first|exact hc.elim|conv=>whnf)|(refine kB ?_))
 rw[show ((b:Int)-a)=((b-a:Nat):Int) by omega]
 refine Aa (O9 (n:=b-a) (by omega) (by omega)) ?_
 rintro _ ⟨M,rfl,hM1,hM2⟩
 (conv=>whnf);repeat' (first|(refine F8 (b-a) 4 (by omega) (by omega) ?_;rw[hL];conv=>whnf)|(refine kA ?_;conv=>whnf)|(refine Br.mk (fun hc=>?_) fun hc=>?_<;>first|exact hc.elim|conv=>whnf)|(refine kB ?_))
 refine Af (fun m env s=>∃(k cc:Nat) (z r:Int) (D:Array Int),m=3-k∧k≤3∧z=(a:Int)+L*2-1+k∧PermIn a b d D∧env=[(0,.own 2 g 0 len),(1,.int .i64 a),(8,.int .i64 (b-a:Nat)),(9,.ref 3 c 0 0),(10,.int .u64 M),(11,.int .i64 z)]∧s=⟨[Ap,CO,.arr g 1 nn cl (vs (.int .i64) D.toList),.arr c 1 true true [.int .u64 r]],cc⟩) ?_ _ _ _ ⟨0,_,_,((b-a:Nat):Int),d,rfl,by omega,by omega,permIn_refl _ _ _,rfl,rfl⟩
 rintro _ _ _ ⟨k,c1,z,r,D,rfl,hk,hz,hD,rfl,rfl⟩
 refine⟨rfl,?_⟩
 have hDl:D.size=len:=by rw[hD.1,hl]
 (conv=>whnf);repeat' (first|(refine F8 (b-a) 4 (by omega) (by omega) ?_;rw[hL];conv=>whnf)|(refine kA ?_;conv=>whnf)|(refine Br.mk (fun hc=>?_) fun hc=>?_<;>first|exact hc.elim|conv=>whnf)|(refine kB ?_))
 ·refine(Ang).mono ?_
  rintro _ _ ⟨c2,r2,rfl,rfl⟩
  obtain⟨o,ho1,ho2⟩:=Aqd (r:=r2) (M:=M) (by omega) (by omega)
  conv=>whnf
  apply Ae rfl
  (conv=>whnf);repeat' (first|(refine wrapN (M-1) rfl (by omega) (by show _<2^64;omega) ?_;conv=>whnf)|(apply BK ho1;conv=>whnf)|(refine BI (wrap_i64 (by omega) (by omega)) ?_;conv=>whnf)|((with_reducible show AB _ _ _);refine BM (a+(o-(b-a))) ?_;conv=>whnf)|((with_reducible show AB _ _ _);refine BM (a+o) ?_;conv=>whnf)|((with_reducible show AB _ _ _);refine BM (a+L*2-1+k) ?_;conv=>whnf)|((with_reducible show eqK _ _);refine Dn AL (a+(o-(b-a))) ?_;conv=>whnf)|((with_reducible show eqK _ _);refine Dn AL (a+o) ?_;conv=>whnf)|((with_reducible show eqK _ _);refine Dn AL (a+L*2-1+k) ?_;conv=>whnf)|(refine kA ?_;conv=>whnf)|(refine Br.mk (fun hc=>?_) fun hc=>?_<;>first|exact hc.elim|conv=>whnf)|(refine kB ?_))
  ·exact again.mk ⟨_,by omega,k+1,_,_,_,swp D (a+L*2-1+k) (a+(o-(b-a))),rfl,by omega,by omega,permIn_trans _ _ _ _ _ hD (swp_permIn _ _ _ _ _ (by omega) (by omega) (by omega) (by omega) (by omega)),rfl,rfl⟩
  ·exact again.mk ⟨_,by omega,k+1,_,_,_,swp D (a+L*2-1+k) (a+o),rfl,by omega,by omega,permIn_trans _ _ _ _ _ hD (swp_permIn _ _ _ _ _ (by omega) (by omega) (by omega) (by omega) (by omega)),rfl,rfl⟩
 ·exact⟨_,D,_,rfl,rfl,hD⟩
end
end AI
end Go.Proofs.YthnehejdkajjhaaGreatDoor
