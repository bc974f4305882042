/- Sorting in place (CmpFunc[graphdb/api.Entry]): sorted or nearly so; the partitions. -/
import Derived.Test.YtceiccjppfapjaaGreatDoorXMai
import Derived.Test.YtceiccjppfapjaaGreatDoorXMaf
set_option linter.unusedVariables false
set_option maxRecDepth 4000
namespace Go.Proofs.YtceiccjppfapjaaGreatDoor
namespace AI
open Go.Sort
theorem Ada {BP:Obj} {g c len:Nat} {nn cl:Bool} {d:Array GX} {a b i:Nat} {z:Int} {Q:AU→Env→Am→Prop} (hl:d.size=len) (hb:b≤len) (hs:len<2^61) (hi:0<i) (hib:i≤b)
 (hQ:∀c' k tl,k=scanSorted BR d b i→i≤k→k≤b→Q (.exit 2) ([(0,.own 1 g 0 len),(1,.int .i64 a),(2,.int .i64 b),(3,.fn 86 []),(9,.int .i64 k),(10,.int .i64 z)]++tl) ⟨[BP,.arr g 8 nn cl (vs GX.av d.toList)],c'⟩):
 Run (Ad tab) (.loop l297_0_h l297_0_b) [(0,.own 1 g 0 len),(1,.int .i64 a),(2,.int .i64 b),(3,.fn 86 []),(9,.int .i64 i),(10,.int .i64 z)] ⟨[BP,.arr g 8 nn cl (vs GX.av d.toList)],c⟩ Q:=by
 refine Ag (fun m env s=>∃(k c:Nat),m=b-k∧i≤k∧k≤b∧scanSorted BR d b k=scanSorted BR d b i∧env=[(0,.own 1 g 0 len),(1,.int .i64 a),(2,.int .i64 b),(3,.fn 86 []),(9,.int .i64 k),(10,.int .i64 z)]∧s=⟨[BP,.arr g 8 nn cl (vs GX.av d.toList)],c⟩) ?_ _ _ _ ⟨i,c,rfl,by omega,hib,rfl,rfl,rfl⟩
 rintro _ _ _ ⟨k,c,rfl,hik,hkb,hk,rfl,rfl⟩
 refine⟨rfl,?_⟩
 (conv=>whnf);repeat' (first|((with_reducible show Ce _ _ _);refine He (k) ?_;conv=>whnf)|((with_reducible show Ce _ _ _);refine He (k-1) ?_;conv=>whnf)|(refine Aa Eu ?_;rintro _ rfl;conv=>whnf)|(refine F5 (fun hc=>?_) (fun hc=>?_)<;>conv=>whnf)|(refine kA ?_;conv=>whnf)|(refine Br.mk (fun hc=>?_) fun hc=>?_<;>first|exact hc.elim|conv=>whnf)|(refine kB ?_))
 all_goals first
  |(rw [Ab1 (by omega) hc]at hk
    exact again.mk ⟨_,by omega,k+1,_,rfl,by omega,by omega,hk,rfl,rfl⟩)
  |(rw [QX (fun _=>hc)]at hk
    exact hQ _ _ _ hk hik hkb)
  |(rw [QX (fun h=>absurd h (by omega))]at hk
    exact hQ _ _ _ hk hik hkb)
theorem Adb {BP:Obj} {g c len:Nat} {nn cl:Bool} {d:Array GX} {a b i j:Nat} {z y:Int} {Q:AU→Env→Am→Prop} (hl:d.size=len) (hs:len<2^61) (hj:j<len) (hy:y=j)
 (hQ:∀c' tl,Q (.exit 4) ([(0,.own 1 g 0 len),(1,.int .i64 a),(2,.int .i64 b),(3,.fn 86 []),(9,.int .i64 i),(10,.int .i64 z)]++tl) ⟨[BP,.arr g 8 nn cl (vs GX.av (shiftDown BR j d).toList)],c'⟩):
 Run (Ad tab) (.loop l297_1_h l297_1_b) [(0,.own 1 g 0 len),(1,.int .i64 a),(2,.int .i64 b),(3,.fn 86 []),(9,.int .i64 i),(10,.int .i64 z),(11,.int .i64 y)] ⟨[BP,.arr g 8 nn cl (vs GX.av d.toList)],c⟩ Q:=by
 refine Ag (fun m env s=>∃(k c:Nat) (y:Int) (D:Array GX),m=k∧y=k∧k≤j∧D.size=len∧shiftDown BR k D=shiftDown BR j d∧env=[(0,.own 1 g 0 len),(1,.int .i64 a),(2,.int .i64 b),(3,.fn 86 []),(9,.int .i64 i),(10,.int .i64 z),(11,.int .i64 y)]∧s=⟨[BP,.arr g 8 nn cl (vs GX.av D.toList)],c⟩) ?_ _ _ _ ⟨j,c,y,d,rfl,hy,by omega,hl,rfl,rfl,rfl⟩
 clear hy
 rintro k _ _ ⟨_,c,y,D,rfl,hy,hkj,hD,hk,rfl,rfl⟩
 refine⟨rfl,?_⟩
 cases k with
 |zero=>
  rw[← hk]at hQ
  (conv=>whnf);repeat' (first  |(refine kA ?_;conv=>whnf)|(refine Br.mk (fun hc=>?_) fun hc=>?_<;>first|exact hc.elim|conv=>whnf)|(refine kB ?_))
  exact hQ _ _
 |succ k=>
  (conv=>whnf);repeat' (first|((with_reducible show Ce _ _ _);refine He (k+1) ?_;conv=>whnf)|((with_reducible show Ce _ _ _);refine He (k) ?_;conv=>whnf)|(refine Aa Eu ?_;rintro _ rfl;conv=>whnf)|(refine F5 (fun hc=>?_) (fun hc=>?_)<;>conv=>whnf)|((with_reducible show eqK _ _);refine LH BA (k+1) ?_;conv=>whnf)|((with_reducible show eqK _ _);refine LH BA (k) ?_;conv=>whnf)|(refine kA ?_;conv=>whnf)|(refine Br.mk (fun hc=>?_) fun hc=>?_<;>first|exact hc.elim|conv=>whnf)|(refine kB ?_))
  ·rw[Agy hc]at hk
   exact again.mk ⟨_,by omega,k,_,y-1,swp D (k+1) k,rfl,by omega,by omega,by simpa using hD,hk,rfl,rfl⟩
  ·rw[Ab2 hc]at hk
   rw[← hk]at hQ
   exact hQ _ _
theorem Adc {BP:Obj} {g c len:Nat} {nn cl:Bool} {d:Array GX} {a b i j:Nat} {z:Int} {Q:AU→Env→Am→Prop} (hl:d.size=len) (hs:len<2^61) (hj:0<j) (hb:b≤len)
 (hQ:∀c' tl,Q (.exit 6) ([(0,.own 1 g 0 len),(1,.int .i64 a),(2,.int .i64 b),(3,.fn 86 []),(9,.int .i64 i),(10,.int .i64 z)]++tl) ⟨[BP,.arr g 8 nn cl (vs GX.av (shiftUp BR b j d).toList)],c'⟩):
 Run (Ad tab) (.loop l297_2_h l297_2_b) [(0,.own 1 g 0 len),(1,.int .i64 a),(2,.int .i64 b),(3,.fn 86 []),(9,.int .i64 i),(10,.int .i64 z),(12,.int .i64 j)] ⟨[BP,.arr g 8 nn cl (vs GX.av d.toList)],c⟩ Q:=by
 refine Ag (fun m env s=>∃(k c:Nat) (D:Array GX),m=b-k∧j≤k∧D.size=len∧shiftUp BR b k D=shiftUp BR b j d∧env=[(0,.own 1 g 0 len),(1,.int .i64 a),(2,.int .i64 b),(3,.fn 86 []),(9,.int .i64 i),(10,.int .i64 z),(12,.int .i64 k)]∧s=⟨[BP,.arr g 8 nn cl (vs GX.av D.toList)],c⟩) ?_ _ _ _ ⟨j,c,d,rfl,by omega,hl,rfl,rfl,rfl⟩
 rintro _ _ _ ⟨k,c,D,rfl,hjk,hD,hk,rfl,rfl⟩
 refine⟨rfl,?_⟩
 (conv=>whnf);repeat' (first|((with_reducible show Ce _ _ _);refine He (k) ?_;conv=>whnf)|((with_reducible show Ce _ _ _);refine He (k-1) ?_;conv=>whnf)|(refine Aa Eu ?_;rintro _ rfl;conv=>whnf)|(refine F5 (fun hc=>?_) (fun hc=>?_)<;>conv=>whnf)|((with_reducible show eqK _ _);refine LH BA (k) ?_;conv=>whnf)|((with_reducible show eqK _ _);refine LH BA (k-1) ?_;conv=>whnf)|(refine kA ?_;conv=>whnf)|(refine Br.mk (fun hc=>?_) fun hc=>?_<;>first|exact hc.elim|conv=>whnf)|(refine kB ?_))
 ·rw[Agz (by omega) hc]at hk
  exact again.mk ⟨_,by omega,k+1,_,swp D k (k-1),rfl,by omega,by simpa using hD,hk,rfl,rfl⟩
 ·rw[V8 (fun _=>hc)]at hk
  rw[← hk]at hQ
  exact hQ _ _
 ·rw[V8 (fun h=>absurd h (by omega))]at hk
  rw[← hk]at hQ
  exact hQ _ _
set_option maxHeartbeats 2000000 in
theorem Ahg {BP:Obj} {g c len:Nat} {nn cl:Bool} {d:Array GX} {a b:Nat} (hl:d.size=len) (hb:b≤len) (hab:a<b) (hs:len<2^61):
 AA (Ad tab) 297 [.own 1 g 0 len,.int .i64 a,.int .i64 b,.fn 86 []] ⟨[BP,.arr g 8 nn cl (vs GX.av d.toList)],c⟩ fun out s'=>∃c',out=.ok (.bool (partialInsertionSort BR d a b).2)∧s'=⟨[BP,.arr g 8 nn cl (vs GX.av (partialInsertionSort BR d a b).1.toList)],c'⟩:=by
 refine Aj rfl rfl ?_
 (conv=>whnf);repeat' (first  |(refine kA ?_;conv=>whnf)|(refine Br.mk (fun hc=>?_) fun hc=>?_<;>first|exact hc.elim|conv=>whnf)|(refine kB ?_))
 refine Ag (fun m env s=>∃(k i c:Nat) (z:Int) (D:Array GX),m=k∧z=5-k∧k≤5∧a<i∧i≤b∧D.size=len∧partialIns BR a b k i D=partialInsertionSort BR d a b∧env=[(0,.own 1 g 0 len),(1,.int .i64 a),(2,.int .i64 b),(3,.fn 86 []),(9,.int .i64 i),(10,.int .i64 z)]∧s=⟨[BP,.arr g 8 nn cl (vs GX.av D.toList)],c⟩) ?_ _ _ _ ⟨5,a+1,c,0,d,rfl,by omega,by omega,by omega,by omega,hl,rfl,rfl,rfl⟩
 rintro k _ _ ⟨_,i,c,z,D,rfl,hz,hk5,hai,hib,hD,hk,rfl,rfl⟩
 refine⟨rfl,?_⟩
 cases k with
 |zero=>
  rw[← hk]
  (conv=>whnf);repeat' (first  |(refine kA ?_;conv=>whnf)|(refine Br.mk (fun hc=>?_) fun hc=>?_<;>first|exact hc.elim|conv=>whnf)|(refine kB ?_))
  exact⟨_,rfl,rfl⟩
 |succ k=>
  rw[partialIns_succ]at hk
  (conv=>whnf);repeat' (first  |(refine kA ?_;conv=>whnf)|(refine Br.mk (fun hc=>?_) fun hc=>?_<;>first|exact hc.elim|conv=>whnf)|(refine kB ?_))
  refine Ada hD hb hs (by omega) hib ?_
  intro c1 j tl hj hij hjb
  rw[← hj]at hk
  have hend:∀(c:Nat) (E:Array GX) (z':Int),z'=5-(k:Int)→E.size=len→E=fixUp BR b j (fixDown BR a j (swp D j (j-1)))→¬j=b→¬b-a<50→again (fun m env s=>∃(k i c:Nat) (z:Int) (D:Array GX),m=k∧z=5-k∧k≤5∧a<i∧i≤b∧D.size=len∧partialIns BR a b k i D=partialInsertionSort BR d a b∧env=[(0,.own 1 g 0 len),(1,.int .i64 a),(2,.int .i64 b),(3,.fn 86 []),(9,.int .i64 i),(10,.int .i64 z)]∧s=⟨[BP,.arr g 8 nn cl (vs GX.av D.toList)],c⟩) (k+1) [(0,.own 1 g 0 len),(1,.int .i64 a),(2,.int .i64 b),(3,.fn 86 []),(9,.int .i64 j),(10,.int .i64 z')] ⟨[BP,.arr g 8 nn cl (vs GX.av E.toList)],c⟩:=by
   intro c E z' hz' hE hE2 h1 h2
   rw[if_neg h1,if_neg h2]at hk
   refine again.mk ⟨_,by omega,k,j,c,z',E,rfl,hz',by omega,by omega,by omega,hE,?_,rfl,rfl⟩
   rw[hE2];exact hk
  (conv=>whnf);repeat' (first|((with_reducible show Ce _ _ _);refine He (j) ?_;conv=>whnf)|((with_reducible show Ce _ _ _);refine He (j-1) ?_;conv=>whnf)|((with_reducible show eqK _ _);refine LH BA (j) ?_;conv=>whnf)|((with_reducible show eqK _ _);refine LH BA (j-1) ?_;conv=>whnf)|(refine kA ?_;conv=>whnf)|(refine Br.mk (fun hc=>?_) fun hc=>?_<;>first|exact hc.elim|conv=>whnf)|(refine kB ?_))
  ·rw[if_pos (by omega)]at hk
   rw[← hk]
   exact⟨_,rfl,rfl⟩
  ·rw[if_neg (by omega),if_pos (by omega)]at hk
   rw[← hk]
   exact⟨_,rfl,rfl⟩
  ·refine Adb (d:=swp D j (j-1)) (j:=j-1) (by simpa using hD) hs (by omega) (by omega) ?_
   intro c2 tl2
   (conv=>whnf);repeat' (first  |(refine kA ?_;conv=>whnf)|(refine Br.mk (fun hc=>?_) fun hc=>?_<;>first|exact hc.elim|conv=>whnf)|(refine kB ?_))
   ·refine Adc (j:=j+1) (by simpa using hD) hs (by omega) hb ?_
    intro c3 tl3
    (conv=>whnf);repeat' (first  |(refine kA ?_;conv=>whnf)|(refine Br.mk (fun hc=>?_) fun hc=>?_<;>first|exact hc.elim|conv=>whnf)|(refine kB ?_))
    refine hend _ _ _ (by omega) (by simpa using hD) ?_ (by omega) (by omega)
    unfold fixUp fixDown
    rw[if_pos (by omega),if_pos (by omega)]
   ·refine hend _ _ _ (by omega) (by simpa using hD) ?_ (by omega) (by omega)
    unfold fixUp fixDown
    rw[if_neg (by omega),if_pos (by omega)]
  ·refine Adc (d:=swp D j (j-1)) (j:=j+1) (by simpa using hD) hs (by omega) hb ?_
   intro c3 tl3
   (conv=>whnf);repeat' (first  |(refine kA ?_;conv=>whnf)|(refine Br.mk (fun hc=>?_) fun hc=>?_<;>first|exact hc.elim|conv=>whnf)|(refine kB ?_))
   refine hend _ _ _ (by omega) (by simpa using hD) ?_ (by omega) (by omega)
   unfold fixUp fixDown
   rw[if_pos (by omega),if_neg (by omega)]
theorem Aje {BP:Obj} {g c len:Nat} {nn cl:Bool} {d:Array GX} {a i j:Nat} {z:Int} {Q:AU→Env→Am→Prop} (hl:d.size=len) (ha:a<len) (hj:j<len) (hs:len<2^61) (hz:z=j) (hi:i≤j+1)
 (hQ:∀c' k tl,k=scanUp (fun x=>!BR d[a]! x) d j i→i≤k→k≤j+1→(k≤j→(fun x=>!BR d[a]! x) d[k]! =false)→Q (.exit 2) ([(0,.own 1 g 0 len),(1,.int .i64 a),(4,.fn 86 []),(11,.int .i64 k),(12,.int .i64 z)]++tl) ⟨[BP,.arr g 8 nn cl (vs GX.av d.toList)],c'⟩):
 Run (Ad tab) (.loop l298_0_h l298_0_b) [(0,.own 1 g 0 len),(1,.int .i64 a),(4,.fn 86 []),(11,.int .i64 i),(12,.int .i64 z)] ⟨[BP,.arr g 8 nn cl (vs GX.av d.toList)],c⟩ Q:=by
 refine Ag (fun m env s=>∃(k c:Nat),m=j+1-k∧i≤k∧k≤j+1∧scanUp (fun x=>!BR d[a]! x) d j k=scanUp (fun x=>!BR d[a]! x) d j i∧env=[(0,.own 1 g 0 len),(1,.int .i64 a),(4,.fn 86 []),(11,.int .i64 k),(12,.int .i64 z)]∧s=⟨[BP,.arr g 8 nn cl (vs GX.av d.toList)],c⟩) ?_ _ _ _ ⟨i,c,rfl,by omega,hi,rfl,rfl,rfl⟩
 rintro _ _ _ ⟨k,c,rfl,hik,hkj,hk,rfl,rfl⟩
 refine⟨rfl,?_⟩
 (conv=>whnf);repeat' (first|((with_reducible show Ce _ _ _);refine He (k) ?_;conv=>whnf)|((with_reducible show Ce _ _ _);refine He (a) ?_;conv=>whnf)|(refine Aa Eu ?_;rintro _ rfl;conv=>whnf)|(refine F5 (fun hc=>?_) (fun hc=>?_)<;>conv=>whnf)|(refine kA ?_;conv=>whnf)|(refine Br.mk (fun hc=>?_) fun hc=>?_<;>first|exact hc.elim|conv=>whnf)|(refine kB ?_))
 all_goals first
  |(rw [XJ (by omega) (by first|exact hc|(show (!_)=_;rw[hc];rfl))]at hk
    exact again.mk ⟨_,by omega,k+1,_,rfl,by omega,by omega,hk,rfl,rfl⟩)
  |(rw [Jk (fun _=>(by first|exact hc|(show (!_)=_;rw[hc];rfl)))]at hk
    exact hQ _ _ _ hk hik hkj (fun _=>(by first|exact hc|(show (!_)=_;rw[hc];rfl))))
  |(rw [Jk (fun h=>absurd h (by omega))]at hk
    exact hQ _ _ _ hk hik hkj (fun h=>absurd h (by omega)))
theorem Ajf {BP:Obj} {g c len:Nat} {nn cl:Bool} {d:Array GX} {a i j:Nat} {z:Int} {Q:AU→Env→Am→Prop} (hl:d.size=len) (ha:a<len) (hj:j<len) (hs:len<2^61) (hz:z=j) (hi:0<i) (hij:i≤j+1)
 (hQ:∀c' k z tl,k=scanDown (fun x=>BR d[a]! x) d i j→k≤j→i≤k+1→z=(k:Int)→(i≤k→(fun x=>BR d[a]! x) d[k]! =false)→Q (.exit 4) ([(0,.own 1 g 0 len),(1,.int .i64 a),(4,.fn 86 []),(11,.int .i64 i),(12,.int .i64 z)]++tl) ⟨[BP,.arr g 8 nn cl (vs GX.av d.toList)],c'⟩):
 Run (Ad tab) (.loop l298_1_h l298_1_b) [(0,.own 1 g 0 len),(1,.int .i64 a),(4,.fn 86 []),(11,.int .i64 i),(12,.int .i64 z)] ⟨[BP,.arr g 8 nn cl (vs GX.av d.toList)],c⟩ Q:=by
 refine Ag (fun m env s=>∃(k c:Nat) (z:Int),m=k∧z=k∧k≤j∧i≤k+1∧scanDown (fun x=>BR d[a]! x) d i k=scanDown (fun x=>BR d[a]! x) d i j∧env=[(0,.own 1 g 0 len),(1,.int .i64 a),(4,.fn 86 []),(11,.int .i64 i),(12,.int .i64 z)]∧s=⟨[BP,.arr g 8 nn cl (vs GX.av d.toList)],c⟩) ?_ _ _ _ ⟨j,c,z,rfl,hz,by omega,hij,rfl,rfl,rfl⟩
 clear hz
 rintro k _ _ ⟨_,c,z,rfl,hz,hkj,hik,hk,rfl,rfl⟩
 refine⟨rfl,?_⟩
 (conv=>whnf);repeat' (first|((with_reducible show Ce _ _ _);refine He (k) ?_;conv=>whnf)|((with_reducible show Ce _ _ _);refine He (a) ?_;conv=>whnf)|(refine Aa Eu ?_;rintro _ rfl;conv=>whnf)|(refine F5 (fun hc=>?_) (fun hc=>?_)<;>conv=>whnf)|(refine kA ?_;conv=>whnf)|(refine Br.mk (fun hc=>?_) fun hc=>?_<;>first|exact hc.elim|conv=>whnf)|(refine kB ?_))
 all_goals first
  |(obtain ⟨k,rfl⟩:∃k',k=k'+1:=⟨k-1,by omega⟩
    rw[XK (by omega) (by first|exact hc|(show (!_)=_;rw[hc];rfl))]at hk
    exact again.mk ⟨_,by omega,k,_,z-1,rfl,by omega,by omega,by omega,hk,rfl,rfl⟩)
  |(rw [Jl (fun _=>(by first|exact hc|(show (!_)=_;rw[hc];rfl)))]at hk
    exact hQ _ _ _ _ hk hkj hik hz (fun _=>(by first|exact hc|(show (!_)=_;rw[hc];rfl))))
  |(rw [Jl (fun h=>absurd h (by omega))]at hk
    exact hQ _ _ _ _ hk hkj hik hz (fun h=>absurd h (by omega)))
set_option maxHeartbeats 1000000 in
theorem Ajg {BP:Obj} {g c len:Nat} {nn cl:Bool} {d:Array GX} {a b pivot:Nat} (hl:d.size=len) (hb:b≤len) (hap:a≤pivot) (hpb:pivot<b) (hs:len<2^61):
 AA (Ad tab) 298 [.own 1 g 0 len,.int .i64 a,.int .i64 b,.int .i64 pivot,.fn 86 []] ⟨[BP,.arr g 8 nn cl (vs GX.av d.toList)],c⟩ fun out s'=>∃c',out=.ok (.int .i64 (partitionEqual BR d a b pivot).1)∧s'=⟨[BP,.arr g 8 nn cl (vs GX.av (partitionEqual BR d a b pivot).2.toList)],c'⟩:=by
 refine Aj rfl rfl ?_
 (conv=>whnf);repeat' (first|((with_reducible show Ce _ _ _);refine He (a) ?_;conv=>whnf)|((with_reducible show Ce _ _ _);refine He (pivot) ?_;conv=>whnf)|((with_reducible show eqK _ _);refine LH BA (a) ?_;conv=>whnf)|((with_reducible show eqK _ _);refine LH BA (pivot) ?_;conv=>whnf)|(refine kA ?_;conv=>whnf)|(refine Br.mk (fun hc=>?_) fun hc=>?_<;>first|exact hc.elim|conv=>whnf)|(refine kB ?_))
 refine Ag (fun m env s=>∃(i j c:Nat) (z:Int) (D:Array GX),m=j+1-i∧z=j∧a<i∧i≤j+1∧j<b∧D.size=len∧partEqLoop BR a i j D=partitionEqual BR d a b pivot∧env=[(0,.own 1 g 0 len),(1,.int .i64 a),(4,.fn 86 []),(11,.int .i64 i),(12,.int .i64 z)]∧s=⟨[BP,.arr g 8 nn cl (vs GX.av D.toList)],c⟩) ?_ _ _ _ ⟨a+1,b-1,_,_,swp d a pivot,rfl,by omega,by omega,by omega,by omega,by simpa using hl,rfl,rfl,rfl⟩
 rintro _ _ _ ⟨i,j,c,z,D,rfl,hz,hai,hij,hjb,hD,hk,rfl,rfl⟩
 refine⟨rfl,?_⟩
 rw[partEqLoop_eq]at hk
 (conv=>whnf);repeat' (first  |(refine kA ?_;conv=>whnf)|(refine Br.mk (fun hc=>?_) fun hc=>?_<;>first|exact hc.elim|conv=>whnf)|(refine kB ?_))
 refine Aje hD (by omega) (by omega) hs hz hij ?_
 intro c1 i2 tl1 hi2 hii2 Ade hp2
 rw[← hi2]at hk
 (conv=>whnf);repeat' (first  |(refine kA ?_;conv=>whnf)|(refine Br.mk (fun hc=>?_) fun hc=>?_<;>first|exact hc.elim|conv=>whnf)|(refine kB ?_))
 refine Ajf hD (by omega) (by omega) hs hz (by omega) Ade ?_
 intro c2 j2 z2 tl2 hj2 Ajh AfI hz2 hq2
 rw[← hj2]at hk
 have hne:i2≤j2→i2≠j2:=by
  intro h e
  subst e
  have h1:=hp2 (by omega)
  have h2:=hq2 (by omega)
  simp only[Bool.not_eq_false']at h1 h2
  rw[h1]at h2;cases h2
 (conv=>whnf);repeat' (first|((with_reducible show Ce _ _ _);refine He (i2) ?_;conv=>whnf)|((with_reducible show Ce _ _ _);refine He (j2) ?_;conv=>whnf)|((with_reducible show eqK _ _);refine LH BA (i2) ?_;conv=>whnf)|((with_reducible show eqK _ _);refine LH BA (j2) ?_;conv=>whnf)|(refine kA ?_;conv=>whnf)|(refine Br.mk (fun hc=>?_) fun hc=>?_<;>first|exact hc.elim|conv=>whnf)|(refine kB ?_))
 ·rw[if_pos (by omega)]at hk
  rw[← hk]
  exact⟨_,rfl,rfl⟩
 ·rw[if_neg (by omega)]at hk
  exact again.mk ⟨_,by omega,i2+1,j2-1,_,z2-1,swp D i2 j2,rfl,by omega,by omega,by omega,by omega,by simpa using hD,hk,rfl,rfl⟩
theorem Aji {BP:Obj} {g c len:Nat} {nn cl:Bool} {d:Array GX} {a i j:Nat} {z:Int} {Q:AU→Env→Am→Prop} (hl:d.size=len) (ha:a<len) (hj:j<len) (hs:len<2^61) (hz:z=j) (hi:i≤j+1)
 (hQ:∀c' k tl,k=scanUp (fun x=>BR x d[a]!) d j i→i≤k→k≤j+1→(k≤j→(fun x=>BR x d[a]!) d[k]! =false)→Q (.exit 0) ([(0,.own 1 g 0 len),(1,.int .i64 a),(4,.fn 86 []),(12,.int .i64 k),(13,.int .i64 z)]++tl) ⟨[BP,.arr g 8 nn cl (vs GX.av d.toList)],c'⟩):
 Run (Ad tab) (.loop l299_0_h l299_0_b) [(0,.own 1 g 0 len),(1,.int .i64 a),(4,.fn 86 []),(12,.int .i64 i),(13,.int .i64 z)] ⟨[BP,.arr g 8 nn cl (vs GX.av d.toList)],c⟩ Q:=by
 refine Ag (fun m env s=>∃(k c:Nat),m=j+1-k∧i≤k∧k≤j+1∧scanUp (fun x=>BR x d[a]!) d j k=scanUp (fun x=>BR x d[a]!) d j i∧env=[(0,.own 1 g 0 len),(1,.int .i64 a),(4,.fn 86 []),(12,.int .i64 k),(13,.int .i64 z)]∧s=⟨[BP,.arr g 8 nn cl (vs GX.av d.toList)],c⟩) ?_ _ _ _ ⟨i,c,rfl,by omega,hi,rfl,rfl,rfl⟩
 rintro _ _ _ ⟨k,c,rfl,hik,hkj,hk,rfl,rfl⟩
 refine⟨rfl,?_⟩
 (conv=>whnf);repeat' (first|((with_reducible show Ce _ _ _);refine He (k) ?_;conv=>whnf)|((with_reducible show Ce _ _ _);refine He (a) ?_;conv=>whnf)|(refine Aa Eu ?_;rintro _ rfl;conv=>whnf)|(refine F5 (fun hc=>?_) (fun hc=>?_)<;>conv=>whnf)|(refine kA ?_;conv=>whnf)|(refine Br.mk (fun hc=>?_) fun hc=>?_<;>first|exact hc.elim|conv=>whnf)|(refine kB ?_))
 all_goals first
  |(rw [XJ (by omega) (by first|exact hc|(show (!_)=_;rw[hc];rfl))]at hk
    exact again.mk ⟨_,by omega,k+1,_,rfl,by omega,by omega,hk,rfl,rfl⟩)
  |(rw [Jk (fun _=>(by first|exact hc|(show (!_)=_;rw[hc];rfl)))]at hk
    exact hQ _ _ _ hk hik hkj (fun _=>(by first|exact hc|(show (!_)=_;rw[hc];rfl))))
  |(rw [Jk (fun h=>absurd h (by omega))]at hk
    exact hQ _ _ _ hk hik hkj (fun h=>absurd h (by omega)))
theorem Ajj {BP:Obj} {g c len:Nat} {nn cl:Bool} {d:Array GX} {a i j:Nat} {z:Int} {Q:AU→Env→Am→Prop} (hl:d.size=len) (ha:a<len) (hj:j<len) (hs:len<2^61) (hz:z=j) (hi:0<i) (hij:i≤j+1)
 (hQ:∀c' k z tl,k=scanDown (fun x=>!BR x d[a]!) d i j→k≤j→i≤k+1→z=(k:Int)→(i≤k→(fun x=>!BR x d[a]!) d[k]! =false)→Q (.exit 2) ([(0,.own 1 g 0 len),(1,.int .i64 a),(4,.fn 86 []),(12,.int .i64 i),(13,.int .i64 z)]++tl) ⟨[BP,.arr g 8 nn cl (vs GX.av d.toList)],c'⟩):
 Run (Ad tab) (.loop l299_1_h l299_1_b) [(0,.own 1 g 0 len),(1,.int .i64 a),(4,.fn 86 []),(12,.int .i64 i),(13,.int .i64 z)] ⟨[BP,.arr g 8 nn cl (vs GX.av d.toList)],c⟩ Q:=by
 refine Ag (fun m env s=>∃(k c:Nat) (z:Int),m=k∧z=k∧k≤j∧i≤k+1∧scanDown (fun x=>!BR x d[a]!) d i k=scanDown (fun x=>!BR x d[a]!) d i j∧env=[(0,.own 1 g 0 len),(1,.int .i64 a),(4,.fn 86 []),(12,.int .i64 i),(13,.int .i64 z)]∧s=⟨[BP,.arr g 8 nn cl (vs GX.av d.toList)],c⟩) ?_ _ _ _ ⟨j,c,z,rfl,hz,by omega,hij,rfl,rfl,rfl⟩
 clear hz
 rintro k _ _ ⟨_,c,z,rfl,hz,hkj,hik,hk,rfl,rfl⟩
 refine⟨rfl,?_⟩
 (conv=>whnf);repeat' (first|((with_reducible show Ce _ _ _);refine He (k) ?_;conv=>whnf)|((with_reducible show Ce _ _ _);refine He (a) ?_;conv=>whnf)|(refine Aa Eu ?_;rintro _ rfl;conv=>whnf)|(refine F5 (fun hc=>?_) (fun hc=>?_)<;>conv=>whnf)|(refine kA ?_;conv=>whnf)|(refine Br.mk (fun hc=>?_) fun hc=>?_<;>first|exact hc.elim|conv=>whnf)|(refine kB ?_))
 all_goals first
  |(obtain ⟨k,rfl⟩:∃k',k=k'+1:=⟨k-1,by omega⟩
    rw[XK (by omega) (by first|exact hc|(show (!_)=_;rw[hc];rfl))]at hk
    exact again.mk ⟨_,by omega,k,_,z-1,rfl,by omega,by omega,by omega,hk,rfl,rfl⟩)
  |(rw [Jl (fun _=>(by first|exact hc|(show (!_)=_;rw[hc];rfl)))]at hk
    exact hQ _ _ _ _ hk hkj hik hz (fun _=>(by first|exact hc|(show (!_)=_;rw[hc];rfl))))
  |(rw [Jl (fun h=>absurd h (by omega))]at hk
    exact hQ _ _ _ _ hk hkj hik hz (fun h=>absurd h (by omega)))
theorem Ajk {BP:Obj} {g c len:Nat} {nn cl:Bool} {d:Array GX} {a i j:Nat} {z:Int} {Q:AU→Env→Am→Prop} (hl:d.size=len) (ha:a<len) (hj:j<len) (hs:len<2^61) (hz:z=j) (hi:i≤j+1)
 (hQ:∀c' k tl,k=scanUp (fun x=>BR x d[a]!) d j i→i≤k→k≤j+1→(k≤j→(fun x=>BR x d[a]!) d[k]! =false)→Q (.exit 6) ([(0,.own 1 g 0 len),(1,.int .i64 a),(4,.fn 86 []),(12,.int .i64 k),(13,.int .i64 z)]++tl) ⟨[BP,.arr g 8 nn cl (vs GX.av d.toList)],c'⟩):
 Run (Ad tab) (.loop l299_2_h l299_2_b) [(0,.own 1 g 0 len),(1,.int .i64 a),(4,.fn 86 []),(12,.int .i64 i),(13,.int .i64 z)] ⟨[BP,.arr g 8 nn cl (vs GX.av d.toList)],c⟩ Q:=by
 refine Ag (fun m env s=>∃(k c:Nat),m=j+1-k∧i≤k∧k≤j+1∧scanUp (fun x=>BR x d[a]!) d j k=scanUp (fun x=>BR x d[a]!) d j i∧env=[(0,.own 1 g 0 len),(1,.int .i64 a),(4,.fn 86 []),(12,.int .i64 k),(13,.int .i64 z)]∧s=⟨[BP,.arr g 8 nn cl (vs GX.av d.toList)],c⟩) ?_ _ _ _ ⟨i,c,rfl,by omega,hi,rfl,rfl,rfl⟩
 rintro _ _ _ ⟨k,c,rfl,hik,hkj,hk,rfl,rfl⟩
 refine⟨rfl,?_⟩
 (conv=>whnf);repeat' (first|((with_reducible show Ce _ _ _);refine He (k) ?_;conv=>whnf)|((with_reducible show Ce _ _ _);refine He (a) ?_;conv=>whnf)|(refine Aa Eu ?_;rintro _ rfl;conv=>whnf)|(refine F5 (fun hc=>?_) (fun hc=>?_)<;>conv=>whnf)|(refine kA ?_;conv=>whnf)|(refine Br.mk (fun hc=>?_) fun hc=>?_<;>first|exact hc.elim|conv=>whnf)|(refine kB ?_))
 all_goals first
  |(rw [XJ (by omega) (by first|exact hc|(show (!_)=_;rw[hc];rfl))]at hk
    exact again.mk ⟨_,by omega,k+1,_,rfl,by omega,by omega,hk,rfl,rfl⟩)
  |(rw [Jk (fun _=>(by first|exact hc|(show (!_)=_;rw[hc];rfl)))]at hk
    exact hQ _ _ _ hk hik hkj (fun _=>(by first|exact hc|(show (!_)=_;rw[hc];rfl))))
  |(rw [Jk (fun h=>absurd h (by omega))]at hk
    exact hQ _ _ _ hk hik hkj (fun h=>absurd h (by omega)))
theorem Ajl {BP:Obj} {g c len:Nat} {nn cl:Bool} {d:Array GX} {a i j:Nat} {z:Int} {Q:AU→Env→Am→Prop} (hl:d.size=len) (ha:a<len) (hj:j<len) (hs:len<2^61) (hz:z=j) (hi:0<i) (hij:i≤j+1)
 (hQ:∀c' k z tl,k=scanDown (fun x=>!BR x d[a]!) d i j→k≤j→i≤k+1→z=(k:Int)→(i≤k→(fun x=>!BR x d[a]!) d[k]! =false)→Q (.exit 8) ([(0,.own 1 g 0 len),(1,.int .i64 a),(4,.fn 86 []),(12,.int .i64 i),(13,.int .i64 z)]++tl) ⟨[BP,.arr g 8 nn cl (vs GX.av d.toList)],c'⟩):
 Run (Ad tab) (.loop l299_3_h l299_3_b) [(0,.own 1 g 0 len),(1,.int .i64 a),(4,.fn 86 []),(12,.int .i64 i),(13,.int .i64 z)] ⟨[BP,.arr g 8 nn cl (vs GX.av d.toList)],c⟩ Q:=by
 refine Ag (fun m env s=>∃(k c:Nat) (z:Int),m=k∧z=k∧k≤j∧i≤k+1∧scanDown (fun x=>!BR x d[a]!) d i k=scanDown (fun x=>!BR x d[a]!) d i j∧env=[(0,.own 1 g 0 len),(1,.int .i64 a),(4,.fn 86 []),(12,.int .i64 i),(13,.int .i64 z)]∧s=⟨[BP,.arr g 8 nn cl (vs GX.av d.toList)],c⟩) ?_ _ _ _ ⟨j,c,z,rfl,hz,by omega,hij,rfl,rfl,rfl⟩
 clear hz
 rintro k _ _ ⟨_,c,z,rfl,hz,hkj,hik,hk,rfl,rfl⟩
 refine⟨rfl,?_⟩
 (conv=>whnf);repeat' (first|((with_reducible show Ce _ _ _);refine He (k) ?_;conv=>whnf)|((with_reducible show Ce _ _ _);refine He (a) ?_;conv=>whnf)|(refine Aa Eu ?_;rintro _ rfl;conv=>whnf)|(refine F5 (fun hc=>?_) (fun hc=>?_)<;>conv=>whnf)|(refine kA ?_;conv=>whnf)|(refine Br.mk (fun hc=>?_) fun hc=>?_<;>first|exact hc.elim|conv=>whnf)|(refine kB ?_))
 all_goals first
  |(obtain ⟨k,rfl⟩:∃k',k=k'+1:=⟨k-1,by omega⟩
    rw[XK (by omega) (by first|exact hc|(show (!_)=_;rw[hc];rfl))]at hk
    exact again.mk ⟨_,by omega,k,_,z-1,rfl,by omega,by omega,by omega,hk,rfl,rfl⟩)
  |(rw [Jl (fun _=>(by first|exact hc|(show (!_)=_;rw[hc];rfl)))]at hk
    exact hQ _ _ _ _ hk hkj hik hz (fun _=>(by first|exact hc|(show (!_)=_;rw[hc];rfl))))
  |(rw [Jl (fun h=>absurd h (by omega))]at hk
    exact hQ _ _ _ _ hk hkj hik hz (fun h=>absurd h (by omega)))
set_option maxHeartbeats 1000000 in
theorem Ae1 {BP:Obj} {g c len:Nat} {nn cl:Bool} {d:Array GX} {a b i j:Nat} {z:Int} {Q:AU→Env→Am→Prop} (hl:d.size=len) (hb:b≤len) (hs:len<2^61) (hz:z=j) (hai:a<i) (hij:i≤j+1) (hjb:j<b)
 (hQ:∀c' x y tl,y=((partLoop BR a i j d).1:Int)→(partLoop BR a i j d).1<b→(partLoop BR a i j d).2.size=len→Q (.exit 4) ([(0,.own 1 g 0 len),(1,.int .i64 a),(4,.fn 86 []),(12,x),(13,.int .i64 y)]++tl) ⟨[BP,.arr g 8 nn cl (vs GX.av (partLoop BR a i j d).2.toList)],c'⟩):
 Run (Ad tab) (.loop l299_4_h l299_4_b) [(0,.own 1 g 0 len),(1,.int .i64 a),(4,.fn 86 []),(12,.int .i64 i),(13,.int .i64 z)] ⟨[BP,.arr g 8 nn cl (vs GX.av d.toList)],c⟩ Q:=by
 refine Ag (fun m env s=>∃(i' j' c:Nat) (z:Int) (D:Array GX),m=j'+1-i'∧z=j'∧a<i'∧i'≤j'+1∧j'<b∧D.size=len∧partLoop BR a i' j' D=partLoop BR a i j d∧env=[(0,.own 1 g 0 len),(1,.int .i64 a),(4,.fn 86 []),(12,.int .i64 i'),(13,.int .i64 z)]∧s=⟨[BP,.arr g 8 nn cl (vs GX.av D.toList)],c⟩) ?_ _ _ _ ⟨i,j,c,z,d,rfl,hz,hai,hij,hjb,hl,rfl,rfl,rfl⟩
 clear hz
 rintro _ _ _ ⟨i',j',c,z,D,rfl,hz,hai,hij,hjb,hD,hk,rfl,rfl⟩
 refine⟨rfl,?_⟩
 rw[partLoop_eq]at hk
 (conv=>whnf);repeat' (first  |(refine kA ?_;conv=>whnf)|(refine Br.mk (fun hc=>?_) fun hc=>?_<;>first|exact hc.elim|conv=>whnf)|(refine kB ?_))
 refine Ajk hD (by omega) (by omega) hs hz hij ?_
 intro c1 i2 tl1 hi2 hii2 Ade hp2
 rw[← hi2]at hk
 (conv=>whnf);repeat' (first  |(refine kA ?_;conv=>whnf)|(refine Br.mk (fun hc=>?_) fun hc=>?_<;>first|exact hc.elim|conv=>whnf)|(refine kB ?_))
 refine Ajl hD (by omega) (by omega) hs hz (by omega) Ade ?_
 intro c2 j2 z2 tl2 hj2 Ajh AfI hz2 hq2
 rw[← hj2]at hk
 have hne:i2≤j2→i2≠j2:=by
  intro h e
  subst e
  have h1:=hp2 (by omega)
  have h2:=hq2 (by omega)
  simp only[Bool.not_eq_false']at h1 h2
  rw[h1]at h2;cases h2
 (conv=>whnf);repeat' (first|((with_reducible show Ce _ _ _);refine He (i2) ?_;conv=>whnf)|((with_reducible show Ce _ _ _);refine He (j2) ?_;conv=>whnf)|((with_reducible show eqK _ _);refine LH BA (i2) ?_;conv=>whnf)|((with_reducible show eqK _ _);refine LH BA (j2) ?_;conv=>whnf)|(refine kA ?_;conv=>whnf)|(refine Br.mk (fun hc=>?_) fun hc=>?_<;>first|exact hc.elim|conv=>whnf)|(refine kB ?_))
 ·rw[if_pos (by omega)]at hk
  rw[← hk]at hQ
  exact hQ _ _ _ _ hz2 (by show j2<b;omega) hD
 ·rw[if_neg (by omega)]at hk
  exact again.mk ⟨_,by omega,i2+1,j2-1,_,z2-1,swp D i2 j2,rfl,by omega,by omega,by omega,by omega,by simpa using hD,hk,rfl,rfl⟩
set_option maxHeartbeats 2000000 in
theorem Ajm {BP:Obj} {g c len:Nat} {nn cl:Bool} {d:Array GX} {a b pivot:Nat} (hl:d.size=len) (hb:b≤len) (hap:a≤pivot) (hpb:pivot<b) (hs:len<2^61):
 AA (Ad tab) 299 [.own 1 g 0 len,.int .i64 a,.int .i64 b,.int .i64 pivot,.fn 86 []] ⟨[BP,.arr g 8 nn cl (vs GX.av d.toList)],c⟩ fun out s'=>∃c',out=.ok (.BL [.int .i64 (partition BR d a b pivot).1,.bool (partition BR d a b pivot).2.1])∧s'=⟨[BP,.arr g 8 nn cl (vs GX.av (partition BR d a b pivot).2.2.toList)],c'⟩:=by
 generalize hR:partition BR d a b pivot=R
 unfold partition at hR
 dsimp only at hR
 refine Aj rfl rfl ?_
 (conv=>whnf);repeat' (first|((with_reducible show Ce _ _ _);refine He (a) ?_;conv=>whnf)|((with_reducible show Ce _ _ _);refine He (pivot) ?_;conv=>whnf)|((with_reducible show eqK _ _);refine LH BA (a) ?_;conv=>whnf)|((with_reducible show eqK _ _);refine LH BA (pivot) ?_;conv=>whnf)|(refine kA ?_;conv=>whnf)|(refine Br.mk (fun hc=>?_) fun hc=>?_<;>first|exact hc.elim|conv=>whnf)|(refine kB ?_))
 refine Aji (d:=swp d a pivot) (i:=a+1) (j:=b-1) (by simpa using hl) (by omega) (by omega) hs (by omega) (by omega) ?_
 intro c1 i2 tl1 hi2 hii2 Ade hp2
 rw[← hi2]at hR
 (conv=>whnf);repeat' (first  |(refine kA ?_;conv=>whnf)|(refine Br.mk (fun hc=>?_) fun hc=>?_<;>first|exact hc.elim|conv=>whnf)|(refine kB ?_))
 refine Ajj (j:=b-1) (by simpa using hl) (by omega) (by omega) hs (by omega) (by omega) Ade ?_
 intro c2 j2 z2 tl2 hj2 Ajh AfI hz2 hq2
 rw[← hj2]at hR
 have hne:i2≤j2→i2≠j2:=by
  intro h e
  subst e
  have h1:=hp2 (by omega)
  have h2:=hq2 (by omega)
  simp only[Bool.not_eq_false']at h1 h2
  rw[h1]at h2;cases h2
 clear hp2 hq2
 generalize hE:swp d a pivot=E at*
 have hEl:E.size=len:=by rw[← hE];simpa using hl
 (conv=>whnf);repeat' (first|((with_reducible show Ce _ _ _);refine He (a) ?_;conv=>whnf)|((with_reducible show Ce _ _ _);refine He (i2) ?_;conv=>whnf)|((with_reducible show Ce _ _ _);refine He (j2) ?_;conv=>whnf)|((with_reducible show eqK _ _);refine LH BA (a) ?_;conv=>whnf)|((with_reducible show eqK _ _);refine LH BA (i2) ?_;conv=>whnf)|((with_reducible show eqK _ _);refine LH BA (j2) ?_;conv=>whnf)|(refine kA ?_;conv=>whnf)|(refine Br.mk (fun hc=>?_) fun hc=>?_<;>first|exact hc.elim|conv=>whnf)|(refine kB ?_))
 ·rw[if_pos (by omega)]at hR
  subst hR
  rw[hz2]
  exact⟨_,rfl,rfl⟩
 ·rw[if_neg (by omega)]at hR
  refine Ae1 (d:=swp E i2 j2) (i:=i2+1) (j:=j2-1) (by simpa using hEl) hb hs (by omega) (by omega) (by omega) (by omega) ?_
  intro c3 x y tl3 hy hyb hsz
  generalize (partLoop BR a (i2+1) (j2-1) (swp E i2 j2)).1=p1 at*
  generalize (partLoop BR a (i2+1) (j2-1) (swp E i2 j2)).2=p2 at*
  subst hy
  (conv=>whnf);repeat' (first|((with_reducible show Ce _ _ _);refine He (a) ?_;conv=>whnf)|((with_reducible show Ce _ _ _);refine He (p1) ?_;conv=>whnf)|((with_reducible show eqK _ _);refine LH BA (a) ?_;conv=>whnf)|((with_reducible show eqK _ _);refine LH BA (p1) ?_;conv=>whnf)|(refine kA ?_;conv=>whnf)|(refine Br.mk (fun hc=>?_) fun hc=>?_<;>first|exact hc.elim|conv=>whnf)|(refine kB ?_))
  subst hR
  exact⟨_,rfl,rfl⟩
end AI
end Go.Proofs.YtceiccjppfapjaaGreatDoor
