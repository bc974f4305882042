/- Sorting in place (CmpFunc[graphdb/api.Rule]): sorted or nearly so; the partitions. -/
import Derived.Test.YtjijnamhalgamaaGreatDoorTMas
import Derived.Test.YtjijnamhalgamaaGreatDoorTMad
set_option linter.unusedVariables false
set_option maxRecDepth 4000
namespace Go.Proofs.YtjijnamhalgamaaGreatDoor
namespace AI
open Go.Sort
theorem AdK {Bv:Obj} {g c len:Nat} {nn cl:Bool} {d:Array GR} {a b i:Nat} {z:Int} {Q:AQ→Env→Am→Prop} (hl:d.size=len) (hb:b≤len) (hs:len<2^61) (hi:0<i) (hib:i≤b)
 (hQ:∀c' k tl,k=scanSorted BX d b i→i≤k→k≤b→Q (.exit 2) ([(0,.own 1 g 0 len),(1,.int .i64 a),(2,.int .i64 b),(3,.fn 56 []),(9,.int .i64 k),(10,.int .i64 z)]++tl) ⟨[Bv,.arr g 6 nn cl (vs GR.av d.toList)],c'⟩):
 Run (Ad tab) (.loop l185_0_h l185_0_b) [(0,.own 1 g 0 len),(1,.int .i64 a),(2,.int .i64 b),(3,.fn 56 []),(9,.int .i64 i),(10,.int .i64 z)] ⟨[Bv,.arr g 6 nn cl (vs GR.av d.toList)],c⟩ Q:=by
 refine Ag (fun m env s=>∃(k c:Nat),m=b-k∧i≤k∧k≤b∧scanSorted BX d b k=scanSorted BX d b i∧env=[(0,.own 1 g 0 len),(1,.int .i64 a),(2,.int .i64 b),(3,.fn 56 []),(9,.int .i64 k),(10,.int .i64 z)]∧s=⟨[Bv,.arr g 6 nn cl (vs GR.av d.toList)],c⟩) ?_ _ _ _ ⟨i,c,rfl,by omega,hib,rfl,rfl,rfl⟩
 rintro _ _ _ ⟨k,c,rfl,hik,hkb,hk,rfl,rfl⟩
 refine⟨rfl,?_⟩
 (conv=>whnf);repeat' (first|((first|((with_reducible show Ci _ _ _);refine Hu (k) ?_)|((with_reducible show Ci _ _ _);refine Hu (k-1) ?_)|apply kE D6|refine Hr (fun hc=>?_) (fun hc=>?_)|refine kA ?_|(apply Br.mk<;>intro hc))<;>first|exact hc.elim|conv=>whnf)|refine kB ?_)
 all_goals first
  |(rw [Adx (by omega) hc]at hk
    exact again.mk ⟨_,by omega,k+1,_,rfl,by omega,by omega,hk,rfl,rfl⟩)
  |(rw [Tt (fun _=>hc)]at hk
    exact hQ _ _ _ hk hik hkb)
  |(rw [Tt (fun h=>absurd h (by omega))]at hk
    exact hQ _ _ _ hk hik hkb)
theorem AdL {Bv:Obj} {g c len:Nat} {nn cl:Bool} {d:Array GR} {a b i j:Nat} {z y:Int} {Q:AQ→Env→Am→Prop} (hl:d.size=len) (hs:len<2^61) (hj:j<len) (hy:y=j)
 (hQ:∀c' tl,Q (.exit 4) ([(0,.own 1 g 0 len),(1,.int .i64 a),(2,.int .i64 b),(3,.fn 56 []),(9,.int .i64 i),(10,.int .i64 z)]++tl) ⟨[Bv,.arr g 6 nn cl (vs GR.av (shiftDown BX j d).toList)],c'⟩):
 Run (Ad tab) (.loop l185_1_h l185_1_b) [(0,.own 1 g 0 len),(1,.int .i64 a),(2,.int .i64 b),(3,.fn 56 []),(9,.int .i64 i),(10,.int .i64 z),(11,.int .i64 y)] ⟨[Bv,.arr g 6 nn cl (vs GR.av d.toList)],c⟩ Q:=by
 refine Ag (fun m env s=>∃(k c:Nat) (y:Int) (D:Array GR),m=k∧y=k∧k≤j∧D.size=len∧shiftDown BX k D=shiftDown BX j d∧env=[(0,.own 1 g 0 len),(1,.int .i64 a),(2,.int .i64 b),(3,.fn 56 []),(9,.int .i64 i),(10,.int .i64 z),(11,.int .i64 y)]∧s=⟨[Bv,.arr g 6 nn cl (vs GR.av D.toList)],c⟩) ?_ _ _ _ ⟨j,c,y,d,rfl,hy,by omega,hl,rfl,rfl,rfl⟩
 clear hy
 rintro k _ _ ⟨_,c,y,D,rfl,hy,hkj,hD,hk,rfl,rfl⟩
 refine⟨rfl,?_⟩
 cases k with
 |zero=>
  rw[← hk]at hQ
  (conv=>whnf);repeat' (first|((first|refine kA ?_|(apply Br.mk<;>intro hc))<;>first|exact hc.elim|conv=>whnf)|refine kB ?_)
  exact hQ _ _
 |succ k=>
  (conv=>whnf);repeat' (first|((first|((with_reducible show Ci _ _ _);refine Hu (k+1) ?_)|((with_reducible show Ci _ _ _);refine Hu (k) ?_)|apply kE D6|refine Hr (fun hc=>?_) (fun hc=>?_)|((with_reducible show eqK _ _);refine NJ BQ (k+1) ?_)|((with_reducible show eqK _ _);refine NJ BQ (k) ?_)|refine kA ?_|(apply Br.mk<;>intro hc))<;>first|exact hc.elim|conv=>whnf)|refine kB ?_)
  ·rw[AjF hc]at hk
   exact again.mk ⟨_,by omega,k,_,y-1,swp D (k+1) k,rfl,by omega,by omega,by simpa using hD,hk,rfl,rfl⟩
  ·rw[Ady hc]at hk
   rw[← hk]at hQ
   exact hQ _ _
theorem AdM {Bv:Obj} {g c len:Nat} {nn cl:Bool} {d:Array GR} {a b i j:Nat} {z:Int} {Q:AQ→Env→Am→Prop} (hl:d.size=len) (hs:len<2^61) (hj:0<j) (hb:b≤len)
 (hQ:∀c' tl,Q (.exit 6) ([(0,.own 1 g 0 len),(1,.int .i64 a),(2,.int .i64 b),(3,.fn 56 []),(9,.int .i64 i),(10,.int .i64 z)]++tl) ⟨[Bv,.arr g 6 nn cl (vs GR.av (shiftUp BX b j d).toList)],c'⟩):
 Run (Ad tab) (.loop l185_2_h l185_2_b) [(0,.own 1 g 0 len),(1,.int .i64 a),(2,.int .i64 b),(3,.fn 56 []),(9,.int .i64 i),(10,.int .i64 z),(12,.int .i64 j)] ⟨[Bv,.arr g 6 nn cl (vs GR.av d.toList)],c⟩ Q:=by
 refine Ag (fun m env s=>∃(k c:Nat) (D:Array GR),m=b-k∧j≤k∧D.size=len∧shiftUp BX b k D=shiftUp BX b j d∧env=[(0,.own 1 g 0 len),(1,.int .i64 a),(2,.int .i64 b),(3,.fn 56 []),(9,.int .i64 i),(10,.int .i64 z),(12,.int .i64 k)]∧s=⟨[Bv,.arr g 6 nn cl (vs GR.av D.toList)],c⟩) ?_ _ _ _ ⟨j,c,d,rfl,by omega,hl,rfl,rfl,rfl⟩
 rintro _ _ _ ⟨k,c,D,rfl,hjk,hD,hk,rfl,rfl⟩
 refine⟨rfl,?_⟩
 (conv=>whnf);repeat' (first|((first|((with_reducible show Ci _ _ _);refine Hu (k) ?_)|((with_reducible show Ci _ _ _);refine Hu (k-1) ?_)|apply kE D6|refine Hr (fun hc=>?_) (fun hc=>?_)|((with_reducible show eqK _ _);refine NJ BQ (k) ?_)|((with_reducible show eqK _ _);refine NJ BQ (k-1) ?_)|refine kA ?_|(apply Br.mk<;>intro hc))<;>first|exact hc.elim|conv=>whnf)|refine kB ?_)
 ·rw[AjG (by omega) hc]at hk
  exact again.mk ⟨_,by omega,k+1,_,swp D k (k-1),rfl,by omega,by simpa using hD,hk,rfl,rfl⟩
 ·rw[XM (fun _=>hc)]at hk
  rw[← hk]at hQ
  exact hQ _ _
 ·rw[XM (fun h=>absurd h (by omega))]at hk
  rw[← hk]at hQ
  exact hQ _ _
set_option maxHeartbeats 2000000 in
theorem AjP {Bv:Obj} {g c len:Nat} {nn cl:Bool} {d:Array GR} {a b:Nat} (hl:d.size=len) (hb:b≤len) (hab:a<b) (hs:len<2^61):
 Ar (Ad tab) 185 [.own 1 g 0 len,.int .i64 a,.int .i64 b,.fn 56 []] ⟨[Bv,.arr g 6 nn cl (vs GR.av d.toList)],c⟩ fun out s'=>∃c',out=.ok (.bool (partialInsertionSort BX d a b).2)∧s'=⟨[Bv,.arr g 6 nn cl (vs GR.av (partialInsertionSort BX d a b).1.toList)],c'⟩:=by
 refine Ai rfl rfl ?_
 (conv=>whnf);repeat' (first|((first|refine kA ?_|(apply Br.mk<;>intro hc))<;>first|exact hc.elim|conv=>whnf)|refine kB ?_)
 refine Ag (fun m env s=>∃(k i c:Nat) (z:Int) (D:Array GR),m=k∧z=5-k∧k≤5∧a<i∧i≤b∧D.size=len∧partialIns BX a b k i D=partialInsertionSort BX d a b∧env=[(0,.own 1 g 0 len),(1,.int .i64 a),(2,.int .i64 b),(3,.fn 56 []),(9,.int .i64 i),(10,.int .i64 z)]∧s=⟨[Bv,.arr g 6 nn cl (vs GR.av D.toList)],c⟩) ?_ _ _ _ ⟨5,a+1,c,0,d,rfl,by omega,by omega,by omega,by omega,hl,rfl,rfl,rfl⟩
 rintro k _ _ ⟨_,i,c,z,D,rfl,hz,hk5,hai,hib,hD,hk,rfl,rfl⟩
 refine⟨rfl,?_⟩
 cases k with
 |zero=>
  rw[← hk]
  (conv=>whnf);repeat' (first|((first|refine kA ?_|(apply Br.mk<;>intro hc))<;>first|exact hc.elim|conv=>whnf)|refine kB ?_)
  exact⟨_,rfl,rfl⟩
 |succ k=>
  rw[partialIns_succ]at hk
  (conv=>whnf);repeat' (first|((first|refine kA ?_|(apply Br.mk<;>intro hc))<;>first|exact hc.elim|conv=>whnf)|refine kB ?_)
  refine AdK hD hb hs (by omega) hib ?_
  intro c1 j tl hj hij hjb
  rw[← hj]at hk
  have hend:∀(c:Nat) (E:Array GR) (z':Int),z'=5-(k:Int)→E.size=len→E=fixUp BX b j (fixDown BX a j (swp D j (j-1)))→¬j=b→¬b-a<50→again (fun m env s=>∃(k i c:Nat) (z:Int) (D:Array GR),m=k∧z=5-k∧k≤5∧a<i∧i≤b∧D.size=len∧partialIns BX a b k i D=partialInsertionSort BX d a b∧env=[(0,.own 1 g 0 len),(1,.int .i64 a),(2,.int .i64 b),(3,.fn 56 []),(9,.int .i64 i),(10,.int .i64 z)]∧s=⟨[Bv,.arr g 6 nn cl (vs GR.av D.toList)],c⟩) (k+1) [(0,.own 1 g 0 len),(1,.int .i64 a),(2,.int .i64 b),(3,.fn 56 []),(9,.int .i64 j),(10,.int .i64 z')] ⟨[Bv,.arr g 6 nn cl (vs GR.av E.toList)],c⟩:=by
   intro c E z' hz' hE hE2 h1 h2
   rw[if_neg h1,if_neg h2]at hk
   refine again.mk ⟨_,by omega,k,j,c,z',E,rfl,hz',by omega,by omega,by omega,hE,?_,rfl,rfl⟩
   rw[hE2];exact hk
  (conv=>whnf);repeat' (first|((first|((with_reducible show Ci _ _ _);refine Hu (j) ?_)|((with_reducible show Ci _ _ _);refine Hu (j-1) ?_)|((with_reducible show eqK _ _);refine NJ BQ (j) ?_)|((with_reducible show eqK _ _);refine NJ BQ (j-1) ?_)|refine kA ?_|(apply Br.mk<;>intro hc))<;>first|exact hc.elim|conv=>whnf)|refine kB ?_)
  ·rw[if_pos (by omega)]at hk
   rw[← hk]
   exact⟨_,rfl,rfl⟩
  ·rw[if_neg (by omega),if_pos (by omega)]at hk
   rw[← hk]
   exact⟨_,rfl,rfl⟩
  ·refine AdL (d:=swp D j (j-1)) (j:=j-1) (by simpa using hD) hs (by omega) (by omega) ?_
   intro c2 tl2
   (conv=>whnf);repeat' (first|((first|refine kA ?_|(apply Br.mk<;>intro hc))<;>first|exact hc.elim|conv=>whnf)|refine kB ?_)
   ·refine AdM (j:=j+1) (by simpa using hD) hs (by omega) hb ?_
    intro c3 tl3
    (conv=>whnf);repeat' (first|((first|refine kA ?_|(apply Br.mk<;>intro hc))<;>first|exact hc.elim|conv=>whnf)|refine kB ?_)
    refine hend _ _ _ (by omega) (by simpa using hD) ?_ (by omega) (by omega)
    unfold fixUp fixDown
    rw[if_pos (by omega),if_pos (by omega)]
   ·refine hend _ _ _ (by omega) (by simpa using hD) ?_ (by omega) (by omega)
    unfold fixUp fixDown
    rw[if_neg (by omega),if_pos (by omega)]
  ·refine AdM (d:=swp D j (j-1)) (j:=j+1) (by simpa using hD) hs (by omega) hb ?_
   intro c3 tl3
   (conv=>whnf);repeat' (first|((first|refine kA ?_|(apply Br.mk<;>intro hc))<;>first|exact hc.elim|conv=>whnf)|refine kB ?_)
   refine hend _ _ _ (by omega) (by simpa using hD) ?_ (by omega) (by omega)
   unfold fixUp fixDown
   rw[if_pos (by omega),if_neg (by omega)]
theorem Al6 {Bv:Obj} {g c len:Nat} {nn cl:Bool} {d:Array GR} {a i j:Nat} {z:Int} {Q:AQ→Env→Am→Prop} (hl:d.size=len) (ha:a<len) (hj:j<len) (hs:len<2^61) (hz:z=j) (hi:i≤j+1)
 (hQ:∀c' k tl,k=scanUp (fun x=>!BX d[a]! x) d j i→i≤k→k≤j+1→(k≤j→(fun x=>!BX d[a]! x) d[k]! =false)→Q (.exit 2) ([(0,.own 1 g 0 len),(1,.int .i64 a),(4,.fn 56 []),(11,.int .i64 k),(12,.int .i64 z)]++tl) ⟨[Bv,.arr g 6 nn cl (vs GR.av d.toList)],c'⟩):
 Run (Ad tab) (.loop l186_0_h l186_0_b) [(0,.own 1 g 0 len),(1,.int .i64 a),(4,.fn 56 []),(11,.int .i64 i),(12,.int .i64 z)] ⟨[Bv,.arr g 6 nn cl (vs GR.av d.toList)],c⟩ Q:=by
 refine Ag (fun m env s=>∃(k c:Nat),m=j+1-k∧i≤k∧k≤j+1∧scanUp (fun x=>!BX d[a]! x) d j k=scanUp (fun x=>!BX d[a]! x) d j i∧env=[(0,.own 1 g 0 len),(1,.int .i64 a),(4,.fn 56 []),(11,.int .i64 k),(12,.int .i64 z)]∧s=⟨[Bv,.arr g 6 nn cl (vs GR.av d.toList)],c⟩) ?_ _ _ _ ⟨i,c,rfl,by omega,hi,rfl,rfl,rfl⟩
 rintro _ _ _ ⟨k,c,rfl,hik,hkj,hk,rfl,rfl⟩
 refine⟨rfl,?_⟩
 (conv=>whnf);repeat' (first|((first|((with_reducible show Ci _ _ _);refine Hu (k) ?_)|((with_reducible show Ci _ _ _);refine Hu (a) ?_)|apply kE D6|refine Hr (fun hc=>?_) (fun hc=>?_)|refine kA ?_|(apply Br.mk<;>intro hc))<;>first|exact hc.elim|conv=>whnf)|refine kB ?_)
 all_goals first
  |(rw [Zf (by omega) (by first|exact hc|(show (!_)=_;rw[hc];rfl))]at hk
    exact again.mk ⟨_,by omega,k+1,_,rfl,by omega,by omega,hk,rfl,rfl⟩)
  |(rw [Kr (fun _=>(by first|exact hc|(show (!_)=_;rw[hc];rfl)))]at hk
    exact hQ _ _ _ hk hik hkj (fun _=>(by first|exact hc|(show (!_)=_;rw[hc];rfl))))
  |(rw [Kr (fun h=>absurd h (by omega))]at hk
    exact hQ _ _ _ hk hik hkj (fun h=>absurd h (by omega)))
theorem Al7 {Bv:Obj} {g c len:Nat} {nn cl:Bool} {d:Array GR} {a i j:Nat} {z:Int} {Q:AQ→Env→Am→Prop} (hl:d.size=len) (ha:a<len) (hj:j<len) (hs:len<2^61) (hz:z=j) (hi:0<i) (hij:i≤j+1)
 (hQ:∀c' k z tl,k=scanDown (fun x=>BX d[a]! x) d i j→k≤j→i≤k+1→z=(k:Int)→(i≤k→(fun x=>BX d[a]! x) d[k]! =false)→Q (.exit 4) ([(0,.own 1 g 0 len),(1,.int .i64 a),(4,.fn 56 []),(11,.int .i64 i),(12,.int .i64 z)]++tl) ⟨[Bv,.arr g 6 nn cl (vs GR.av d.toList)],c'⟩):
 Run (Ad tab) (.loop l186_1_h l186_1_b) [(0,.own 1 g 0 len),(1,.int .i64 a),(4,.fn 56 []),(11,.int .i64 i),(12,.int .i64 z)] ⟨[Bv,.arr g 6 nn cl (vs GR.av d.toList)],c⟩ Q:=by
 refine Ag (fun m env s=>∃(k c:Nat) (z:Int),m=k∧z=k∧k≤j∧i≤k+1∧scanDown (fun x=>BX d[a]! x) d i k=scanDown (fun x=>BX d[a]! x) d i j∧env=[(0,.own 1 g 0 len),(1,.int .i64 a),(4,.fn 56 []),(11,.int .i64 i),(12,.int .i64 z)]∧s=⟨[Bv,.arr g 6 nn cl (vs GR.av d.toList)],c⟩) ?_ _ _ _ ⟨j,c,z,rfl,hz,by omega,hij,rfl,rfl,rfl⟩
 clear hz
 rintro k _ _ ⟨_,c,z,rfl,hz,hkj,hik,hk,rfl,rfl⟩
 refine⟨rfl,?_⟩
 (conv=>whnf);repeat' (first|((first|((with_reducible show Ci _ _ _);refine Hu (k) ?_)|((with_reducible show Ci _ _ _);refine Hu (a) ?_)|apply kE D6|refine Hr (fun hc=>?_) (fun hc=>?_)|refine kA ?_|(apply Br.mk<;>intro hc))<;>first|exact hc.elim|conv=>whnf)|refine kB ?_)
 all_goals first
  |(obtain ⟨k,rfl⟩:∃k',k=k'+1:=⟨k-1,by omega⟩
    rw[Zg (by omega) (by first|exact hc|(show (!_)=_;rw[hc];rfl))]at hk
    exact again.mk ⟨_,by omega,k,_,z-1,rfl,by omega,by omega,by omega,hk,rfl,rfl⟩)
  |(rw [Kt (fun _=>(by first|exact hc|(show (!_)=_;rw[hc];rfl)))]at hk
    exact hQ _ _ _ _ hk hkj hik hz (fun _=>(by first|exact hc|(show (!_)=_;rw[hc];rfl))))
  |(rw [Kt (fun h=>absurd h (by omega))]at hk
    exact hQ _ _ _ _ hk hkj hik hz (fun h=>absurd h (by omega)))
set_option maxHeartbeats 1000000 in
theorem Al8 {Bv:Obj} {g c len:Nat} {nn cl:Bool} {d:Array GR} {a b pivot:Nat} (hl:d.size=len) (hb:b≤len) (hap:a≤pivot) (hpb:pivot<b) (hs:len<2^61):
 Ar (Ad tab) 186 [.own 1 g 0 len,.int .i64 a,.int .i64 b,.int .i64 pivot,.fn 56 []] ⟨[Bv,.arr g 6 nn cl (vs GR.av d.toList)],c⟩ fun out s'=>∃c',out=.ok (.int .i64 (partitionEqual BX d a b pivot).1)∧s'=⟨[Bv,.arr g 6 nn cl (vs GR.av (partitionEqual BX d a b pivot).2.toList)],c'⟩:=by
 refine Ai rfl rfl ?_
 (conv=>whnf);repeat' (first|((first|((with_reducible show Ci _ _ _);refine Hu (a) ?_)|((with_reducible show Ci _ _ _);refine Hu (pivot) ?_)|((with_reducible show eqK _ _);refine NJ BQ (a) ?_)|((with_reducible show eqK _ _);refine NJ BQ (pivot) ?_)|refine kA ?_|(apply Br.mk<;>intro hc))<;>first|exact hc.elim|conv=>whnf)|refine kB ?_)
 refine Ag (fun m env s=>∃(i j c:Nat) (z:Int) (D:Array GR),m=j+1-i∧z=j∧a<i∧i≤j+1∧j<b∧D.size=len∧partEqLoop BX a i j D=partitionEqual BX d a b pivot∧env=[(0,.own 1 g 0 len),(1,.int .i64 a),(4,.fn 56 []),(11,.int .i64 i),(12,.int .i64 z)]∧s=⟨[Bv,.arr g 6 nn cl (vs GR.av D.toList)],c⟩) ?_ _ _ _ ⟨a+1,b-1,_,_,swp d a pivot,rfl,by omega,by omega,by omega,by omega,by simpa using hl,rfl,rfl,rfl⟩
 rintro _ _ _ ⟨i,j,c,z,D,rfl,hz,hai,hij,hjb,hD,hk,rfl,rfl⟩
 refine⟨rfl,?_⟩
 rw[partEqLoop_eq]at hk
 (conv=>whnf);repeat' (first|((first|refine kA ?_|(apply Br.mk<;>intro hc))<;>first|exact hc.elim|conv=>whnf)|refine kB ?_)
 refine Al6 hD (by omega) (by omega) hs hz hij ?_
 intro c1 i2 tl1 hi2 hii2 AdN hp2
 rw[← hi2]at hk
 (conv=>whnf);repeat' (first|((first|refine kA ?_|(apply Br.mk<;>intro hc))<;>first|exact hc.elim|conv=>whnf)|refine kB ?_)
 refine Al7 hD (by omega) (by omega) hs hz (by omega) AdN ?_
 intro c2 j2 z2 tl2 hj2 Al9 Ais hz2 hq2
 rw[← hj2]at hk
 have hne:i2≤j2→i2≠j2:=by
  intro h e
  subst e
  have h1:=hp2 (by omega)
  have h2:=hq2 (by omega)
  simp only[Bool.not_eq_false']at h1 h2
  rw[h1]at h2;cases h2
 (conv=>whnf);repeat' (first|((first|((with_reducible show Ci _ _ _);refine Hu (i2) ?_)|((with_reducible show Ci _ _ _);refine Hu (j2) ?_)|((with_reducible show eqK _ _);refine NJ BQ (i2) ?_)|((with_reducible show eqK _ _);refine NJ BQ (j2) ?_)|refine kA ?_|(apply Br.mk<;>intro hc))<;>first|exact hc.elim|conv=>whnf)|refine kB ?_)
 ·rw[if_pos (by omega)]at hk
  rw[← hk]
  exact⟨_,rfl,rfl⟩
 ·rw[if_neg (by omega)]at hk
  exact again.mk ⟨_,by omega,i2+1,j2-1,_,z2-1,swp D i2 j2,rfl,by omega,by omega,by omega,by omega,by simpa using hD,hk,rfl,rfl⟩
theorem Ama {Bv:Obj} {g c len:Nat} {nn cl:Bool} {d:Array GR} {a i j:Nat} {z:Int} {Q:AQ→Env→Am→Prop} (hl:d.size=len) (ha:a<len) (hj:j<len) (hs:len<2^61) (hz:z=j) (hi:i≤j+1)
 (hQ:∀c' k tl,k=scanUp (fun x=>BX x d[a]!) d j i→i≤k→k≤j+1→(k≤j→(fun x=>BX x d[a]!) d[k]! =false)→Q (.exit 0) ([(0,.own 1 g 0 len),(1,.int .i64 a),(4,.fn 56 []),(12,.int .i64 k),(13,.int .i64 z)]++tl) ⟨[Bv,.arr g 6 nn cl (vs GR.av d.toList)],c'⟩):
 Run (Ad tab) (.loop l187_0_h l187_0_b) [(0,.own 1 g 0 len),(1,.int .i64 a),(4,.fn 56 []),(12,.int .i64 i),(13,.int .i64 z)] ⟨[Bv,.arr g 6 nn cl (vs GR.av d.toList)],c⟩ Q:=by
 refine Ag (fun m env s=>∃(k c:Nat),m=j+1-k∧i≤k∧k≤j+1∧scanUp (fun x=>BX x d[a]!) d j k=scanUp (fun x=>BX x d[a]!) d j i∧env=[(0,.own 1 g 0 len),(1,.int .i64 a),(4,.fn 56 []),(12,.int .i64 k),(13,.int .i64 z)]∧s=⟨[Bv,.arr g 6 nn cl (vs GR.av d.toList)],c⟩) ?_ _ _ _ ⟨i,c,rfl,by omega,hi,rfl,rfl,rfl⟩
 rintro _ _ _ ⟨k,c,rfl,hik,hkj,hk,rfl,rfl⟩
 refine⟨rfl,?_⟩
 (conv=>whnf);repeat' (first|((first|((with_reducible show Ci _ _ _);refine Hu (k) ?_)|((with_reducible show Ci _ _ _);refine Hu (a) ?_)|apply kE D6|refine Hr (fun hc=>?_) (fun hc=>?_)|refine kA ?_|(apply Br.mk<;>intro hc))<;>first|exact hc.elim|conv=>whnf)|refine kB ?_)
 all_goals first
  |(rw [Zf (by omega) (by first|exact hc|(show (!_)=_;rw[hc];rfl))]at hk
    exact again.mk ⟨_,by omega,k+1,_,rfl,by omega,by omega,hk,rfl,rfl⟩)
  |(rw [Kr (fun _=>(by first|exact hc|(show (!_)=_;rw[hc];rfl)))]at hk
    exact hQ _ _ _ hk hik hkj (fun _=>(by first|exact hc|(show (!_)=_;rw[hc];rfl))))
  |(rw [Kr (fun h=>absurd h (by omega))]at hk
    exact hQ _ _ _ hk hik hkj (fun h=>absurd h (by omega)))
theorem Amb {Bv:Obj} {g c len:Nat} {nn cl:Bool} {d:Array GR} {a i j:Nat} {z:Int} {Q:AQ→Env→Am→Prop} (hl:d.size=len) (ha:a<len) (hj:j<len) (hs:len<2^61) (hz:z=j) (hi:0<i) (hij:i≤j+1)
 (hQ:∀c' k z tl,k=scanDown (fun x=>!BX x d[a]!) d i j→k≤j→i≤k+1→z=(k:Int)→(i≤k→(fun x=>!BX x d[a]!) d[k]! =false)→Q (.exit 2) ([(0,.own 1 g 0 len),(1,.int .i64 a),(4,.fn 56 []),(12,.int .i64 i),(13,.int .i64 z)]++tl) ⟨[Bv,.arr g 6 nn cl (vs GR.av d.toList)],c'⟩):
 Run (Ad tab) (.loop l187_1_h l187_1_b) [(0,.own 1 g 0 len),(1,.int .i64 a),(4,.fn 56 []),(12,.int .i64 i),(13,.int .i64 z)] ⟨[Bv,.arr g 6 nn cl (vs GR.av d.toList)],c⟩ Q:=by
 refine Ag (fun m env s=>∃(k c:Nat) (z:Int),m=k∧z=k∧k≤j∧i≤k+1∧scanDown (fun x=>!BX x d[a]!) d i k=scanDown (fun x=>!BX x d[a]!) d i j∧env=[(0,.own 1 g 0 len),(1,.int .i64 a),(4,.fn 56 []),(12,.int .i64 i),(13,.int .i64 z)]∧s=⟨[Bv,.arr g 6 nn cl (vs GR.av d.toList)],c⟩) ?_ _ _ _ ⟨j,c,z,rfl,hz,by omega,hij,rfl,rfl,rfl⟩
 clear hz
 rintro k _ _ ⟨_,c,z,rfl,hz,hkj,hik,hk,rfl,rfl⟩
 refine⟨rfl,?_⟩
 (conv=>whnf);repeat' (first|((first|((with_reducible show Ci _ _ _);refine Hu (k) ?_)|((with_reducible show Ci _ _ _);refine Hu (a) ?_)|apply kE D6|refine Hr (fun hc=>?_) (fun hc=>?_)|refine kA ?_|(apply Br.mk<;>intro hc))<;>first|exact hc.elim|conv=>whnf)|refine kB ?_)
 all_goals first
  |(obtain ⟨k,rfl⟩:∃k',k=k'+1:=⟨k-1,by omega⟩
    rw[Zg (by omega) (by first|exact hc|(show (!_)=_;rw[hc];rfl))]at hk
    exact again.mk ⟨_,by omega,k,_,z-1,rfl,by omega,by omega,by omega,hk,rfl,rfl⟩)
  |(rw [Kt (fun _=>(by first|exact hc|(show (!_)=_;rw[hc];rfl)))]at hk
    exact hQ _ _ _ _ hk hkj hik hz (fun _=>(by first|exact hc|(show (!_)=_;rw[hc];rfl))))
  |(rw [Kt (fun h=>absurd h (by omega))]at hk
    exact hQ _ _ _ _ hk hkj hik hz (fun h=>absurd h (by omega)))
theorem Amc {Bv:Obj} {g c len:Nat} {nn cl:Bool} {d:Array GR} {a i j:Nat} {z:Int} {Q:AQ→Env→Am→Prop} (hl:d.size=len) (ha:a<len) (hj:j<len) (hs:len<2^61) (hz:z=j) (hi:i≤j+1)
 (hQ:∀c' k tl,k=scanUp (fun x=>BX x d[a]!) d j i→i≤k→k≤j+1→(k≤j→(fun x=>BX x d[a]!) d[k]! =false)→Q (.exit 6) ([(0,.own 1 g 0 len),(1,.int .i64 a),(4,.fn 56 []),(12,.int .i64 k),(13,.int .i64 z)]++tl) ⟨[Bv,.arr g 6 nn cl (vs GR.av d.toList)],c'⟩):
 Run (Ad tab) (.loop l187_2_h l187_2_b) [(0,.own 1 g 0 len),(1,.int .i64 a),(4,.fn 56 []),(12,.int .i64 i),(13,.int .i64 z)] ⟨[Bv,.arr g 6 nn cl (vs GR.av d.toList)],c⟩ Q:=by
 refine Ag (fun m env s=>∃(k c:Nat),m=j+1-k∧i≤k∧k≤j+1∧scanUp (fun x=>BX x d[a]!) d j k=scanUp (fun x=>BX x d[a]!) d j i∧env=[(0,.own 1 g 0 len),(1,.int .i64 a),(4,.fn 56 []),(12,.int .i64 k),(13,.int .i64 z)]∧s=⟨[Bv,.arr g 6 nn cl (vs GR.av d.toList)],c⟩) ?_ _ _ _ ⟨i,c,rfl,by omega,hi,rfl,rfl,rfl⟩
 rintro _ _ _ ⟨k,c,rfl,hik,hkj,hk,rfl,rfl⟩
 refine⟨rfl,?_⟩
 (conv=>whnf);repeat' (first|((first|((with_reducible show Ci _ _ _);refine Hu (k) ?_)|((with_reducible show Ci _ _ _);refine Hu (a) ?_)|apply kE D6|refine Hr (fun hc=>?_) (fun hc=>?_)|refine kA ?_|(apply Br.mk<;>intro hc))<;>first|exact hc.elim|conv=>whnf)|refine kB ?_)
 all_goals first
  |(rw [Zf (by omega) (by first|exact hc|(show (!_)=_;rw[hc];rfl))]at hk
    exact again.mk ⟨_,by omega,k+1,_,rfl,by omega,by omega,hk,rfl,rfl⟩)
  |(rw [Kr (fun _=>(by first|exact hc|(show (!_)=_;rw[hc];rfl)))]at hk
    exact hQ _ _ _ hk hik hkj (fun _=>(by first|exact hc|(show (!_)=_;rw[hc];rfl))))
  |(rw [Kr (fun h=>absurd h (by omega))]at hk
    exact hQ _ _ _ hk hik hkj (fun h=>absurd h (by omega)))
theorem Amd {Bv:Obj} {g c len:Nat} {nn cl:Bool} {d:Array GR} {a i j:Nat} {z:Int} {Q:AQ→Env→Am→Prop} (hl:d.size=len) (ha:a<len) (hj:j<len) (hs:len<2^61) (hz:z=j) (hi:0<i) (hij:i≤j+1)
 (hQ:∀c' k z tl,k=scanDown (fun x=>!BX x d[a]!) d i j→k≤j→i≤k+1→z=(k:Int)→(i≤k→(fun x=>!BX x d[a]!) d[k]! =false)→Q (.exit 8) ([(0,.own 1 g 0 len),(1,.int .i64 a),(4,.fn 56 []),(12,.int .i64 i),(13,.int .i64 z)]++tl) ⟨[Bv,.arr g 6 nn cl (vs GR.av d.toList)],c'⟩):
 Run (Ad tab) (.loop l187_3_h l187_3_b) [(0,.own 1 g 0 len),(1,.int .i64 a),(4,.fn 56 []),(12,.int .i64 i),(13,.int .i64 z)] ⟨[Bv,.arr g 6 nn cl (vs GR.av d.toList)],c⟩ Q:=by
 refine Ag (fun m env s=>∃(k c:Nat) (z:Int),m=k∧z=k∧k≤j∧i≤k+1∧scanDown (fun x=>!BX x d[a]!) d i k=scanDown (fun x=>!BX x d[a]!) d i j∧env=[(0,.own 1 g 0 len),(1,.int .i64 a),(4,.fn 56 []),(12,.int .i64 i),(13,.int .i64 z)]∧s=⟨[Bv,.arr g 6 nn cl (vs GR.av d.toList)],c⟩) ?_ _ _ _ ⟨j,c,z,rfl,hz,by omega,hij,rfl,rfl,rfl⟩
 clear hz
 rintro k _ _ ⟨_,c,z,rfl,hz,hkj,hik,hk,rfl,rfl⟩
 refine⟨rfl,?_⟩
 (conv=>whnf);repeat' (first|((first|((with_reducible show Ci _ _ _);refine Hu (k) ?_)|((with_reducible show Ci _ _ _);refine Hu (a) ?_)|apply kE D6|refine Hr (fun hc=>?_) (fun hc=>?_)|refine kA ?_|(apply Br.mk<;>intro hc))<;>first|exact hc.elim|conv=>whnf)|refine kB ?_)
 all_goals first
  |(obtain ⟨k,rfl⟩:∃k',k=k'+1:=⟨k-1,by omega⟩
    rw[Zg (by omega) (by first|exact hc|(show (!_)=_;rw[hc];rfl))]at hk
    exact again.mk ⟨_,by omega,k,_,z-1,rfl,by omega,by omega,by omega,hk,rfl,rfl⟩)
  |(rw [Kt (fun _=>(by first|exact hc|(show (!_)=_;rw[hc];rfl)))]at hk
    exact hQ _ _ _ _ hk hkj hik hz (fun _=>(by first|exact hc|(show (!_)=_;rw[hc];rfl))))
  |(rw [Kt (fun h=>absurd h (by omega))]at hk
    exact hQ _ _ _ _ hk hkj hik hz (fun h=>absurd h (by omega)))
set_option maxHeartbeats 1000000 in
theorem Agy {Bv:Obj} {g c len:Nat} {nn cl:Bool} {d:Array GR} {a b i j:Nat} {z:Int} {Q:AQ→Env→Am→Prop} (hl:d.size=len) (hb:b≤len) (hs:len<2^61) (hz:z=j) (hai:a<i) (hij:i≤j+1) (hjb:j<b)
 (hQ:∀c' x y tl,y=((partLoop BX a i j d).1:Int)→(partLoop BX a i j d).1<b→(partLoop BX a i j d).2.size=len→Q (.exit 4) ([(0,.own 1 g 0 len),(1,.int .i64 a),(4,.fn 56 []),(12,x),(13,.int .i64 y)]++tl) ⟨[Bv,.arr g 6 nn cl (vs GR.av (partLoop BX a i j d).2.toList)],c'⟩):
 Run (Ad tab) (.loop l187_4_h l187_4_b) [(0,.own 1 g 0 len),(1,.int .i64 a),(4,.fn 56 []),(12,.int .i64 i),(13,.int .i64 z)] ⟨[Bv,.arr g 6 nn cl (vs GR.av d.toList)],c⟩ Q:=by
 refine Ag (fun m env s=>∃(i' j' c:Nat) (z:Int) (D:Array GR),m=j'+1-i'∧z=j'∧a<i'∧i'≤j'+1∧j'<b∧D.size=len∧partLoop BX a i' j' D=partLoop BX a i j d∧env=[(0,.own 1 g 0 len),(1,.int .i64 a),(4,.fn 56 []),(12,.int .i64 i'),(13,.int .i64 z)]∧s=⟨[Bv,.arr g 6 nn cl (vs GR.av D.toList)],c⟩) ?_ _ _ _ ⟨i,j,c,z,d,rfl,hz,hai,hij,hjb,hl,rfl,rfl,rfl⟩
 clear hz
 rintro _ _ _ ⟨i',j',c,z,D,rfl,hz,hai,hij,hjb,hD,hk,rfl,rfl⟩
 refine⟨rfl,?_⟩
 rw[partLoop_eq]at hk
 (conv=>whnf);repeat' (first|((first|refine kA ?_|(apply Br.mk<;>intro hc))<;>first|exact hc.elim|conv=>whnf)|refine kB ?_)
 refine Amc hD (by omega) (by omega) hs hz hij ?_
 intro c1 i2 tl1 hi2 hii2 AdN hp2
 rw[← hi2]at hk
 (conv=>whnf);repeat' (first|((first|refine kA ?_|(apply Br.mk<;>intro hc))<;>first|exact hc.elim|conv=>whnf)|refine kB ?_)
 refine Amd hD (by omega) (by omega) hs hz (by omega) AdN ?_
 intro c2 j2 z2 tl2 hj2 Al9 Ais hz2 hq2
 rw[← hj2]at hk
 have hne:i2≤j2→i2≠j2:=by
  intro h e
  subst e
  have h1:=hp2 (by omega)
  have h2:=hq2 (by omega)
  simp only[Bool.not_eq_false']at h1 h2
  rw[h1]at h2;cases h2
 (conv=>whnf);repeat' (first|((first|((with_reducible show Ci _ _ _);refine Hu (i2) ?_)|((with_reducible show Ci _ _ _);refine Hu (j2) ?_)|((with_reducible show eqK _ _);refine NJ BQ (i2) ?_)|((with_reducible show eqK _ _);refine NJ BQ (j2) ?_)|refine kA ?_|(apply Br.mk<;>intro hc))<;>first|exact hc.elim|conv=>whnf)|refine kB ?_)
 ·rw[if_pos (by omega)]at hk
  rw[← hk]at hQ
  exact hQ _ _ _ _ hz2 (by show j2<b;omega) hD
 ·rw[if_neg (by omega)]at hk
  exact again.mk ⟨_,by omega,i2+1,j2-1,_,z2-1,swp D i2 j2,rfl,by omega,by omega,by omega,by omega,by simpa using hD,hk,rfl,rfl⟩
set_option maxHeartbeats 2000000 in
theorem Ame {Bv:Obj} {g c len:Nat} {nn cl:Bool} {d:Array GR} {a b pivot:Nat} (hl:d.size=len) (hb:b≤len) (hap:a≤pivot) (hpb:pivot<b) (hs:len<2^61):
 Ar (Ad tab) 187 [.own 1 g 0 len,.int .i64 a,.int .i64 b,.int .i64 pivot,.fn 56 []] ⟨[Bv,.arr g 6 nn cl (vs GR.av d.toList)],c⟩ fun out s'=>∃c',out=.ok (.BD [.int .i64 (partition BX d a b pivot).1,.bool (partition BX d a b pivot).2.1])∧s'=⟨[Bv,.arr g 6 nn cl (vs GR.av (partition BX d a b pivot).2.2.toList)],c'⟩:=by
 generalize hR:partition BX d a b pivot=R
 unfold partition at hR
 dsimp only at hR
 refine Ai rfl rfl ?_
 (conv=>whnf);repeat' (first|((first|((with_reducible show Ci _ _ _);refine Hu (a) ?_)|((with_reducible show Ci _ _ _);refine Hu (pivot) ?_)|((with_reducible show eqK _ _);refine NJ BQ (a) ?_)|((with_reducible show eqK _ _);refine NJ BQ (pivot) ?_)|refine kA ?_|(apply Br.mk<;>intro hc))<;>first|exact hc.elim|conv=>whnf)|refine kB ?_)
 refine Ama (d:=swp d a pivot) (i:=a+1) (j:=b-1) (by simpa using hl) (by omega) (by omega) hs (by omega) (by omega) ?_
 intro c1 i2 tl1 hi2 hii2 AdN hp2
 rw[← hi2]at hR
 (conv=>whnf);repeat' (first|((first|refine kA ?_|(apply Br.mk<;>intro hc))<;>first|exact hc.elim|conv=>whnf)|refine kB ?_)
 refine Amb (j:=b-1) (by simpa using hl) (by omega) (by omega) hs (by omega) (by omega) AdN ?_
 intro c2 j2 z2 tl2 hj2 Al9 Ais hz2 hq2
 rw[← hj2]at hR
 have hne:i2≤j2→i2≠j2:=by
  intro h e
  subst e
  have h1:=hp2 (by omega)
  have h2:=hq2 (by omega)
  simp only[Bool.not_eq_false']at h1 h2
  rw[h1]at h2;cases h2
 clear hp2 hq2
 generalize hE:swp d a pivot=E at*
 have hEl:E.size=len:=by rw[← hE];simpa using hl
 (conv=>whnf);repeat' (first|((first|((with_reducible show Ci _ _ _);refine Hu (a) ?_)|((with_reducible show Ci _ _ _);refine Hu (i2) ?_)|((with_reducible show Ci _ _ _);refine Hu (j2) ?_)|((with_reducible show eqK _ _);refine NJ BQ (a) ?_)|((with_reducible show eqK _ _);refine NJ BQ (i2) ?_)|((with_reducible show eqK _ _);refine NJ BQ (j2) ?_)|refine kA ?_|(apply Br.mk<;>intro hc))<;>first|exact hc.elim|conv=>whnf)|refine kB ?_)
 ·rw[if_pos (by omega)]at hR
  subst hR
  rw[hz2]
  exact⟨_,rfl,rfl⟩
 ·rw[if_neg (by omega)]at hR
  refine Agy (d:=swp E i2 j2) (i:=i2+1) (j:=j2-1) (by simpa using hEl) hb hs (by omega) (by omega) (by omega) (by omega) ?_
  intro c3 x y tl3 hy hyb hsz
  generalize (partLoop BX a (i2+1) (j2-1) (swp E i2 j2)).1=p1 at*
  generalize (partLoop BX a (i2+1) (j2-1) (swp E i2 j2)).2=p2 at*
  subst hy
  (conv=>whnf);repeat' (first|((first|((with_reducible show Ci _ _ _);refine Hu (a) ?_)|((with_reducible show Ci _ _ _);refine Hu (p1) ?_)|((with_reducible show eqK _ _);refine NJ BQ (a) ?_)|((with_reducible show eqK _ _);refine NJ BQ (p1) ?_)|refine kA ?_|(apply Br.mk<;>intro hc))<;>first|exact hc.elim|conv=>whnf)|refine kB ?_)
  subst hR
  exact⟨_,rfl,rfl⟩
end AI
end Go.Proofs.YtjijnamhalgamaaGreatDoor
