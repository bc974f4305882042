/- Sorting in place (CmpFunc[graphdb/api.Pair]): sorted or nearly so; the partitions. -/
import Derived.Test.YthjeehjphekjmaaGreatDoorWMal
import Derived.Test.YthjeehjphekjmaaGreatDoorWMab
set_option linter.unusedVariables false
set_option maxRecDepth 4000
namespace Go.Proofs.YthjeehjphekjmaaGreatDoor
namespace AI
open Go.Sort
theorem Aaa {Ap Bv BD BK:Obj} {g c len:Nat} {nn cl:Bool} {d:Array (Int×Int)} {a b i:Nat} {z:Int} {Q:Ak→Env→Ag→Prop} (hl:d.size=len) (hb:b≤len) (hs:len<2^61) (hi:0<i) (hib:i≤b)
 (hQ:∀c' k tl,k=scanSorted Cj d b i→i≤k→k≤b→Q (.exit 2) ([(0,.own 3 g 0 len),(1,.int .i64 a),(2,.int .i64 b),(3,.fn 36 []),(9,.int .i64 k),(10,.int .i64 z)]++tl) ⟨[Ap,Bv,BD,.arr g 2 nn cl (vs Az d.toList),BK],c'⟩):
 Run (Ac tab) (.loop l106_0_h l106_0_b) [(0,.own 3 g 0 len),(1,.int .i64 a),(2,.int .i64 b),(3,.fn 36 []),(9,.int .i64 i),(10,.int .i64 z)] ⟨[Ap,Bv,BD,.arr g 2 nn cl (vs Az d.toList),BK],c⟩ Q:=by
 refine Ae (fun m env s=>∃(k c:Nat),m=b-k∧i≤k∧k≤b∧scanSorted Cj d b k=scanSorted Cj d b i∧env=[(0,.own 3 g 0 len),(1,.int .i64 a),(2,.int .i64 b),(3,.fn 36 []),(9,.int .i64 k),(10,.int .i64 z)]∧s=⟨[Ap,Bv,BD,.arr g 2 nn cl (vs Az d.toList),BK],c⟩) ?_ _ _ _ ⟨i,c,rfl,by omega,hib,rfl,rfl,rfl⟩
 rintro _ _ _ ⟨k,c,rfl,hik,hkb,hk,rfl,rfl⟩
 refine⟨rfl,?_⟩
 (conv=>whnf);repeat' (first|((with_reducible show AY _ _ _);refine CG (k) ?_;conv=>whnf)|((with_reducible show AY _ _ _);refine CG (k-1) ?_;conv=>whnf)|(refine Aa Eu ?_;rintro _ rfl;conv=>whnf)|(refine FP (fun hc=>?_) (fun hc=>?_)<;>conv=>whnf)|(refine kA ?_;conv=>whnf)|(refine Br.mk (fun hc=>?_) fun hc=>?_<;>first|exact hc.elim|conv=>whnf)|(refine kB ?_))
 all_goals first
  |(rw [TS (by omega) hc]at hk
    exact again.mk ⟨_,by omega,k+1,_,rfl,by omega,by omega,hk,rfl,rfl⟩)
  |(rw [IV (fun _=>hc)]at hk
    exact hQ _ _ _ hk hik hkb)
  |(rw [IV (fun h=>absurd h (by omega))]at hk
    exact hQ _ _ _ hk hik hkb)
theorem Aab {Ap Bv BD BK:Obj} {g c len:Nat} {nn cl:Bool} {d:Array (Int×Int)} {a b i j:Nat} {z y:Int} {Q:Ak→Env→Ag→Prop} (hl:d.size=len) (hs:len<2^61) (hj:j<len) (hy:y=j)
 (hQ:∀c' tl,Q (.exit 4) ([(0,.own 3 g 0 len),(1,.int .i64 a),(2,.int .i64 b),(3,.fn 36 []),(9,.int .i64 i),(10,.int .i64 z)]++tl) ⟨[Ap,Bv,BD,.arr g 2 nn cl (vs Az (shiftDown Cj j d).toList),BK],c'⟩):
 Run (Ac tab) (.loop l106_1_h l106_1_b) [(0,.own 3 g 0 len),(1,.int .i64 a),(2,.int .i64 b),(3,.fn 36 []),(9,.int .i64 i),(10,.int .i64 z),(11,.int .i64 y)] ⟨[Ap,Bv,BD,.arr g 2 nn cl (vs Az d.toList),BK],c⟩ Q:=by
 refine Ae (fun m env s=>∃(k c:Nat) (y:Int) (D:Array (Int×Int)),m=k∧y=k∧k≤j∧D.size=len∧shiftDown Cj k D=shiftDown Cj j d∧env=[(0,.own 3 g 0 len),(1,.int .i64 a),(2,.int .i64 b),(3,.fn 36 []),(9,.int .i64 i),(10,.int .i64 z),(11,.int .i64 y)]∧s=⟨[Ap,Bv,BD,.arr g 2 nn cl (vs Az D.toList),BK],c⟩) ?_ _ _ _ ⟨j,c,y,d,rfl,hy,by omega,hl,rfl,rfl,rfl⟩
 clear hy
 rintro k _ _ ⟨_,c,y,D,rfl,hy,hkj,hD,hk,rfl,rfl⟩
 refine⟨rfl,?_⟩
 cases k with
 |zero=>
  rw[← hk]at hQ
  (conv=>whnf);repeat' (first  |(refine kA ?_;conv=>whnf)|(refine Br.mk (fun hc=>?_) fun hc=>?_<;>first|exact hc.elim|conv=>whnf)|(refine kB ?_))
  exact hQ _ _
 |succ k=>
  (conv=>whnf);repeat' (first|((with_reducible show AY _ _ _);refine CG (k+1) ?_;conv=>whnf)|((with_reducible show AY _ _ _);refine CG (k) ?_;conv=>whnf)|(refine Aa Eu ?_;rintro _ rfl;conv=>whnf)|(refine FP (fun hc=>?_) (fun hc=>?_)<;>conv=>whnf)|((with_reducible show eqK _ _);refine EP Bd (k+1) ?_;conv=>whnf)|((with_reducible show eqK _ _);refine EP Bd (k) ?_;conv=>whnf)|(refine kA ?_;conv=>whnf)|(refine Br.mk (fun hc=>?_) fun hc=>?_<;>first|exact hc.elim|conv=>whnf)|(refine kB ?_))
  ·rw[Yt hc]at hk
   exact again.mk ⟨_,by omega,k,_,y-1,swp D (k+1) k,rfl,by omega,by omega,by simpa using hD,hk,rfl,rfl⟩
  ·rw[TT hc]at hk
   rw[← hk]at hQ
   exact hQ _ _
theorem Aac {Ap Bv BD BK:Obj} {g c len:Nat} {nn cl:Bool} {d:Array (Int×Int)} {a b i j:Nat} {z:Int} {Q:Ak→Env→Ag→Prop} (hl:d.size=len) (hs:len<2^61) (hj:0<j) (hb:b≤len)
 (hQ:∀c' tl,Q (.exit 6) ([(0,.own 3 g 0 len),(1,.int .i64 a),(2,.int .i64 b),(3,.fn 36 []),(9,.int .i64 i),(10,.int .i64 z)]++tl) ⟨[Ap,Bv,BD,.arr g 2 nn cl (vs Az (shiftUp Cj b j d).toList),BK],c'⟩):
 Run (Ac tab) (.loop l106_2_h l106_2_b) [(0,.own 3 g 0 len),(1,.int .i64 a),(2,.int .i64 b),(3,.fn 36 []),(9,.int .i64 i),(10,.int .i64 z),(12,.int .i64 j)] ⟨[Ap,Bv,BD,.arr g 2 nn cl (vs Az d.toList),BK],c⟩ Q:=by
 refine Ae (fun m env s=>∃(k c:Nat) (D:Array (Int×Int)),m=b-k∧j≤k∧D.size=len∧shiftUp Cj b k D=shiftUp Cj b j d∧env=[(0,.own 3 g 0 len),(1,.int .i64 a),(2,.int .i64 b),(3,.fn 36 []),(9,.int .i64 i),(10,.int .i64 z),(12,.int .i64 k)]∧s=⟨[Ap,Bv,BD,.arr g 2 nn cl (vs Az D.toList),BK],c⟩) ?_ _ _ _ ⟨j,c,d,rfl,by omega,hl,rfl,rfl,rfl⟩
 rintro _ _ _ ⟨k,c,D,rfl,hjk,hD,hk,rfl,rfl⟩
 refine⟨rfl,?_⟩
 (conv=>whnf);repeat' (first|((with_reducible show AY _ _ _);refine CG (k) ?_;conv=>whnf)|((with_reducible show AY _ _ _);refine CG (k-1) ?_;conv=>whnf)|(refine Aa Eu ?_;rintro _ rfl;conv=>whnf)|(refine FP (fun hc=>?_) (fun hc=>?_)<;>conv=>whnf)|((with_reducible show eqK _ _);refine EP Bd (k) ?_;conv=>whnf)|((with_reducible show eqK _ _);refine EP Bd (k-1) ?_;conv=>whnf)|(refine kA ?_;conv=>whnf)|(refine Br.mk (fun hc=>?_) fun hc=>?_<;>first|exact hc.elim|conv=>whnf)|(refine kB ?_))
 ·rw[Yu (by omega) hc]at hk
  exact again.mk ⟨_,by omega,k+1,_,swp D k (k-1),rfl,by omega,by simpa using hD,hk,rfl,rfl⟩
 ·rw[LH (fun _=>hc)]at hk
  rw[← hk]at hQ
  exact hQ _ _
 ·rw[LH (fun h=>absurd h (by omega))]at hk
  rw[← hk]at hQ
  exact hQ _ _
set_option maxHeartbeats 2000000 in
theorem Aca {Ap Bv BD BK:Obj} {g c len:Nat} {nn cl:Bool} {d:Array (Int×Int)} {a b:Nat} (hl:d.size=len) (hb:b≤len) (hab:a<b) (hs:len<2^61):
 AQ (Ac tab) 106 [.own 3 g 0 len,.int .i64 a,.int .i64 b,.fn 36 []] ⟨[Ap,Bv,BD,.arr g 2 nn cl (vs Az d.toList),BK],c⟩ fun out s'=>∃c',out=.ok (.bool (partialInsertionSort Cj d a b).2)∧s'=⟨[Ap,Bv,BD,.arr g 2 nn cl (vs Az (partialInsertionSort Cj d a b).1.toList),BK],c'⟩:=by
 refine Ar rfl rfl ?_
 (conv=>whnf);repeat' (first  |(refine kA ?_;conv=>whnf)|(refine Br.mk (fun hc=>?_) fun hc=>?_<;>first|exact hc.elim|conv=>whnf)|(refine kB ?_))
 refine Ae (fun m env s=>∃(k i c:Nat) (z:Int) (D:Array (Int×Int)),m=k∧z=5-k∧k≤5∧a<i∧i≤b∧D.size=len∧partialIns Cj a b k i D=partialInsertionSort Cj d a b∧env=[(0,.own 3 g 0 len),(1,.int .i64 a),(2,.int .i64 b),(3,.fn 36 []),(9,.int .i64 i),(10,.int .i64 z)]∧s=⟨[Ap,Bv,BD,.arr g 2 nn cl (vs Az D.toList),BK],c⟩) ?_ _ _ _ ⟨5,a+1,c,0,d,rfl,by omega,by omega,by omega,by omega,hl,rfl,rfl,rfl⟩
 rintro k _ _ ⟨_,i,c,z,D,rfl,hz,hk5,hai,hib,hD,hk,rfl,rfl⟩
 refine⟨rfl,?_⟩
 cases k with
 |zero=>
  rw[← hk]
  (conv=>whnf);repeat' (first  |(refine kA ?_;conv=>whnf)|(refine Br.mk (fun hc=>?_) fun hc=>?_<;>first|exact hc.elim|conv=>whnf)|(refine kB ?_))
  exact⟨_,rfl,rfl⟩
 |succ k=>
  rw[partialIns_succ]at hk
  (conv=>whnf);repeat' (first  |(refine kA ?_;conv=>whnf)|(refine Br.mk (fun hc=>?_) fun hc=>?_<;>first|exact hc.elim|conv=>whnf)|(refine kB ?_))
  refine Aaa hD hb hs (by omega) hib ?_
  intro c1 j tl hj hij hjb
  rw[← hj]at hk
  have hend:∀(c:Nat) (E:Array (Int×Int)) (z':Int),z'=5-(k:Int)→E.size=len→E=fixUp Cj b j (fixDown Cj a j (swp D j (j-1)))→¬j=b→¬b-a<50→again (fun m env s=>∃(k i c:Nat) (z:Int) (D:Array (Int×Int)),m=k∧z=5-k∧k≤5∧a<i∧i≤b∧D.size=len∧partialIns Cj a b k i D=partialInsertionSort Cj d a b∧env=[(0,.own 3 g 0 len),(1,.int .i64 a),(2,.int .i64 b),(3,.fn 36 []),(9,.int .i64 i),(10,.int .i64 z)]∧s=⟨[Ap,Bv,BD,.arr g 2 nn cl (vs Az D.toList),BK],c⟩) (k+1) [(0,.own 3 g 0 len),(1,.int .i64 a),(2,.int .i64 b),(3,.fn 36 []),(9,.int .i64 j),(10,.int .i64 z')] ⟨[Ap,Bv,BD,.arr g 2 nn cl (vs Az E.toList),BK],c⟩:=by
   intro c E z' hz' hE hE2 h1 h2
   rw[if_neg h1,if_neg h2]at hk
   refine again.mk ⟨_,by omega,k,j,c,z',E,rfl,hz',by omega,by omega,by omega,hE,?_,rfl,rfl⟩
   rw[hE2];exact hk
  (conv=>whnf);repeat' (first|((with_reducible show AY _ _ _);refine CG (j) ?_;conv=>whnf)|((with_reducible show AY _ _ _);refine CG (j-1) ?_;conv=>whnf)|((with_reducible show eqK _ _);refine EP Bd (j) ?_;conv=>whnf)|((with_reducible show eqK _ _);refine EP Bd (j-1) ?_;conv=>whnf)|(refine kA ?_;conv=>whnf)|(refine Br.mk (fun hc=>?_) fun hc=>?_<;>first|exact hc.elim|conv=>whnf)|(refine kB ?_))
  ·rw[if_pos (by omega)]at hk
   rw[← hk]
   exact⟨_,rfl,rfl⟩
  ·rw[if_neg (by omega),if_pos (by omega)]at hk
   rw[← hk]
   exact⟨_,rfl,rfl⟩
  ·refine Aab (d:=swp D j (j-1)) (j:=j-1) (by simpa using hD) hs (by omega) (by omega) ?_
   intro c2 tl2
   (conv=>whnf);repeat' (first  |(refine kA ?_;conv=>whnf)|(refine Br.mk (fun hc=>?_) fun hc=>?_<;>first|exact hc.elim|conv=>whnf)|(refine kB ?_))
   ·refine Aac (j:=j+1) (by simpa using hD) hs (by omega) hb ?_
    intro c3 tl3
    (conv=>whnf);repeat' (first  |(refine kA ?_;conv=>whnf)|(refine Br.mk (fun hc=>?_) fun hc=>?_<;>first|exact hc.elim|conv=>whnf)|(refine kB ?_))
    refine hend _ _ _ (by omega) (by simpa using hD) ?_ (by omega) (by omega)
    unfold fixUp fixDown
    rw[if_pos (by omega),if_pos (by omega)]
   ·refine hend _ _ _ (by omega) (by simpa using hD) ?_ (by omega) (by omega)
    unfold fixUp fixDown
    rw[if_neg (by omega),if_pos (by omega)]
  ·refine Aac (d:=swp D j (j-1)) (j:=j+1) (by simpa using hD) hs (by omega) hb ?_
   intro c3 tl3
   (conv=>whnf);repeat' (first  |(refine kA ?_;conv=>whnf)|(refine Br.mk (fun hc=>?_) fun hc=>?_<;>first|exact hc.elim|conv=>whnf)|(refine kB ?_))
   refine hend _ _ _ (by omega) (by simpa using hD) ?_ (by omega) (by omega)
   unfold fixUp fixDown
   rw[if_pos (by omega),if_neg (by omega)]
theorem Afy {Ap Bv BD BK:Obj} {g c len:Nat} {nn cl:Bool} {d:Array (Int×Int)} {a i j:Nat} {z:Int} {Q:Ak→Env→Ag→Prop} (hl:d.size=len) (ha:a<len) (hj:j<len) (hs:len<2^61) (hz:z=j) (hi:i≤j+1)
 (hQ:∀c' k tl,k=scanUp (fun x=>!Cj d[a]! x) d j i→i≤k→k≤j+1→(k≤j→(fun x=>!Cj d[a]! x) d[k]! =false)→Q (.exit 2) ([(0,.own 3 g 0 len),(1,.int .i64 a),(4,.fn 36 []),(11,.int .i64 k),(12,.int .i64 z)]++tl) ⟨[Ap,Bv,BD,.arr g 2 nn cl (vs Az d.toList),BK],c'⟩):
 Run (Ac tab) (.loop l107_0_h l107_0_b) [(0,.own 3 g 0 len),(1,.int .i64 a),(4,.fn 36 []),(11,.int .i64 i),(12,.int .i64 z)] ⟨[Ap,Bv,BD,.arr g 2 nn cl (vs Az d.toList),BK],c⟩ Q:=by
 refine Ae (fun m env s=>∃(k c:Nat),m=j+1-k∧i≤k∧k≤j+1∧scanUp (fun x=>!Cj d[a]! x) d j k=scanUp (fun x=>!Cj d[a]! x) d j i∧env=[(0,.own 3 g 0 len),(1,.int .i64 a),(4,.fn 36 []),(11,.int .i64 k),(12,.int .i64 z)]∧s=⟨[Ap,Bv,BD,.arr g 2 nn cl (vs Az d.toList),BK],c⟩) ?_ _ _ _ ⟨i,c,rfl,by omega,hi,rfl,rfl,rfl⟩
 rintro _ _ _ ⟨k,c,rfl,hik,hkj,hk,rfl,rfl⟩
 refine⟨rfl,?_⟩
 (conv=>whnf);repeat' (first|((with_reducible show AY _ _ _);refine CG (k) ?_;conv=>whnf)|((with_reducible show AY _ _ _);refine CG (a) ?_;conv=>whnf)|(refine Aa Eu ?_;rintro _ rfl;conv=>whnf)|(refine FP (fun hc=>?_) (fun hc=>?_)<;>conv=>whnf)|(refine kA ?_;conv=>whnf)|(refine Br.mk (fun hc=>?_) fun hc=>?_<;>first|exact hc.elim|conv=>whnf)|(refine kB ?_))
 all_goals first
  |(rw [Ns (by omega) (by first|exact hc|(show (!_)=_;rw[hc];rfl))]at hk
    exact again.mk ⟨_,by omega,k+1,_,rfl,by omega,by omega,hk,rfl,rfl⟩)
  |(rw [DU (fun _=>(by first|exact hc|(show (!_)=_;rw[hc];rfl)))]at hk
    exact hQ _ _ _ hk hik hkj (fun _=>(by first|exact hc|(show (!_)=_;rw[hc];rfl))))
  |(rw [DU (fun h=>absurd h (by omega))]at hk
    exact hQ _ _ _ hk hik hkj (fun h=>absurd h (by omega)))
theorem Afz {Ap Bv BD BK:Obj} {g c len:Nat} {nn cl:Bool} {d:Array (Int×Int)} {a i j:Nat} {z:Int} {Q:Ak→Env→Ag→Prop} (hl:d.size=len) (ha:a<len) (hj:j<len) (hs:len<2^61) (hz:z=j) (hi:0<i) (hij:i≤j+1)
 (hQ:∀c' k z tl,k=scanDown (fun x=>Cj d[a]! x) d i j→k≤j→i≤k+1→z=(k:Int)→(i≤k→(fun x=>Cj d[a]! x) d[k]! =false)→Q (.exit 4) ([(0,.own 3 g 0 len),(1,.int .i64 a),(4,.fn 36 []),(11,.int .i64 i),(12,.int .i64 z)]++tl) ⟨[Ap,Bv,BD,.arr g 2 nn cl (vs Az d.toList),BK],c'⟩):
 Run (Ac tab) (.loop l107_1_h l107_1_b) [(0,.own 3 g 0 len),(1,.int .i64 a),(4,.fn 36 []),(11,.int .i64 i),(12,.int .i64 z)] ⟨[Ap,Bv,BD,.arr g 2 nn cl (vs Az d.toList),BK],c⟩ Q:=by
 refine Ae (fun m env s=>∃(k c:Nat) (z:Int),m=k∧z=k∧k≤j∧i≤k+1∧scanDown (fun x=>Cj d[a]! x) d i k=scanDown (fun x=>Cj d[a]! x) d i j∧env=[(0,.own 3 g 0 len),(1,.int .i64 a),(4,.fn 36 []),(11,.int .i64 i),(12,.int .i64 z)]∧s=⟨[Ap,Bv,BD,.arr g 2 nn cl (vs Az d.toList),BK],c⟩) ?_ _ _ _ ⟨j,c,z,rfl,hz,by omega,hij,rfl,rfl,rfl⟩
 clear hz
 rintro k _ _ ⟨_,c,z,rfl,hz,hkj,hik,hk,rfl,rfl⟩
 refine⟨rfl,?_⟩
 (conv=>whnf);repeat' (first|((with_reducible show AY _ _ _);refine CG (k) ?_;conv=>whnf)|((with_reducible show AY _ _ _);refine CG (a) ?_;conv=>whnf)|(refine Aa Eu ?_;rintro _ rfl;conv=>whnf)|(refine FP (fun hc=>?_) (fun hc=>?_)<;>conv=>whnf)|(refine kA ?_;conv=>whnf)|(refine Br.mk (fun hc=>?_) fun hc=>?_<;>first|exact hc.elim|conv=>whnf)|(refine kB ?_))
 all_goals first
  |(obtain ⟨k,rfl⟩:∃k',k=k'+1:=⟨k-1,by omega⟩
    rw[Nu (by omega) (by first|exact hc|(show (!_)=_;rw[hc];rfl))]at hk
    exact again.mk ⟨_,by omega,k,_,z-1,rfl,by omega,by omega,by omega,hk,rfl,rfl⟩)
  |(rw [DV (fun _=>(by first|exact hc|(show (!_)=_;rw[hc];rfl)))]at hk
    exact hQ _ _ _ _ hk hkj hik hz (fun _=>(by first|exact hc|(show (!_)=_;rw[hc];rfl))))
  |(rw [DV (fun h=>absurd h (by omega))]at hk
    exact hQ _ _ _ _ hk hkj hik hz (fun h=>absurd h (by omega)))
set_option maxHeartbeats 1000000 in
theorem AdU {Ap Bv BD BK:Obj} {g c len:Nat} {nn cl:Bool} {d:Array (Int×Int)} {a b pivot:Nat} (hl:d.size=len) (hb:b≤len) (hap:a≤pivot) (hpb:pivot<b) (hs:len<2^61):
 AQ (Ac tab) 107 [.own 3 g 0 len,.int .i64 a,.int .i64 b,.int .i64 pivot,.fn 36 []] ⟨[Ap,Bv,BD,.arr g 2 nn cl (vs Az d.toList),BK],c⟩ fun out s'=>∃c',out=.ok (.int .i64 (partitionEqual Cj d a b pivot).1)∧s'=⟨[Ap,Bv,BD,.arr g 2 nn cl (vs Az (partitionEqual Cj d a b pivot).2.toList),BK],c'⟩:=by
 refine Ar rfl rfl ?_
 (conv=>whnf);repeat' (first|((with_reducible show AY _ _ _);refine CG (a) ?_;conv=>whnf)|((with_reducible show AY _ _ _);refine CG (pivot) ?_;conv=>whnf)|((with_reducible show eqK _ _);refine EP Bd (a) ?_;conv=>whnf)|((with_reducible show eqK _ _);refine EP Bd (pivot) ?_;conv=>whnf)|(refine kA ?_;conv=>whnf)|(refine Br.mk (fun hc=>?_) fun hc=>?_<;>first|exact hc.elim|conv=>whnf)|(refine kB ?_))
 refine Ae (fun m env s=>∃(i j c:Nat) (z:Int) (D:Array (Int×Int)),m=j+1-i∧z=j∧a<i∧i≤j+1∧j<b∧D.size=len∧partEqLoop Cj a i j D=partitionEqual Cj d a b pivot∧env=[(0,.own 3 g 0 len),(1,.int .i64 a),(4,.fn 36 []),(11,.int .i64 i),(12,.int .i64 z)]∧s=⟨[Ap,Bv,BD,.arr g 2 nn cl (vs Az D.toList),BK],c⟩) ?_ _ _ _ ⟨a+1,b-1,_,_,swp d a pivot,rfl,by omega,by omega,by omega,by omega,by simpa using hl,rfl,rfl,rfl⟩
 rintro _ _ _ ⟨i,j,c,z,D,rfl,hz,hai,hij,hjb,hD,hk,rfl,rfl⟩
 refine⟨rfl,?_⟩
 rw[partEqLoop_eq]at hk
 (conv=>whnf);repeat' (first  |(refine kA ?_;conv=>whnf)|(refine Br.mk (fun hc=>?_) fun hc=>?_<;>first|exact hc.elim|conv=>whnf)|(refine kB ?_))
 refine Afy hD (by omega) (by omega) hs hz hij ?_
 intro c1 i2 tl1 hi2 hii2 Qn hp2
 rw[← hi2]at hk
 (conv=>whnf);repeat' (first  |(refine kA ?_;conv=>whnf)|(refine Br.mk (fun hc=>?_) fun hc=>?_<;>first|exact hc.elim|conv=>whnf)|(refine kB ?_))
 refine Afz hD (by omega) (by omega) hs hz (by omega) Qn ?_
 intro c2 j2 z2 tl2 hj2 Z9 U5 hz2 hq2
 rw[← hj2]at hk
 have hne:i2≤j2→i2≠j2:=by
  intro h e
  subst e
  have h1:=hp2 (by omega)
  have h2:=hq2 (by omega)
  simp only[Bool.not_eq_false']at h1 h2
  rw[h1]at h2;cases h2
 (conv=>whnf);repeat' (first|((with_reducible show AY _ _ _);refine CG (i2) ?_;conv=>whnf)|((with_reducible show AY _ _ _);refine CG (j2) ?_;conv=>whnf)|((with_reducible show eqK _ _);refine EP Bd (i2) ?_;conv=>whnf)|((with_reducible show eqK _ _);refine EP Bd (j2) ?_;conv=>whnf)|(refine kA ?_;conv=>whnf)|(refine Br.mk (fun hc=>?_) fun hc=>?_<;>first|exact hc.elim|conv=>whnf)|(refine kB ?_))
 ·rw[if_pos (by omega)]at hk
  rw[← hk]
  exact⟨_,rfl,rfl⟩
 ·rw[if_neg (by omega)]at hk
  exact again.mk ⟨_,by omega,i2+1,j2-1,_,z2-1,swp D i2 j2,rfl,by omega,by omega,by omega,by omega,by simpa using hD,hk,rfl,rfl⟩
theorem AfA {Ap Bv BD BK:Obj} {g c len:Nat} {nn cl:Bool} {d:Array (Int×Int)} {a i j:Nat} {z:Int} {Q:Ak→Env→Ag→Prop} (hl:d.size=len) (ha:a<len) (hj:j<len) (hs:len<2^61) (hz:z=j) (hi:i≤j+1)
 (hQ:∀c' k tl,k=scanUp (fun x=>Cj x d[a]!) d j i→i≤k→k≤j+1→(k≤j→(fun x=>Cj x d[a]!) d[k]! =false)→Q (.exit 0) ([(0,.own 3 g 0 len),(1,.int .i64 a),(4,.fn 36 []),(12,.int .i64 k),(13,.int .i64 z)]++tl) ⟨[Ap,Bv,BD,.arr g 2 nn cl (vs Az d.toList),BK],c'⟩):
 Run (Ac tab) (.loop l108_0_h l108_0_b) [(0,.own 3 g 0 len),(1,.int .i64 a),(4,.fn 36 []),(12,.int .i64 i),(13,.int .i64 z)] ⟨[Ap,Bv,BD,.arr g 2 nn cl (vs Az d.toList),BK],c⟩ Q:=by
 refine Ae (fun m env s=>∃(k c:Nat),m=j+1-k∧i≤k∧k≤j+1∧scanUp (fun x=>Cj x d[a]!) d j k=scanUp (fun x=>Cj x d[a]!) d j i∧env=[(0,.own 3 g 0 len),(1,.int .i64 a),(4,.fn 36 []),(12,.int .i64 k),(13,.int .i64 z)]∧s=⟨[Ap,Bv,BD,.arr g 2 nn cl (vs Az d.toList),BK],c⟩) ?_ _ _ _ ⟨i,c,rfl,by omega,hi,rfl,rfl,rfl⟩
 rintro _ _ _ ⟨k,c,rfl,hik,hkj,hk,rfl,rfl⟩
 refine⟨rfl,?_⟩
 (conv=>whnf);repeat' (first|((with_reducible show AY _ _ _);refine CG (k) ?_;conv=>whnf)|((with_reducible show AY _ _ _);refine CG (a) ?_;conv=>whnf)|(refine Aa Eu ?_;rintro _ rfl;conv=>whnf)|(refine FP (fun hc=>?_) (fun hc=>?_)<;>conv=>whnf)|(refine kA ?_;conv=>whnf)|(refine Br.mk (fun hc=>?_) fun hc=>?_<;>first|exact hc.elim|conv=>whnf)|(refine kB ?_))
 all_goals first
  |(rw [Ns (by omega) (by first|exact hc|(show (!_)=_;rw[hc];rfl))]at hk
    exact again.mk ⟨_,by omega,k+1,_,rfl,by omega,by omega,hk,rfl,rfl⟩)
  |(rw [DU (fun _=>(by first|exact hc|(show (!_)=_;rw[hc];rfl)))]at hk
    exact hQ _ _ _ hk hik hkj (fun _=>(by first|exact hc|(show (!_)=_;rw[hc];rfl))))
  |(rw [DU (fun h=>absurd h (by omega))]at hk
    exact hQ _ _ _ hk hik hkj (fun h=>absurd h (by omega)))
theorem AfB {Ap Bv BD BK:Obj} {g c len:Nat} {nn cl:Bool} {d:Array (Int×Int)} {a i j:Nat} {z:Int} {Q:Ak→Env→Ag→Prop} (hl:d.size=len) (ha:a<len) (hj:j<len) (hs:len<2^61) (hz:z=j) (hi:0<i) (hij:i≤j+1)
 (hQ:∀c' k z tl,k=scanDown (fun x=>!Cj x d[a]!) d i j→k≤j→i≤k+1→z=(k:Int)→(i≤k→(fun x=>!Cj x d[a]!) d[k]! =false)→Q (.exit 2) ([(0,.own 3 g 0 len),(1,.int .i64 a),(4,.fn 36 []),(12,.int .i64 i),(13,.int .i64 z)]++tl) ⟨[Ap,Bv,BD,.arr g 2 nn cl (vs Az d.toList),BK],c'⟩):
 Run (Ac tab) (.loop l108_1_h l108_1_b) [(0,.own 3 g 0 len),(1,.int .i64 a),(4,.fn 36 []),(12,.int .i64 i),(13,.int .i64 z)] ⟨[Ap,Bv,BD,.arr g 2 nn cl (vs Az d.toList),BK],c⟩ Q:=by
 refine Ae (fun m env s=>∃(k c:Nat) (z:Int),m=k∧z=k∧k≤j∧i≤k+1∧scanDown (fun x=>!Cj x d[a]!) d i k=scanDown (fun x=>!Cj x d[a]!) d i j∧env=[(0,.own 3 g 0 len),(1,.int .i64 a),(4,.fn 36 []),(12,.int .i64 i),(13,.int .i64 z)]∧s=⟨[Ap,Bv,BD,.arr g 2 nn cl (vs Az d.toList),BK],c⟩) ?_ _ _ _ ⟨j,c,z,rfl,hz,by omega,hij,rfl,rfl,rfl⟩
 clear hz
 rintro k _ _ ⟨_,c,z,rfl,hz,hkj,hik,hk,rfl,rfl⟩
 refine⟨rfl,?_⟩
 (conv=>whnf);repeat' (first|((with_reducible show AY _ _ _);refine CG (k) ?_;conv=>whnf)|((with_reducible show AY _ _ _);refine CG (a) ?_;conv=>whnf)|(refine Aa Eu ?_;rintro _ rfl;conv=>whnf)|(refine FP (fun hc=>?_) (fun hc=>?_)<;>conv=>whnf)|(refine kA ?_;conv=>whnf)|(refine Br.mk (fun hc=>?_) fun hc=>?_<;>first|exact hc.elim|conv=>whnf)|(refine kB ?_))
 all_goals first
  |(obtain ⟨k,rfl⟩:∃k',k=k'+1:=⟨k-1,by omega⟩
    rw[Nu (by omega) (by first|exact hc|(show (!_)=_;rw[hc];rfl))]at hk
    exact again.mk ⟨_,by omega,k,_,z-1,rfl,by omega,by omega,by omega,hk,rfl,rfl⟩)
  |(rw [DV (fun _=>(by first|exact hc|(show (!_)=_;rw[hc];rfl)))]at hk
    exact hQ _ _ _ _ hk hkj hik hz (fun _=>(by first|exact hc|(show (!_)=_;rw[hc];rfl))))
  |(rw [DV (fun h=>absurd h (by omega))]at hk
    exact hQ _ _ _ _ hk hkj hik hz (fun h=>absurd h (by omega)))
theorem AfC {Ap Bv BD BK:Obj} {g c len:Nat} {nn cl:Bool} {d:Array (Int×Int)} {a i j:Nat} {z:Int} {Q:Ak→Env→Ag→Prop} (hl:d.size=len) (ha:a<len) (hj:j<len) (hs:len<2^61) (hz:z=j) (hi:i≤j+1)
 (hQ:∀c' k tl,k=scanUp (fun x=>Cj x d[a]!) d j i→i≤k→k≤j+1→(k≤j→(fun x=>Cj x d[a]!) d[k]! =false)→Q (.exit 6) ([(0,.own 3 g 0 len),(1,.int .i64 a),(4,.fn 36 []),(12,.int .i64 k),(13,.int .i64 z)]++tl) ⟨[Ap,Bv,BD,.arr g 2 nn cl (vs Az d.toList),BK],c'⟩):
 Run (Ac tab) (.loop l108_2_h l108_2_b) [(0,.own 3 g 0 len),(1,.int .i64 a),(4,.fn 36 []),(12,.int .i64 i),(13,.int .i64 z)] ⟨[Ap,Bv,BD,.arr g 2 nn cl (vs Az d.toList),BK],c⟩ Q:=by
 refine Ae (fun m env s=>∃(k c:Nat),m=j+1-k∧i≤k∧k≤j+1∧scanUp (fun x=>Cj x d[a]!) d j k=scanUp (fun x=>Cj x d[a]!) d j i∧env=[(0,.own 3 g 0 len),(1,.int .i64 a),(4,.fn 36 []),(12,.int .i64 k),(13,.int .i64 z)]∧s=⟨[Ap,Bv,BD,.arr g 2 nn cl (vs Az d.toList),BK],c⟩) ?_ _ _ _ ⟨i,c,rfl,by omega,hi,rfl,rfl,rfl⟩
 rintro _ _ _ ⟨k,c,rfl,hik,hkj,hk,rfl,rfl⟩
 refine⟨rfl,?_⟩
 (conv=>whnf);repeat' (first|((with_reducible show AY _ _ _);refine CG (k) ?_;conv=>whnf)|((with_reducible show AY _ _ _);refine CG (a) ?_;conv=>whnf)|(refine Aa Eu ?_;rintro _ rfl;conv=>whnf)|(refine FP (fun hc=>?_) (fun hc=>?_)<;>conv=>whnf)|(refine kA ?_;conv=>whnf)|(refine Br.mk (fun hc=>?_) fun hc=>?_<;>first|exact hc.elim|conv=>whnf)|(refine kB ?_))
 all_goals first
  |(rw [Ns (by omega) (by first|exact hc|(show (!_)=_;rw[hc];rfl))]at hk
    exact again.mk ⟨_,by omega,k+1,_,rfl,by omega,by omega,hk,rfl,rfl⟩)
  |(rw [DU (fun _=>(by first|exact hc|(show (!_)=_;rw[hc];rfl)))]at hk
    exact hQ _ _ _ hk hik hkj (fun _=>(by first|exact hc|(show (!_)=_;rw[hc];rfl))))
  |(rw [DU (fun h=>absurd h (by omega))]at hk
    exact hQ _ _ _ hk hik hkj (fun h=>absurd h (by omega)))
theorem AfD {Ap Bv BD BK:Obj} {g c len:Nat} {nn cl:Bool} {d:Array (Int×Int)} {a i j:Nat} {z:Int} {Q:Ak→Env→Ag→Prop} (hl:d.size=len) (ha:a<len) (hj:j<len) (hs:len<2^61) (hz:z=j) (hi:0<i) (hij:i≤j+1)
 (hQ:∀c' k z tl,k=scanDown (fun x=>!Cj x d[a]!) d i j→k≤j→i≤k+1→z=(k:Int)→(i≤k→(fun x=>!Cj x d[a]!) d[k]! =false)→Q (.exit 8) ([(0,.own 3 g 0 len),(1,.int .i64 a),(4,.fn 36 []),(12,.int .i64 i),(13,.int .i64 z)]++tl) ⟨[Ap,Bv,BD,.arr g 2 nn cl (vs Az d.toList),BK],c'⟩):
 Run (Ac tab) (.loop l108_3_h l108_3_b) [(0,.own 3 g 0 len),(1,.int .i64 a),(4,.fn 36 []),(12,.int .i64 i),(13,.int .i64 z)] ⟨[Ap,Bv,BD,.arr g 2 nn cl (vs Az d.toList),BK],c⟩ Q:=by
 refine Ae (fun m env s=>∃(k c:Nat) (z:Int),m=k∧z=k∧k≤j∧i≤k+1∧scanDown (fun x=>!Cj x d[a]!) d i k=scanDown (fun x=>!Cj x d[a]!) d i j∧env=[(0,.own 3 g 0 len),(1,.int .i64 a),(4,.fn 36 []),(12,.int .i64 i),(13,.int .i64 z)]∧s=⟨[Ap,Bv,BD,.arr g 2 nn cl (vs Az d.toList),BK],c⟩) ?_ _ _ _ ⟨j,c,z,rfl,hz,by omega,hij,rfl,rfl,rfl⟩
 clear hz
 rintro k _ _ ⟨_,c,z,rfl,hz,hkj,hik,hk,rfl,rfl⟩
 refine⟨rfl,?_⟩
 (conv=>whnf);repeat' (first|((with_reducible show AY _ _ _);refine CG (k) ?_;conv=>whnf)|((with_reducible show AY _ _ _);refine CG (a) ?_;conv=>whnf)|(refine Aa Eu ?_;rintro _ rfl;conv=>whnf)|(refine FP (fun hc=>?_) (fun hc=>?_)<;>conv=>whnf)|(refine kA ?_;conv=>whnf)|(refine Br.mk (fun hc=>?_) fun hc=>?_<;>first|exact hc.elim|conv=>whnf)|(refine kB ?_))
 all_goals first
  |(obtain ⟨k,rfl⟩:∃k',k=k'+1:=⟨k-1,by omega⟩
    rw[Nu (by omega) (by first|exact hc|(show (!_)=_;rw[hc];rfl))]at hk
    exact again.mk ⟨_,by omega,k,_,z-1,rfl,by omega,by omega,by omega,hk,rfl,rfl⟩)
  |(rw [DV (fun _=>(by first|exact hc|(show (!_)=_;rw[hc];rfl)))]at hk
    exact hQ _ _ _ _ hk hkj hik hz (fun _=>(by first|exact hc|(show (!_)=_;rw[hc];rfl))))
  |(rw [DV (fun h=>absurd h (by omega))]at hk
    exact hQ _ _ _ _ hk hkj hik hz (fun h=>absurd h (by omega)))
set_option maxHeartbeats 1000000 in
theorem Abt {Ap Bv BD BK:Obj} {g c len:Nat} {nn cl:Bool} {d:Array (Int×Int)} {a b i j:Nat} {z:Int} {Q:Ak→Env→Ag→Prop} (hl:d.size=len) (hb:b≤len) (hs:len<2^61) (hz:z=j) (hai:a<i) (hij:i≤j+1) (hjb:j<b)
 (hQ:∀c' x y tl,y=((partLoop Cj a i j d).1:Int)→(partLoop Cj a i j d).1<b→(partLoop Cj a i j d).2.size=len→Q (.exit 4) ([(0,.own 3 g 0 len),(1,.int .i64 a),(4,.fn 36 []),(12,x),(13,.int .i64 y)]++tl) ⟨[Ap,Bv,BD,.arr g 2 nn cl (vs Az (partLoop Cj a i j d).2.toList),BK],c'⟩):
 Run (Ac tab) (.loop l108_4_h l108_4_b) [(0,.own 3 g 0 len),(1,.int .i64 a),(4,.fn 36 []),(12,.int .i64 i),(13,.int .i64 z)] ⟨[Ap,Bv,BD,.arr g 2 nn cl (vs Az d.toList),BK],c⟩ Q:=by
 refine Ae (fun m env s=>∃(i' j' c:Nat) (z:Int) (D:Array (Int×Int)),m=j'+1-i'∧z=j'∧a<i'∧i'≤j'+1∧j'<b∧D.size=len∧partLoop Cj a i' j' D=partLoop Cj a i j d∧env=[(0,.own 3 g 0 len),(1,.int .i64 a),(4,.fn 36 []),(12,.int .i64 i'),(13,.int .i64 z)]∧s=⟨[Ap,Bv,BD,.arr g 2 nn cl (vs Az D.toList),BK],c⟩) ?_ _ _ _ ⟨i,j,c,z,d,rfl,hz,hai,hij,hjb,hl,rfl,rfl,rfl⟩
 clear hz
 rintro _ _ _ ⟨i',j',c,z,D,rfl,hz,hai,hij,hjb,hD,hk,rfl,rfl⟩
 refine⟨rfl,?_⟩
 rw[partLoop_eq]at hk
 (conv=>whnf);repeat' (first  |(refine kA ?_;conv=>whnf)|(refine Br.mk (fun hc=>?_) fun hc=>?_<;>first|exact hc.elim|conv=>whnf)|(refine kB ?_))
 refine AfC hD (by omega) (by omega) hs hz hij ?_
 intro c1 i2 tl1 hi2 hii2 Qn hp2
 rw[← hi2]at hk
 (conv=>whnf);repeat' (first  |(refine kA ?_;conv=>whnf)|(refine Br.mk (fun hc=>?_) fun hc=>?_<;>first|exact hc.elim|conv=>whnf)|(refine kB ?_))
 refine AfD hD (by omega) (by omega) hs hz (by omega) Qn ?_
 intro c2 j2 z2 tl2 hj2 Z9 U5 hz2 hq2
 rw[← hj2]at hk
 have hne:i2≤j2→i2≠j2:=by
  intro h e
  subst e
  have h1:=hp2 (by omega)
  have h2:=hq2 (by omega)
  simp only[Bool.not_eq_false']at h1 h2
  rw[h1]at h2;cases h2
 (conv=>whnf);repeat' (first|((with_reducible show AY _ _ _);refine CG (i2) ?_;conv=>whnf)|((with_reducible show AY _ _ _);refine CG (j2) ?_;conv=>whnf)|((with_reducible show eqK _ _);refine EP Bd (i2) ?_;conv=>whnf)|((with_reducible show eqK _ _);refine EP Bd (j2) ?_;conv=>whnf)|(refine kA ?_;conv=>whnf)|(refine Br.mk (fun hc=>?_) fun hc=>?_<;>first|exact hc.elim|conv=>whnf)|(refine kB ?_))
 ·rw[if_pos (by omega)]at hk
  rw[← hk]at hQ
  exact hQ _ _ _ _ hz2 (by show j2<b;omega) hD
 ·rw[if_neg (by omega)]at hk
  exact again.mk ⟨_,by omega,i2+1,j2-1,_,z2-1,swp D i2 j2,rfl,by omega,by omega,by omega,by omega,by simpa using hD,hk,rfl,rfl⟩
set_option maxHeartbeats 2000000 in
theorem AdT {Ap Bv BD BK:Obj} {g c len:Nat} {nn cl:Bool} {d:Array (Int×Int)} {a b pivot:Nat} (hl:d.size=len) (hb:b≤len) (hap:a≤pivot) (hpb:pivot<b) (hs:len<2^61):
 AQ (Ac tab) 108 [.own 3 g 0 len,.int .i64 a,.int .i64 b,.int .i64 pivot,.fn 36 []] ⟨[Ap,Bv,BD,.arr g 2 nn cl (vs Az d.toList),BK],c⟩ fun out s'=>∃c',out=.ok (.CO [.int .i64 (partition Cj d a b pivot).1,.bool (partition Cj d a b pivot).2.1])∧s'=⟨[Ap,Bv,BD,.arr g 2 nn cl (vs Az (partition Cj d a b pivot).2.2.toList),BK],c'⟩:=by
 generalize hR:partition Cj d a b pivot=R
 unfold partition at hR
 dsimp only at hR
 refine Ar rfl rfl ?_
 (conv=>whnf);repeat' (first|((with_reducible show AY _ _ _);refine CG (a) ?_;conv=>whnf)|((with_reducible show AY _ _ _);refine CG (pivot) ?_;conv=>whnf)|((with_reducible show eqK _ _);refine EP Bd (a) ?_;conv=>whnf)|((with_reducible show eqK _ _);refine EP Bd (pivot) ?_;conv=>whnf)|(refine kA ?_;conv=>whnf)|(refine Br.mk (fun hc=>?_) fun hc=>?_<;>first|exact hc.elim|conv=>whnf)|(refine kB ?_))
 refine AfA (d:=swp d a pivot) (i:=a+1) (j:=b-1) (by simpa using hl) (by omega) (by omega) hs (by omega) (by omega) ?_
 intro c1 i2 tl1 hi2 hii2 Qn hp2
 rw[← hi2]at hR
 (conv=>whnf);repeat' (first  |(refine kA ?_;conv=>whnf)|(refine Br.mk (fun hc=>?_) fun hc=>?_<;>first|exact hc.elim|conv=>whnf)|(refine kB ?_))
 refine AfB (j:=b-1) (by simpa using hl) (by omega) (by omega) hs (by omega) (by omega) Qn ?_
 intro c2 j2 z2 tl2 hj2 Z9 U5 hz2 hq2
 rw[← hj2]at hR
 have hne:i2≤j2→i2≠j2:=by
  intro h e
  subst e
  have h1:=hp2 (by omega)
  have h2:=hq2 (by omega)
  simp only[Bool.not_eq_false']at h1 h2
  rw[h1]at h2;cases h2
 clear hp2 hq2
 generalize hE:swp d a pivot=E at*
 have hEl:E.size=len:=by rw[← hE];simpa using hl
 (conv=>whnf);repeat' (first|((with_reducible show AY _ _ _);refine CG (a) ?_;conv=>whnf)|((with_reducible show AY _ _ _);refine CG (i2) ?_;conv=>whnf)|((with_reducible show AY _ _ _);refine CG (j2) ?_;conv=>whnf)|((with_reducible show eqK _ _);refine EP Bd (a) ?_;conv=>whnf)|((with_reducible show eqK _ _);refine EP Bd (i2) ?_;conv=>whnf)|((with_reducible show eqK _ _);refine EP Bd (j2) ?_;conv=>whnf)|(refine kA ?_;conv=>whnf)|(refine Br.mk (fun hc=>?_) fun hc=>?_<;>first|exact hc.elim|conv=>whnf)|(refine kB ?_))
 ·rw[if_pos (by omega)]at hR
  subst hR
  rw[hz2]
  exact⟨_,rfl,rfl⟩
 ·rw[if_neg (by omega)]at hR
  refine Abt (d:=swp E i2 j2) (i:=i2+1) (j:=j2-1) (by simpa using hEl) hb hs (by omega) (by omega) (by omega) (by omega) ?_
  intro c3 x y tl3 hy hyb hsz
  generalize (partLoop Cj a (i2+1) (j2-1) (swp E i2 j2)).1=p1 at*
  generalize (partLoop Cj a (i2+1) (j2-1) (swp E i2 j2)).2=p2 at*
  subst hy
  (conv=>whnf);repeat' (first|((with_reducible show AY _ _ _);refine CG (a) ?_;conv=>whnf)|((with_reducible show AY _ _ _);refine CG (p1) ?_;conv=>whnf)|((with_reducible show eqK _ _);refine EP Bd (a) ?_;conv=>whnf)|((with_reducible show eqK _ _);refine EP Bd (p1) ?_;conv=>whnf)|(refine kA ?_;conv=>whnf)|(refine Br.mk (fun hc=>?_) fun hc=>?_<;>first|exact hc.elim|conv=>whnf)|(refine kB ?_))
  subst hR
  exact⟨_,rfl,rfl⟩
end AI
end Go.Proofs.YthjeehjphekjmaaGreatDoor
