/- Sorting in place (CmpFunc[graphdb/api.Pair]): sorted or nearly so; the partitions. -/
import Derived.Test.YtjjhejbffgaabaaGreatDoorRMaj
import Derived.Test.YtjjhejbffgaabaaGreatDoorRMae
set_option linter.unusedVariables false
set_option maxRecDepth 4000
namespace Go.Proofs.YtjjhejbffgaabaaGreatDoor
namespace AI
open Go.Sort
theorem Aa3 {AX BA BJ BN:Obj} {g c len:Nat} {nn cl:Bool} {d:Array (Int×Int)} {a b i:Nat} {z:Int} {Q:Ar→Env→Ag→Prop} (hl:d.size=len) (hb:b≤len) (hs:len<2^61) (hi:0<i) (hib:i≤b)
 (hQ:∀c' k tl,k=scanSorted CU d b i→i≤k→k≤b→Q (.exit 2) ([(0,.own 3 g 0 len),(1,.int .i64 a),(2,.int .i64 b),(3,.fn 77 []),(9,.int .i64 k),(10,.int .i64 z)]++tl) ⟨[AX,BA,BJ,.arr g 2 nn cl (vs A8 d.toList),BN],c'⟩):
 Run (Ac tab) (.loop l125_0_h l125_0_b) [(0,.own 3 g 0 len),(1,.int .i64 a),(2,.int .i64 b),(3,.fn 77 []),(9,.int .i64 i),(10,.int .i64 z)] ⟨[AX,BA,BJ,.arr g 2 nn cl (vs A8 d.toList),BN],c⟩ Q:=by
 refine Ah (fun m env s=>∃(k c:Nat),m=b-k∧i≤k∧k≤b∧scanSorted CU d b k=scanSorted CU d b i∧env=[(0,.own 3 g 0 len),(1,.int .i64 a),(2,.int .i64 b),(3,.fn 77 []),(9,.int .i64 k),(10,.int .i64 z)]∧s=⟨[AX,BA,BJ,.arr g 2 nn cl (vs A8 d.toList),BN],c⟩) ?_ _ _ _ ⟨i,c,rfl,by omega,hib,rfl,rfl,rfl⟩
 rintro _ _ _ ⟨k,c,rfl,hik,hkb,hk,rfl,rfl⟩
 refine⟨rfl,?_⟩
 (conv=>whnf);repeat' (first|((with_reducible show BX _ _ _);refine GI (k) ?_;conv=>whnf)|((with_reducible show BX _ _ _);refine GI (k-1) ?_;conv=>whnf)|(refine Aa ET ?_;rintro _ rfl;conv=>whnf)|(refine Gh (fun hc=>?_) (fun hc=>?_)<;>conv=>whnf)|(refine kA ?_;conv=>whnf)|(refine Br.mk (fun hc=>?_) fun hc=>?_<;>first|exact hc.elim|conv=>whnf)|(refine kB ?_))
 all_goals first
  |(rw [Aa4 (by omega) hc]at hk
    exact again.mk ⟨_,by omega,k+1,_,rfl,by omega,by omega,hk,rfl,rfl⟩)
  |(rw [Qv (fun _=>hc)]at hk
    exact hQ _ _ _ hk hik hkb)
  |(rw [Qv (fun h=>absurd h (by omega))]at hk
    exact hQ _ _ _ hk hik hkb)
theorem Aa5 {AX BA BJ BN:Obj} {g c len:Nat} {nn cl:Bool} {d:Array (Int×Int)} {a b i j:Nat} {z y:Int} {Q:Ar→Env→Ag→Prop} (hl:d.size=len) (hs:len<2^61) (hj:j<len) (hy:y=j)
 (hQ:∀c' tl,Q (.exit 4) ([(0,.own 3 g 0 len),(1,.int .i64 a),(2,.int .i64 b),(3,.fn 77 []),(9,.int .i64 i),(10,.int .i64 z)]++tl) ⟨[AX,BA,BJ,.arr g 2 nn cl (vs A8 (shiftDown CU j d).toList),BN],c'⟩):
 Run (Ac tab) (.loop l125_1_h l125_1_b) [(0,.own 3 g 0 len),(1,.int .i64 a),(2,.int .i64 b),(3,.fn 77 []),(9,.int .i64 i),(10,.int .i64 z),(11,.int .i64 y)] ⟨[AX,BA,BJ,.arr g 2 nn cl (vs A8 d.toList),BN],c⟩ Q:=by
 refine Ah (fun m env s=>∃(k c:Nat) (y:Int) (D:Array (Int×Int)),m=k∧y=k∧k≤j∧D.size=len∧shiftDown CU k D=shiftDown CU j d∧env=[(0,.own 3 g 0 len),(1,.int .i64 a),(2,.int .i64 b),(3,.fn 77 []),(9,.int .i64 i),(10,.int .i64 z),(11,.int .i64 y)]∧s=⟨[AX,BA,BJ,.arr g 2 nn cl (vs A8 D.toList),BN],c⟩) ?_ _ _ _ ⟨j,c,y,d,rfl,hy,by omega,hl,rfl,rfl,rfl⟩
 clear hy
 rintro k _ _ ⟨_,c,y,D,rfl,hy,hkj,hD,hk,rfl,rfl⟩
 refine⟨rfl,?_⟩
 cases k with
 |zero=>
  rw[← hk]at hQ
  (conv=>whnf);repeat' (first  |(refine kA ?_;conv=>whnf)|(refine Br.mk (fun hc=>?_) fun hc=>?_<;>first|exact hc.elim|conv=>whnf)|(refine kB ?_))
  exact hQ _ _
 |succ k=>
  (conv=>whnf);repeat' (first|((with_reducible show BX _ _ _);refine GI (k+1) ?_;conv=>whnf)|((with_reducible show BX _ _ _);refine GI (k) ?_;conv=>whnf)|(refine Aa ET ?_;rintro _ rfl;conv=>whnf)|(refine Gh (fun hc=>?_) (fun hc=>?_)<;>conv=>whnf)|((with_reducible show eqK _ _);refine LW BG (k+1) ?_;conv=>whnf)|((with_reducible show eqK _ _);refine LW BG (k) ?_;conv=>whnf)|(refine kA ?_;conv=>whnf)|(refine Br.mk (fun hc=>?_) fun hc=>?_<;>first|exact hc.elim|conv=>whnf)|(refine kB ?_))
  ·rw[AfD hc]at hk
   exact again.mk ⟨_,by omega,k,_,y-1,swp D (k+1) k,rfl,by omega,by omega,by simpa using hD,hk,rfl,rfl⟩
  ·rw[Aa6 hc]at hk
   rw[← hk]at hQ
   exact hQ _ _
theorem Aa7 {AX BA BJ BN:Obj} {g c len:Nat} {nn cl:Bool} {d:Array (Int×Int)} {a b i j:Nat} {z:Int} {Q:Ar→Env→Ag→Prop} (hl:d.size=len) (hs:len<2^61) (hj:0<j) (hb:b≤len)
 (hQ:∀c' tl,Q (.exit 6) ([(0,.own 3 g 0 len),(1,.int .i64 a),(2,.int .i64 b),(3,.fn 77 []),(9,.int .i64 i),(10,.int .i64 z)]++tl) ⟨[AX,BA,BJ,.arr g 2 nn cl (vs A8 (shiftUp CU b j d).toList),BN],c'⟩):
 Run (Ac tab) (.loop l125_2_h l125_2_b) [(0,.own 3 g 0 len),(1,.int .i64 a),(2,.int .i64 b),(3,.fn 77 []),(9,.int .i64 i),(10,.int .i64 z),(12,.int .i64 j)] ⟨[AX,BA,BJ,.arr g 2 nn cl (vs A8 d.toList),BN],c⟩ Q:=by
 refine Ah (fun m env s=>∃(k c:Nat) (D:Array (Int×Int)),m=b-k∧j≤k∧D.size=len∧shiftUp CU b k D=shiftUp CU b j d∧env=[(0,.own 3 g 0 len),(1,.int .i64 a),(2,.int .i64 b),(3,.fn 77 []),(9,.int .i64 i),(10,.int .i64 z),(12,.int .i64 k)]∧s=⟨[AX,BA,BJ,.arr g 2 nn cl (vs A8 D.toList),BN],c⟩) ?_ _ _ _ ⟨j,c,d,rfl,by omega,hl,rfl,rfl,rfl⟩
 rintro _ _ _ ⟨k,c,D,rfl,hjk,hD,hk,rfl,rfl⟩
 refine⟨rfl,?_⟩
 (conv=>whnf);repeat' (first|((with_reducible show BX _ _ _);refine GI (k) ?_;conv=>whnf)|((with_reducible show BX _ _ _);refine GI (k-1) ?_;conv=>whnf)|(refine Aa ET ?_;rintro _ rfl;conv=>whnf)|(refine Gh (fun hc=>?_) (fun hc=>?_)<;>conv=>whnf)|((with_reducible show eqK _ _);refine LW BG (k) ?_;conv=>whnf)|((with_reducible show eqK _ _);refine LW BG (k-1) ?_;conv=>whnf)|(refine kA ?_;conv=>whnf)|(refine Br.mk (fun hc=>?_) fun hc=>?_<;>first|exact hc.elim|conv=>whnf)|(refine kB ?_))
 ·rw[AfE (by omega) hc]at hk
  exact again.mk ⟨_,by omega,k+1,_,swp D k (k-1),rfl,by omega,by simpa using hD,hk,rfl,rfl⟩
 ·rw[Vx (fun _=>hc)]at hk
  rw[← hk]at hQ
  exact hQ _ _
 ·rw[Vx (fun h=>absurd h (by omega))]at hk
  rw[← hk]at hQ
  exact hQ _ _
set_option maxHeartbeats 2000000 in
theorem AfF {AX BA BJ BN:Obj} {g c len:Nat} {nn cl:Bool} {d:Array (Int×Int)} {a b:Nat} (hl:d.size=len) (hb:b≤len) (hab:a<b) (hs:len<2^61):
 AY (Ac tab) 125 [.own 3 g 0 len,.int .i64 a,.int .i64 b,.fn 77 []] ⟨[AX,BA,BJ,.arr g 2 nn cl (vs A8 d.toList),BN],c⟩ fun out s'=>∃c',out=.ok (.bool (partialInsertionSort CU d a b).2)∧s'=⟨[AX,BA,BJ,.arr g 2 nn cl (vs A8 (partialInsertionSort CU d a b).1.toList),BN],c'⟩:=by
 refine AL rfl rfl ?_
 (conv=>whnf);repeat' (first  |(refine kA ?_;conv=>whnf)|(refine Br.mk (fun hc=>?_) fun hc=>?_<;>first|exact hc.elim|conv=>whnf)|(refine kB ?_))
 refine Ah (fun m env s=>∃(k i c:Nat) (z:Int) (D:Array (Int×Int)),m=k∧z=5-k∧k≤5∧a<i∧i≤b∧D.size=len∧partialIns CU a b k i D=partialInsertionSort CU d a b∧env=[(0,.own 3 g 0 len),(1,.int .i64 a),(2,.int .i64 b),(3,.fn 77 []),(9,.int .i64 i),(10,.int .i64 z)]∧s=⟨[AX,BA,BJ,.arr g 2 nn cl (vs A8 D.toList),BN],c⟩) ?_ _ _ _ ⟨5,a+1,c,0,d,rfl,by omega,by omega,by omega,by omega,hl,rfl,rfl,rfl⟩
 rintro k _ _ ⟨_,i,c,z,D,rfl,hz,hk5,hai,hib,hD,hk,rfl,rfl⟩
 refine⟨rfl,?_⟩
 cases k with
 |zero=>
  rw[← hk]
  (conv=>whnf);repeat' (first  |(refine kA ?_;conv=>whnf)|(refine Br.mk (fun hc=>?_) fun hc=>?_<;>first|exact hc.elim|conv=>whnf)|(refine kB ?_))
  exact⟨_,rfl,rfl⟩
 |succ k=>
  rw[partialIns_succ]at hk
  (conv=>whnf);repeat' (first  |(refine kA ?_;conv=>whnf)|(refine Br.mk (fun hc=>?_) fun hc=>?_<;>first|exact hc.elim|conv=>whnf)|(refine kB ?_))
  refine Aa3 hD hb hs (by omega) hib ?_
  intro c1 j tl hj hij hjb
  rw[← hj]at hk
  have hend:∀(c:Nat) (E:Array (Int×Int)) (z':Int),z'=5-(k:Int)→E.size=len→E=fixUp CU b j (fixDown CU a j (swp D j (j-1)))→¬j=b→¬b-a<50→again (fun m env s=>∃(k i c:Nat) (z:Int) (D:Array (Int×Int)),m=k∧z=5-k∧k≤5∧a<i∧i≤b∧D.size=len∧partialIns CU a b k i D=partialInsertionSort CU d a b∧env=[(0,.own 3 g 0 len),(1,.int .i64 a),(2,.int .i64 b),(3,.fn 77 []),(9,.int .i64 i),(10,.int .i64 z)]∧s=⟨[AX,BA,BJ,.arr g 2 nn cl (vs A8 D.toList),BN],c⟩) (k+1) [(0,.own 3 g 0 len),(1,.int .i64 a),(2,.int .i64 b),(3,.fn 77 []),(9,.int .i64 j),(10,.int .i64 z')] ⟨[AX,BA,BJ,.arr g 2 nn cl (vs A8 E.toList),BN],c⟩:=by
   intro c E z' hz' hE hE2 h1 h2
   rw[if_neg h1,if_neg h2]at hk
   refine again.mk ⟨_,by omega,k,j,c,z',E,rfl,hz',by omega,by omega,by omega,hE,?_,rfl,rfl⟩
   rw[hE2];exact hk
  (conv=>whnf);repeat' (first|((with_reducible show BX _ _ _);refine GI (j) ?_;conv=>whnf)|((with_reducible show BX _ _ _);refine GI (j-1) ?_;conv=>whnf)|((with_reducible show eqK _ _);refine LW BG (j) ?_;conv=>whnf)|((with_reducible show eqK _ _);refine LW BG (j-1) ?_;conv=>whnf)|(refine kA ?_;conv=>whnf)|(refine Br.mk (fun hc=>?_) fun hc=>?_<;>first|exact hc.elim|conv=>whnf)|(refine kB ?_))
  ·rw[if_pos (by omega)]at hk
   rw[← hk]
   exact⟨_,rfl,rfl⟩
  ·rw[if_neg (by omega),if_pos (by omega)]at hk
   rw[← hk]
   exact⟨_,rfl,rfl⟩
  ·refine Aa5 (d:=swp D j (j-1)) (j:=j-1) (by simpa using hD) hs (by omega) (by omega) ?_
   intro c2 tl2
   (conv=>whnf);repeat' (first  |(refine kA ?_;conv=>whnf)|(refine Br.mk (fun hc=>?_) fun hc=>?_<;>first|exact hc.elim|conv=>whnf)|(refine kB ?_))
   ·refine Aa7 (j:=j+1) (by simpa using hD) hs (by omega) hb ?_
    intro c3 tl3
    (conv=>whnf);repeat' (first  |(refine kA ?_;conv=>whnf)|(refine Br.mk (fun hc=>?_) fun hc=>?_<;>first|exact hc.elim|conv=>whnf)|(refine kB ?_))
    refine hend _ _ _ (by omega) (by simpa using hD) ?_ (by omega) (by omega)
    unfold fixUp fixDown
    rw[if_pos (by omega),if_pos (by omega)]
   ·refine hend _ _ _ (by omega) (by simpa using hD) ?_ (by omega) (by omega)
    unfold fixUp fixDown
    rw[if_neg (by omega),if_pos (by omega)]
  ·refine Aa7 (d:=swp D j (j-1)) (j:=j+1) (by simpa using hD) hs (by omega) hb ?_
   intro c3 tl3
   (conv=>whnf);repeat' (first  |(refine kA ?_;conv=>whnf)|(refine Br.mk (fun hc=>?_) fun hc=>?_<;>first|exact hc.elim|conv=>whnf)|(refine kB ?_))
   refine hend _ _ _ (by omega) (by simpa using hD) ?_ (by omega) (by omega)
   unfold fixUp fixDown
   rw[if_pos (by omega),if_neg (by omega)]
theorem AhC {AX BA BJ BN:Obj} {g c len:Nat} {nn cl:Bool} {d:Array (Int×Int)} {a i j:Nat} {z:Int} {Q:Ar→Env→Ag→Prop} (hl:d.size=len) (ha:a<len) (hj:j<len) (hs:len<2^61) (hz:z=j) (hi:i≤j+1)
 (hQ:∀c' k tl,k=scanUp (fun x=>!CU d[a]! x) d j i→i≤k→k≤j+1→(k≤j→(fun x=>!CU d[a]! x) d[k]! =false)→Q (.exit 2) ([(0,.own 3 g 0 len),(1,.int .i64 a),(4,.fn 77 []),(11,.int .i64 k),(12,.int .i64 z)]++tl) ⟨[AX,BA,BJ,.arr g 2 nn cl (vs A8 d.toList),BN],c'⟩):
 Run (Ac tab) (.loop l126_0_h l126_0_b) [(0,.own 3 g 0 len),(1,.int .i64 a),(4,.fn 77 []),(11,.int .i64 i),(12,.int .i64 z)] ⟨[AX,BA,BJ,.arr g 2 nn cl (vs A8 d.toList),BN],c⟩ Q:=by
 refine Ah (fun m env s=>∃(k c:Nat),m=j+1-k∧i≤k∧k≤j+1∧scanUp (fun x=>!CU d[a]! x) d j k=scanUp (fun x=>!CU d[a]! x) d j i∧env=[(0,.own 3 g 0 len),(1,.int .i64 a),(4,.fn 77 []),(11,.int .i64 k),(12,.int .i64 z)]∧s=⟨[AX,BA,BJ,.arr g 2 nn cl (vs A8 d.toList),BN],c⟩) ?_ _ _ _ ⟨i,c,rfl,by omega,hi,rfl,rfl,rfl⟩
 rintro _ _ _ ⟨k,c,rfl,hik,hkj,hk,rfl,rfl⟩
 refine⟨rfl,?_⟩
 (conv=>whnf);repeat' (first|((with_reducible show BX _ _ _);refine GI (k) ?_;conv=>whnf)|((with_reducible show BX _ _ _);refine GI (a) ?_;conv=>whnf)|(refine Aa ET ?_;rintro _ rfl;conv=>whnf)|(refine Gh (fun hc=>?_) (fun hc=>?_)<;>conv=>whnf)|(refine kA ?_;conv=>whnf)|(refine Br.mk (fun hc=>?_) fun hc=>?_<;>first|exact hc.elim|conv=>whnf)|(refine kB ?_))
 all_goals first
  |(rw [Xu (by omega) (by first|exact hc|(show (!_)=_;rw[hc];rfl))]at hk
    exact again.mk ⟨_,by omega,k+1,_,rfl,by omega,by omega,hk,rfl,rfl⟩)
  |(rw [Jk (fun _=>(by first|exact hc|(show (!_)=_;rw[hc];rfl)))]at hk
    exact hQ _ _ _ hk hik hkj (fun _=>(by first|exact hc|(show (!_)=_;rw[hc];rfl))))
  |(rw [Jk (fun h=>absurd h (by omega))]at hk
    exact hQ _ _ _ hk hik hkj (fun h=>absurd h (by omega)))
theorem AhD {AX BA BJ BN:Obj} {g c len:Nat} {nn cl:Bool} {d:Array (Int×Int)} {a i j:Nat} {z:Int} {Q:Ar→Env→Ag→Prop} (hl:d.size=len) (ha:a<len) (hj:j<len) (hs:len<2^61) (hz:z=j) (hi:0<i) (hij:i≤j+1)
 (hQ:∀c' k z tl,k=scanDown (fun x=>CU d[a]! x) d i j→k≤j→i≤k+1→z=(k:Int)→(i≤k→(fun x=>CU d[a]! x) d[k]! =false)→Q (.exit 4) ([(0,.own 3 g 0 len),(1,.int .i64 a),(4,.fn 77 []),(11,.int .i64 i),(12,.int .i64 z)]++tl) ⟨[AX,BA,BJ,.arr g 2 nn cl (vs A8 d.toList),BN],c'⟩):
 Run (Ac tab) (.loop l126_1_h l126_1_b) [(0,.own 3 g 0 len),(1,.int .i64 a),(4,.fn 77 []),(11,.int .i64 i),(12,.int .i64 z)] ⟨[AX,BA,BJ,.arr g 2 nn cl (vs A8 d.toList),BN],c⟩ Q:=by
 refine Ah (fun m env s=>∃(k c:Nat) (z:Int),m=k∧z=k∧k≤j∧i≤k+1∧scanDown (fun x=>CU d[a]! x) d i k=scanDown (fun x=>CU d[a]! x) d i j∧env=[(0,.own 3 g 0 len),(1,.int .i64 a),(4,.fn 77 []),(11,.int .i64 i),(12,.int .i64 z)]∧s=⟨[AX,BA,BJ,.arr g 2 nn cl (vs A8 d.toList),BN],c⟩) ?_ _ _ _ ⟨j,c,z,rfl,hz,by omega,hij,rfl,rfl,rfl⟩
 clear hz
 rintro k _ _ ⟨_,c,z,rfl,hz,hkj,hik,hk,rfl,rfl⟩
 refine⟨rfl,?_⟩
 (conv=>whnf);repeat' (first|((with_reducible show BX _ _ _);refine GI (k) ?_;conv=>whnf)|((with_reducible show BX _ _ _);refine GI (a) ?_;conv=>whnf)|(refine Aa ET ?_;rintro _ rfl;conv=>whnf)|(refine Gh (fun hc=>?_) (fun hc=>?_)<;>conv=>whnf)|(refine kA ?_;conv=>whnf)|(refine Br.mk (fun hc=>?_) fun hc=>?_<;>first|exact hc.elim|conv=>whnf)|(refine kB ?_))
 all_goals first
  |(obtain ⟨k,rfl⟩:∃k',k=k'+1:=⟨k-1,by omega⟩
    rw[Xv (by omega) (by first|exact hc|(show (!_)=_;rw[hc];rfl))]at hk
    exact again.mk ⟨_,by omega,k,_,z-1,rfl,by omega,by omega,by omega,hk,rfl,rfl⟩)
  |(rw [Jl (fun _=>(by first|exact hc|(show (!_)=_;rw[hc];rfl)))]at hk
    exact hQ _ _ _ _ hk hkj hik hz (fun _=>(by first|exact hc|(show (!_)=_;rw[hc];rfl))))
  |(rw [Jl (fun h=>absurd h (by omega))]at hk
    exact hQ _ _ _ _ hk hkj hik hz (fun h=>absurd h (by omega)))
set_option maxHeartbeats 1000000 in
theorem AhE {AX BA BJ BN:Obj} {g c len:Nat} {nn cl:Bool} {d:Array (Int×Int)} {a b pivot:Nat} (hl:d.size=len) (hb:b≤len) (hap:a≤pivot) (hpb:pivot<b) (hs:len<2^61):
 AY (Ac tab) 126 [.own 3 g 0 len,.int .i64 a,.int .i64 b,.int .i64 pivot,.fn 77 []] ⟨[AX,BA,BJ,.arr g 2 nn cl (vs A8 d.toList),BN],c⟩ fun out s'=>∃c',out=.ok (.int .i64 (partitionEqual CU d a b pivot).1)∧s'=⟨[AX,BA,BJ,.arr g 2 nn cl (vs A8 (partitionEqual CU d a b pivot).2.toList),BN],c'⟩:=by
 refine AL rfl rfl ?_
 (conv=>whnf);repeat' (first|((with_reducible show BX _ _ _);refine GI (a) ?_;conv=>whnf)|((with_reducible show BX _ _ _);refine GI (pivot) ?_;conv=>whnf)|((with_reducible show eqK _ _);refine LW BG (a) ?_;conv=>whnf)|((with_reducible show eqK _ _);refine LW BG (pivot) ?_;conv=>whnf)|(refine kA ?_;conv=>whnf)|(refine Br.mk (fun hc=>?_) fun hc=>?_<;>first|exact hc.elim|conv=>whnf)|(refine kB ?_))
 refine Ah (fun m env s=>∃(i j c:Nat) (z:Int) (D:Array (Int×Int)),m=j+1-i∧z=j∧a<i∧i≤j+1∧j<b∧D.size=len∧partEqLoop CU a i j D=partitionEqual CU d a b pivot∧env=[(0,.own 3 g 0 len),(1,.int .i64 a),(4,.fn 77 []),(11,.int .i64 i),(12,.int .i64 z)]∧s=⟨[AX,BA,BJ,.arr g 2 nn cl (vs A8 D.toList),BN],c⟩) ?_ _ _ _ ⟨a+1,b-1,_,_,swp d a pivot,rfl,by omega,by omega,by omega,by omega,by simpa using hl,rfl,rfl,rfl⟩
 rintro _ _ _ ⟨i,j,c,z,D,rfl,hz,hai,hij,hjb,hD,hk,rfl,rfl⟩
 refine⟨rfl,?_⟩
 rw[partEqLoop_eq]at hk
 (conv=>whnf);repeat' (first  |(refine kA ?_;conv=>whnf)|(refine Br.mk (fun hc=>?_) fun hc=>?_<;>first|exact hc.elim|conv=>whnf)|(refine kB ?_))
 refine AhC hD (by omega) (by omega) hs hz hij ?_
 intro c1 i2 tl1 hi2 hii2 Aa8 hp2
 rw[← hi2]at hk
 (conv=>whnf);repeat' (first  |(refine kA ?_;conv=>whnf)|(refine Br.mk (fun hc=>?_) fun hc=>?_<;>first|exact hc.elim|conv=>whnf)|(refine kB ?_))
 refine AhD hD (by omega) (by omega) hs hz (by omega) Aa8 ?_
 intro c2 j2 z2 tl2 hj2 AhF AeR hz2 hq2
 rw[← hj2]at hk
 have hne:i2≤j2→i2≠j2:=by
  intro h e
  subst e
  have h1:=hp2 (by omega)
  have h2:=hq2 (by omega)
  simp only[Bool.not_eq_false']at h1 h2
  rw[h1]at h2;cases h2
 (conv=>whnf);repeat' (first|((with_reducible show BX _ _ _);refine GI (i2) ?_;conv=>whnf)|((with_reducible show BX _ _ _);refine GI (j2) ?_;conv=>whnf)|((with_reducible show eqK _ _);refine LW BG (i2) ?_;conv=>whnf)|((with_reducible show eqK _ _);refine LW BG (j2) ?_;conv=>whnf)|(refine kA ?_;conv=>whnf)|(refine Br.mk (fun hc=>?_) fun hc=>?_<;>first|exact hc.elim|conv=>whnf)|(refine kB ?_))
 ·rw[if_pos (by omega)]at hk
  rw[← hk]
  exact⟨_,rfl,rfl⟩
 ·rw[if_neg (by omega)]at hk
  exact again.mk ⟨_,by omega,i2+1,j2-1,_,z2-1,swp D i2 j2,rfl,by omega,by omega,by omega,by omega,by simpa using hD,hk,rfl,rfl⟩
theorem AhG {AX BA BJ BN:Obj} {g c len:Nat} {nn cl:Bool} {d:Array (Int×Int)} {a i j:Nat} {z:Int} {Q:Ar→Env→Ag→Prop} (hl:d.size=len) (ha:a<len) (hj:j<len) (hs:len<2^61) (hz:z=j) (hi:i≤j+1)
 (hQ:∀c' k tl,k=scanUp (fun x=>CU x d[a]!) d j i→i≤k→k≤j+1→(k≤j→(fun x=>CU x d[a]!) d[k]! =false)→Q (.exit 0) ([(0,.own 3 g 0 len),(1,.int .i64 a),(4,.fn 77 []),(12,.int .i64 k),(13,.int .i64 z)]++tl) ⟨[AX,BA,BJ,.arr g 2 nn cl (vs A8 d.toList),BN],c'⟩):
 Run (Ac tab) (.loop l127_0_h l127_0_b) [(0,.own 3 g 0 len),(1,.int .i64 a),(4,.fn 77 []),(12,.int .i64 i),(13,.int .i64 z)] ⟨[AX,BA,BJ,.arr g 2 nn cl (vs A8 d.toList),BN],c⟩ Q:=by
 refine Ah (fun m env s=>∃(k c:Nat),m=j+1-k∧i≤k∧k≤j+1∧scanUp (fun x=>CU x d[a]!) d j k=scanUp (fun x=>CU x d[a]!) d j i∧env=[(0,.own 3 g 0 len),(1,.int .i64 a),(4,.fn 77 []),(12,.int .i64 k),(13,.int .i64 z)]∧s=⟨[AX,BA,BJ,.arr g 2 nn cl (vs A8 d.toList),BN],c⟩) ?_ _ _ _ ⟨i,c,rfl,by omega,hi,rfl,rfl,rfl⟩
 rintro _ _ _ ⟨k,c,rfl,hik,hkj,hk,rfl,rfl⟩
 refine⟨rfl,?_⟩
 (conv=>whnf);repeat' (first|((with_reducible show BX _ _ _);refine GI (k) ?_;conv=>whnf)|((with_reducible show BX _ _ _);refine GI (a) ?_;conv=>whnf)|(refine Aa ET ?_;rintro _ rfl;conv=>whnf)|(refine Gh (fun hc=>?_) (fun hc=>?_)<;>conv=>whnf)|(refine kA ?_;conv=>whnf)|(refine Br.mk (fun hc=>?_) fun hc=>?_<;>first|exact hc.elim|conv=>whnf)|(refine kB ?_))
 all_goals first
  |(rw [Xu (by omega) (by first|exact hc|(show (!_)=_;rw[hc];rfl))]at hk
    exact again.mk ⟨_,by omega,k+1,_,rfl,by omega,by omega,hk,rfl,rfl⟩)
  |(rw [Jk (fun _=>(by first|exact hc|(show (!_)=_;rw[hc];rfl)))]at hk
    exact hQ _ _ _ hk hik hkj (fun _=>(by first|exact hc|(show (!_)=_;rw[hc];rfl))))
  |(rw [Jk (fun h=>absurd h (by omega))]at hk
    exact hQ _ _ _ hk hik hkj (fun h=>absurd h (by omega)))
theorem AhH {AX BA BJ BN:Obj} {g c len:Nat} {nn cl:Bool} {d:Array (Int×Int)} {a i j:Nat} {z:Int} {Q:Ar→Env→Ag→Prop} (hl:d.size=len) (ha:a<len) (hj:j<len) (hs:len<2^61) (hz:z=j) (hi:0<i) (hij:i≤j+1)
 (hQ:∀c' k z tl,k=scanDown (fun x=>!CU x d[a]!) d i j→k≤j→i≤k+1→z=(k:Int)→(i≤k→(fun x=>!CU x d[a]!) d[k]! =false)→Q (.exit 2) ([(0,.own 3 g 0 len),(1,.int .i64 a),(4,.fn 77 []),(12,.int .i64 i),(13,.int .i64 z)]++tl) ⟨[AX,BA,BJ,.arr g 2 nn cl (vs A8 d.toList),BN],c'⟩):
 Run (Ac tab) (.loop l127_1_h l127_1_b) [(0,.own 3 g 0 len),(1,.int .i64 a),(4,.fn 77 []),(12,.int .i64 i),(13,.int .i64 z)] ⟨[AX,BA,BJ,.arr g 2 nn cl (vs A8 d.toList),BN],c⟩ Q:=by
 refine Ah (fun m env s=>∃(k c:Nat) (z:Int),m=k∧z=k∧k≤j∧i≤k+1∧scanDown (fun x=>!CU x d[a]!) d i k=scanDown (fun x=>!CU x d[a]!) d i j∧env=[(0,.own 3 g 0 len),(1,.int .i64 a),(4,.fn 77 []),(12,.int .i64 i),(13,.int .i64 z)]∧s=⟨[AX,BA,BJ,.arr g 2 nn cl (vs A8 d.toList),BN],c⟩) ?_ _ _ _ ⟨j,c,z,rfl,hz,by omega,hij,rfl,rfl,rfl⟩
 clear hz
 rintro k _ _ ⟨_,c,z,rfl,hz,hkj,hik,hk,rfl,rfl⟩
 refine⟨rfl,?_⟩
 (conv=>whnf);repeat' (first|((with_reducible show BX _ _ _);refine GI (k) ?_;conv=>whnf)|((with_reducible show BX _ _ _);refine GI (a) ?_;conv=>whnf)|(refine Aa ET ?_;rintro _ rfl;conv=>whnf)|(refine Gh (fun hc=>?_) (fun hc=>?_)<;>conv=>whnf)|(refine kA ?_;conv=>whnf)|(refine Br.mk (fun hc=>?_) fun hc=>?_<;>first|exact hc.elim|conv=>whnf)|(refine kB ?_))
 all_goals first
  |(obtain ⟨k,rfl⟩:∃k',k=k'+1:=⟨k-1,by omega⟩
    rw[Xv (by omega) (by first|exact hc|(show (!_)=_;rw[hc];rfl))]at hk
    exact again.mk ⟨_,by omega,k,_,z-1,rfl,by omega,by omega,by omega,hk,rfl,rfl⟩)
  |(rw [Jl (fun _=>(by first|exact hc|(show (!_)=_;rw[hc];rfl)))]at hk
    exact hQ _ _ _ _ hk hkj hik hz (fun _=>(by first|exact hc|(show (!_)=_;rw[hc];rfl))))
  |(rw [Jl (fun h=>absurd h (by omega))]at hk
    exact hQ _ _ _ _ hk hkj hik hz (fun h=>absurd h (by omega)))
theorem AhI {AX BA BJ BN:Obj} {g c len:Nat} {nn cl:Bool} {d:Array (Int×Int)} {a i j:Nat} {z:Int} {Q:Ar→Env→Ag→Prop} (hl:d.size=len) (ha:a<len) (hj:j<len) (hs:len<2^61) (hz:z=j) (hi:i≤j+1)
 (hQ:∀c' k tl,k=scanUp (fun x=>CU x d[a]!) d j i→i≤k→k≤j+1→(k≤j→(fun x=>CU x d[a]!) d[k]! =false)→Q (.exit 6) ([(0,.own 3 g 0 len),(1,.int .i64 a),(4,.fn 77 []),(12,.int .i64 k),(13,.int .i64 z)]++tl) ⟨[AX,BA,BJ,.arr g 2 nn cl (vs A8 d.toList),BN],c'⟩):
 Run (Ac tab) (.loop l127_2_h l127_2_b) [(0,.own 3 g 0 len),(1,.int .i64 a),(4,.fn 77 []),(12,.int .i64 i),(13,.int .i64 z)] ⟨[AX,BA,BJ,.arr g 2 nn cl (vs A8 d.toList),BN],c⟩ Q:=by
 refine Ah (fun m env s=>∃(k c:Nat),m=j+1-k∧i≤k∧k≤j+1∧scanUp (fun x=>CU x d[a]!) d j k=scanUp (fun x=>CU x d[a]!) d j i∧env=[(0,.own 3 g 0 len),(1,.int .i64 a),(4,.fn 77 []),(12,.int .i64 k),(13,.int .i64 z)]∧s=⟨[AX,BA,BJ,.arr g 2 nn cl (vs A8 d.toList),BN],c⟩) ?_ _ _ _ ⟨i,c,rfl,by omega,hi,rfl,rfl,rfl⟩
 rintro _ _ _ ⟨k,c,rfl,hik,hkj,hk,rfl,rfl⟩
 refine⟨rfl,?_⟩
 (conv=>whnf);repeat' (first|((with_reducible show BX _ _ _);refine GI (k) ?_;conv=>whnf)|((with_reducible show BX _ _ _);refine GI (a) ?_;conv=>whnf)|(refine Aa ET ?_;rintro _ rfl;conv=>whnf)|(refine Gh (fun hc=>?_) (fun hc=>?_)<;>conv=>whnf)|(refine kA ?_;conv=>whnf)|(refine Br.mk (fun hc=>?_) fun hc=>?_<;>first|exact hc.elim|conv=>whnf)|(refine kB ?_))
 all_goals first
  |(rw [Xu (by omega) (by first|exact hc|(show (!_)=_;rw[hc];rfl))]at hk
    exact again.mk ⟨_,by omega,k+1,_,rfl,by omega,by omega,hk,rfl,rfl⟩)
  |(rw [Jk (fun _=>(by first|exact hc|(show (!_)=_;rw[hc];rfl)))]at hk
    exact hQ _ _ _ hk hik hkj (fun _=>(by first|exact hc|(show (!_)=_;rw[hc];rfl))))
  |(rw [Jk (fun h=>absurd h (by omega))]at hk
    exact hQ _ _ _ hk hik hkj (fun h=>absurd h (by omega)))
theorem AhJ {AX BA BJ BN:Obj} {g c len:Nat} {nn cl:Bool} {d:Array (Int×Int)} {a i j:Nat} {z:Int} {Q:Ar→Env→Ag→Prop} (hl:d.size=len) (ha:a<len) (hj:j<len) (hs:len<2^61) (hz:z=j) (hi:0<i) (hij:i≤j+1)
 (hQ:∀c' k z tl,k=scanDown (fun x=>!CU x d[a]!) d i j→k≤j→i≤k+1→z=(k:Int)→(i≤k→(fun x=>!CU x d[a]!) d[k]! =false)→Q (.exit 8) ([(0,.own 3 g 0 len),(1,.int .i64 a),(4,.fn 77 []),(12,.int .i64 i),(13,.int .i64 z)]++tl) ⟨[AX,BA,BJ,.arr g 2 nn cl (vs A8 d.toList),BN],c'⟩):
 Run (Ac tab) (.loop l127_3_h l127_3_b) [(0,.own 3 g 0 len),(1,.int .i64 a),(4,.fn 77 []),(12,.int .i64 i),(13,.int .i64 z)] ⟨[AX,BA,BJ,.arr g 2 nn cl (vs A8 d.toList),BN],c⟩ Q:=by
 refine Ah (fun m env s=>∃(k c:Nat) (z:Int),m=k∧z=k∧k≤j∧i≤k+1∧scanDown (fun x=>!CU x d[a]!) d i k=scanDown (fun x=>!CU x d[a]!) d i j∧env=[(0,.own 3 g 0 len),(1,.int .i64 a),(4,.fn 77 []),(12,.int .i64 i),(13,.int .i64 z)]∧s=⟨[AX,BA,BJ,.arr g 2 nn cl (vs A8 d.toList),BN],c⟩) ?_ _ _ _ ⟨j,c,z,rfl,hz,by omega,hij,rfl,rfl,rfl⟩
 clear hz
 rintro k _ _ ⟨_,c,z,rfl,hz,hkj,hik,hk,rfl,rfl⟩
 refine⟨rfl,?_⟩
 (conv=>whnf);repeat' (first|((with_reducible show BX _ _ _);refine GI (k) ?_;conv=>whnf)|((with_reducible show BX _ _ _);refine GI (a) ?_;conv=>whnf)|(refine Aa ET ?_;rintro _ rfl;conv=>whnf)|(refine Gh (fun hc=>?_) (fun hc=>?_)<;>conv=>whnf)|(refine kA ?_;conv=>whnf)|(refine Br.mk (fun hc=>?_) fun hc=>?_<;>first|exact hc.elim|conv=>whnf)|(refine kB ?_))
 all_goals first
  |(obtain ⟨k,rfl⟩:∃k',k=k'+1:=⟨k-1,by omega⟩
    rw[Xv (by omega) (by first|exact hc|(show (!_)=_;rw[hc];rfl))]at hk
    exact again.mk ⟨_,by omega,k,_,z-1,rfl,by omega,by omega,by omega,hk,rfl,rfl⟩)
  |(rw [Jl (fun _=>(by first|exact hc|(show (!_)=_;rw[hc];rfl)))]at hk
    exact hQ _ _ _ _ hk hkj hik hz (fun _=>(by first|exact hc|(show (!_)=_;rw[hc];rfl))))
  |(rw [Jl (fun h=>absurd h (by omega))]at hk
    exact hQ _ _ _ _ hk hkj hik hz (fun h=>absurd h (by omega)))
set_option maxHeartbeats 1000000 in
theorem Adv {AX BA BJ BN:Obj} {g c len:Nat} {nn cl:Bool} {d:Array (Int×Int)} {a b i j:Nat} {z:Int} {Q:Ar→Env→Ag→Prop} (hl:d.size=len) (hb:b≤len) (hs:len<2^61) (hz:z=j) (hai:a<i) (hij:i≤j+1) (hjb:j<b)
 (hQ:∀c' x y tl,y=((partLoop CU a i j d).1:Int)→(partLoop CU a i j d).1<b→(partLoop CU a i j d).2.size=len→Q (.exit 4) ([(0,.own 3 g 0 len),(1,.int .i64 a),(4,.fn 77 []),(12,x),(13,.int .i64 y)]++tl) ⟨[AX,BA,BJ,.arr g 2 nn cl (vs A8 (partLoop CU a i j d).2.toList),BN],c'⟩):
 Run (Ac tab) (.loop l127_4_h l127_4_b) [(0,.own 3 g 0 len),(1,.int .i64 a),(4,.fn 77 []),(12,.int .i64 i),(13,.int .i64 z)] ⟨[AX,BA,BJ,.arr g 2 nn cl (vs A8 d.toList),BN],c⟩ Q:=by
 refine Ah (fun m env s=>∃(i' j' c:Nat) (z:Int) (D:Array (Int×Int)),m=j'+1-i'∧z=j'∧a<i'∧i'≤j'+1∧j'<b∧D.size=len∧partLoop CU a i' j' D=partLoop CU a i j d∧env=[(0,.own 3 g 0 len),(1,.int .i64 a),(4,.fn 77 []),(12,.int .i64 i'),(13,.int .i64 z)]∧s=⟨[AX,BA,BJ,.arr g 2 nn cl (vs A8 D.toList),BN],c⟩) ?_ _ _ _ ⟨i,j,c,z,d,rfl,hz,hai,hij,hjb,hl,rfl,rfl,rfl⟩
 clear hz
 rintro _ _ _ ⟨i',j',c,z,D,rfl,hz,hai,hij,hjb,hD,hk,rfl,rfl⟩
 refine⟨rfl,?_⟩
 rw[partLoop_eq]at hk
 (conv=>whnf);repeat' (first  |(refine kA ?_;conv=>whnf)|(refine Br.mk (fun hc=>?_) fun hc=>?_<;>first|exact hc.elim|conv=>whnf)|(refine kB ?_))
 refine AhI hD (by omega) (by omega) hs hz hij ?_
 intro c1 i2 tl1 hi2 hii2 Aa8 hp2
 rw[← hi2]at hk
 (conv=>whnf);repeat' (first  |(refine kA ?_;conv=>whnf)|(refine Br.mk (fun hc=>?_) fun hc=>?_<;>first|exact hc.elim|conv=>whnf)|(refine kB ?_))
 refine AhJ hD (by omega) (by omega) hs hz (by omega) Aa8 ?_
 intro c2 j2 z2 tl2 hj2 AhF AeR hz2 hq2
 rw[← hj2]at hk
 have hne:i2≤j2→i2≠j2:=by
  intro h e
  subst e
  have h1:=hp2 (by omega)
  have h2:=hq2 (by omega)
  simp only[Bool.not_eq_false']at h1 h2
  rw[h1]at h2;cases h2
 (conv=>whnf);repeat' (first|((with_reducible show BX _ _ _);refine GI (i2) ?_;conv=>whnf)|((with_reducible show BX _ _ _);refine GI (j2) ?_;conv=>whnf)|((with_reducible show eqK _ _);refine LW BG (i2) ?_;conv=>whnf)|((with_reducible show eqK _ _);refine LW BG (j2) ?_;conv=>whnf)|(refine kA ?_;conv=>whnf)|(refine Br.mk (fun hc=>?_) fun hc=>?_<;>first|exact hc.elim|conv=>whnf)|(refine kB ?_))
 ·rw[if_pos (by omega)]at hk
  rw[← hk]at hQ
  exact hQ _ _ _ _ hz2 (by show j2<b;omega) hD
 ·rw[if_neg (by omega)]at hk
  exact again.mk ⟨_,by omega,i2+1,j2-1,_,z2-1,swp D i2 j2,rfl,by omega,by omega,by omega,by omega,by simpa using hD,hk,rfl,rfl⟩
set_option maxHeartbeats 2000000 in
theorem AhK {AX BA BJ BN:Obj} {g c len:Nat} {nn cl:Bool} {d:Array (Int×Int)} {a b pivot:Nat} (hl:d.size=len) (hb:b≤len) (hap:a≤pivot) (hpb:pivot<b) (hs:len<2^61):
 AY (Ac tab) 127 [.own 3 g 0 len,.int .i64 a,.int .i64 b,.int .i64 pivot,.fn 77 []] ⟨[AX,BA,BJ,.arr g 2 nn cl (vs A8 d.toList),BN],c⟩ fun out s'=>∃c',out=.ok (.Du [.int .i64 (partition CU d a b pivot).1,.bool (partition CU d a b pivot).2.1])∧s'=⟨[AX,BA,BJ,.arr g 2 nn cl (vs A8 (partition CU d a b pivot).2.2.toList),BN],c'⟩:=by
 generalize hR:partition CU d a b pivot=R
 unfold partition at hR
 dsimp only at hR
 refine AL rfl rfl ?_
 (conv=>whnf);repeat' (first|((with_reducible show BX _ _ _);refine GI (a) ?_;conv=>whnf)|((with_reducible show BX _ _ _);refine GI (pivot) ?_;conv=>whnf)|((with_reducible show eqK _ _);refine LW BG (a) ?_;conv=>whnf)|((with_reducible show eqK _ _);refine LW BG (pivot) ?_;conv=>whnf)|(refine kA ?_;conv=>whnf)|(refine Br.mk (fun hc=>?_) fun hc=>?_<;>first|exact hc.elim|conv=>whnf)|(refine kB ?_))
 refine AhG (d:=swp d a pivot) (i:=a+1) (j:=b-1) (by simpa using hl) (by omega) (by omega) hs (by omega) (by omega) ?_
 intro c1 i2 tl1 hi2 hii2 Aa8 hp2
 rw[← hi2]at hR
 (conv=>whnf);repeat' (first  |(refine kA ?_;conv=>whnf)|(refine Br.mk (fun hc=>?_) fun hc=>?_<;>first|exact hc.elim|conv=>whnf)|(refine kB ?_))
 refine AhH (j:=b-1) (by simpa using hl) (by omega) (by omega) hs (by omega) (by omega) Aa8 ?_
 intro c2 j2 z2 tl2 hj2 AhF AeR hz2 hq2
 rw[← hj2]at hR
 have hne:i2≤j2→i2≠j2:=by
  intro h e
  subst e
  have h1:=hp2 (by omega)
  have h2:=hq2 (by omega)
  simp only[Bool.not_eq_false']at h1 h2
  rw[h1]at h2;cases h2
 clear hp2 hq2
 generalize hE:swp d a pivot=E at*
 have hEl:E.size=len:=by rw[← hE];simpa using hl
 (conv=>whnf);repeat' (first|((with_reducible show BX _ _ _);refine GI (a) ?_;conv=>whnf)|((with_reducible show BX _ _ _);refine GI (i2) ?_;conv=>whnf)|((with_reducible show BX _ _ _);refine GI (j2) ?_;conv=>whnf)|((with_reducible show eqK _ _);refine LW BG (a) ?_;conv=>whnf)|((with_reducible show eqK _ _);refine LW BG (i2) ?_;conv=>whnf)|((with_reducible show eqK _ _);refine LW BG (j2) ?_;conv=>whnf)|(refine kA ?_;conv=>whnf)|(refine Br.mk (fun hc=>?_) fun hc=>?_<;>first|exact hc.elim|conv=>whnf)|(refine kB ?_))
 ·rw[if_pos (by omega)]at hR
  subst hR
  rw[hz2]
  exact⟨_,rfl,rfl⟩
 ·rw[if_neg (by omega)]at hR
  refine Adv (d:=swp E i2 j2) (i:=i2+1) (j:=j2-1) (by simpa using hEl) hb hs (by omega) (by omega) (by omega) (by omega) ?_
  intro c3 x y tl3 hy hyb hsz
  generalize (partLoop CU a (i2+1) (j2-1) (swp E i2 j2)).1=p1 at*
  generalize (partLoop CU a (i2+1) (j2-1) (swp E i2 j2)).2=p2 at*
  subst hy
  (conv=>whnf);repeat' (first|((with_reducible show BX _ _ _);refine GI (a) ?_;conv=>whnf)|((with_reducible show BX _ _ _);refine GI (p1) ?_;conv=>whnf)|((with_reducible show eqK _ _);refine LW BG (a) ?_;conv=>whnf)|((with_reducible show eqK _ _);refine LW BG (p1) ?_;conv=>whnf)|(refine kA ?_;conv=>whnf)|(refine Br.mk (fun hc=>?_) fun hc=>?_<;>first|exact hc.elim|conv=>whnf)|(refine kB ?_))
  subst hR
  exact⟨_,rfl,rfl⟩
end AI
end Go.Proofs.YtjjhejbffgaabaaGreatDoor
