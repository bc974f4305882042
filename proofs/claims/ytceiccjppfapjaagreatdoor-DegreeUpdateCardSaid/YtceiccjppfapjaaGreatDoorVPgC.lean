/- Sorting in place (CmpFunc[int]): sorted or nearly so; the partitions. -/
import Derived.Test.YtceiccjppfapjaaGreatDoorVMae
import Derived.Test.YtceiccjppfapjaaGreatDoorVMad
set_option linter.unusedVariables false
set_option maxRecDepth 4000
namespace Go.Proofs.YtceiccjppfapjaaGreatDoor
namespace AI
open Go.Sort
theorem AfR {AX Cc:Obj} {g c len:Nat} {nn cl:Bool} {d:Array Int} {a b i:Nat} {z:Int} {Q:AA→Env→Ap→Prop} (hl:d.size=len) (hb:b≤len) (hs:len<2^61) (hi:0<i) (hib:i≤b)
 (hQ:∀c' k tl,k=scanSorted Dy d b i→i≤k→k≤b→Q (.exit 2) ([(0,.own 2 g 0 len),(1,.int .i64 a),(2,.int .i64 b),(3,.fn 136 []),(9,.int .i64 k),(10,.int .i64 z)]++tl) ⟨[AX,Cc,.arr g 1 nn cl (vs (.int .i64) d.toList)],c'⟩):
 Run (Ad tab) (.loop l289_0_h l289_0_b) [(0,.own 2 g 0 len),(1,.int .i64 a),(2,.int .i64 b),(3,.fn 136 []),(9,.int .i64 i),(10,.int .i64 z)] ⟨[AX,Cc,.arr g 1 nn cl (vs (.int .i64) d.toList)],c⟩ Q:=by
 refine Ae (fun m env s=>∃(k c:Nat),m=b-k∧i≤k∧k≤b∧scanSorted Dy d b k=scanSorted Dy d b i∧env=[(0,.own 2 g 0 len),(1,.int .i64 a),(2,.int .i64 b),(3,.fn 136 []),(9,.int .i64 k),(10,.int .i64 z)]∧s=⟨[AX,Cc,.arr g 1 nn cl (vs (.int .i64) d.toList)],c⟩) ?_ _ _ _ ⟨i,c,rfl,by omega,hib,rfl,rfl,rfl⟩
 rintro _ _ _ ⟨k,c,rfl,hik,hkb,hk,rfl,rfl⟩
 refine⟨rfl,?_⟩
 (conv=>whnf);repeat' (first|((with_reducible show Bq _ _ _);refine DT (k) ?_;conv=>whnf)|((with_reducible show Bq _ _ _);refine DT (k-1) ?_;conv=>whnf)|(refine Aa Le ?_;rintro _ rfl;conv=>whnf)|(refine Iz (fun hc=>?_) (fun hc=>?_)<;>conv=>whnf)|(refine kA ?_;conv=>whnf)|(refine Br.mk (fun hc=>?_) fun hc=>?_<;>first|exact hc.elim|conv=>whnf)|(refine kB ?_))
 all_goals first
  |(rw [ZC (by omega) hc]at hk
    exact again.mk ⟨_,by omega,k+1,_,rfl,by omega,by omega,hk,rfl,rfl⟩)
  |(rw [L6 (fun _=>hc)]at hk
    exact hQ _ _ _ hk hik hkb)
  |(rw [L6 (fun h=>absurd h (by omega))]at hk
    exact hQ _ _ _ hk hik hkb)
theorem AfS {AX Cc:Obj} {g c len:Nat} {nn cl:Bool} {d:Array Int} {a b i j:Nat} {z y:Int} {Q:AA→Env→Ap→Prop} (hl:d.size=len) (hs:len<2^61) (hj:j<len) (hy:y=j)
 (hQ:∀c' tl,Q (.exit 4) ([(0,.own 2 g 0 len),(1,.int .i64 a),(2,.int .i64 b),(3,.fn 136 []),(9,.int .i64 i),(10,.int .i64 z)]++tl) ⟨[AX,Cc,.arr g 1 nn cl (vs (.int .i64) (shiftDown Dy j d).toList)],c'⟩):
 Run (Ad tab) (.loop l289_1_h l289_1_b) [(0,.own 2 g 0 len),(1,.int .i64 a),(2,.int .i64 b),(3,.fn 136 []),(9,.int .i64 i),(10,.int .i64 z),(11,.int .i64 y)] ⟨[AX,Cc,.arr g 1 nn cl (vs (.int .i64) d.toList)],c⟩ Q:=by
 refine Ae (fun m env s=>∃(k c:Nat) (y:Int) (D:Array Int),m=k∧y=k∧k≤j∧D.size=len∧shiftDown Dy k D=shiftDown Dy j d∧env=[(0,.own 2 g 0 len),(1,.int .i64 a),(2,.int .i64 b),(3,.fn 136 []),(9,.int .i64 i),(10,.int .i64 z),(11,.int .i64 y)]∧s=⟨[AX,Cc,.arr g 1 nn cl (vs (.int .i64) D.toList)],c⟩) ?_ _ _ _ ⟨j,c,y,d,rfl,hy,by omega,hl,rfl,rfl,rfl⟩
 clear hy
 rintro k _ _ ⟨_,c,y,D,rfl,hy,hkj,hD,hk,rfl,rfl⟩
 refine⟨rfl,?_⟩
 cases k with
 |zero=>
  rw[← hk]at hQ
  (conv=>whnf);repeat' (first  |(refine kA ?_;conv=>whnf)|(refine Br.mk (fun hc=>?_) fun hc=>?_<;>first|exact hc.elim|conv=>whnf)|(refine kB ?_))
  exact hQ _ _
 |succ k=>
  (conv=>whnf);repeat' (first|((with_reducible show Bq _ _ _);refine DT (k+1) ?_;conv=>whnf)|((with_reducible show Bq _ _ _);refine DT (k) ?_;conv=>whnf)|(refine Aa Le ?_;rintro _ rfl;conv=>whnf)|(refine Iz (fun hc=>?_) (fun hc=>?_)<;>conv=>whnf)|((with_reducible show eqK _ _);refine Hl Cj (k+1) ?_;conv=>whnf)|((with_reducible show eqK _ _);refine Hl Cj (k) ?_;conv=>whnf)|(refine kA ?_;conv=>whnf)|(refine Br.mk (fun hc=>?_) fun hc=>?_<;>first|exact hc.elim|conv=>whnf)|(refine kB ?_))
  ·rw[AfT hc]at hk
   exact again.mk ⟨_,by omega,k,_,y-1,swp D (k+1) k,rfl,by omega,by omega,by simpa using hD,hk,rfl,rfl⟩
  ·rw[ZE hc]at hk
   rw[← hk]at hQ
   exact hQ _ _
theorem AfU {AX Cc:Obj} {g c len:Nat} {nn cl:Bool} {d:Array Int} {a b i j:Nat} {z:Int} {Q:AA→Env→Ap→Prop} (hl:d.size=len) (hs:len<2^61) (hj:0<j) (hb:b≤len)
 (hQ:∀c' tl,Q (.exit 6) ([(0,.own 2 g 0 len),(1,.int .i64 a),(2,.int .i64 b),(3,.fn 136 []),(9,.int .i64 i),(10,.int .i64 z)]++tl) ⟨[AX,Cc,.arr g 1 nn cl (vs (.int .i64) (shiftUp Dy b j d).toList)],c'⟩):
 Run (Ad tab) (.loop l289_2_h l289_2_b) [(0,.own 2 g 0 len),(1,.int .i64 a),(2,.int .i64 b),(3,.fn 136 []),(9,.int .i64 i),(10,.int .i64 z),(12,.int .i64 j)] ⟨[AX,Cc,.arr g 1 nn cl (vs (.int .i64) d.toList)],c⟩ Q:=by
 refine Ae (fun m env s=>∃(k c:Nat) (D:Array Int),m=b-k∧j≤k∧D.size=len∧shiftUp Dy b k D=shiftUp Dy b j d∧env=[(0,.own 2 g 0 len),(1,.int .i64 a),(2,.int .i64 b),(3,.fn 136 []),(9,.int .i64 i),(10,.int .i64 z),(12,.int .i64 k)]∧s=⟨[AX,Cc,.arr g 1 nn cl (vs (.int .i64) D.toList)],c⟩) ?_ _ _ _ ⟨j,c,d,rfl,by omega,hl,rfl,rfl,rfl⟩
 rintro _ _ _ ⟨k,c,D,rfl,hjk,hD,hk,rfl,rfl⟩
 refine⟨rfl,?_⟩
 (conv=>whnf);repeat' (first|((with_reducible show Bq _ _ _);refine DT (k) ?_;conv=>whnf)|((with_reducible show Bq _ _ _);refine DT (k-1) ?_;conv=>whnf)|(refine Aa Le ?_;rintro _ rfl;conv=>whnf)|(refine Iz (fun hc=>?_) (fun hc=>?_)<;>conv=>whnf)|((with_reducible show eqK _ _);refine Hl Cj (k) ?_;conv=>whnf)|((with_reducible show eqK _ _);refine Hl Cj (k-1) ?_;conv=>whnf)|(refine kA ?_;conv=>whnf)|(refine Br.mk (fun hc=>?_) fun hc=>?_<;>first|exact hc.elim|conv=>whnf)|(refine kB ?_))
 ·rw[AfV (by omega) hc]at hk
  exact again.mk ⟨_,by omega,k+1,_,swp D k (k-1),rfl,by omega,by simpa using hD,hk,rfl,rfl⟩
 ·rw[Qk (fun _=>hc)]at hk
  rw[← hk]at hQ
  exact hQ _ _
 ·rw[Qk (fun h=>absurd h (by omega))]at hk
  rw[← hk]at hQ
  exact hQ _ _
set_option maxHeartbeats 2000000 in
theorem AlN {AX Cc:Obj} {g c len:Nat} {nn cl:Bool} {d:Array Int} {a b:Nat} (hl:d.size=len) (hb:b≤len) (hab:a<b) (hs:len<2^61):
 Au (Ad tab) 289 [.own 2 g 0 len,.int .i64 a,.int .i64 b,.fn 136 []] ⟨[AX,Cc,.arr g 1 nn cl (vs (.int .i64) d.toList)],c⟩ fun out s'=>∃c',out=.ok (.bool (partialInsertionSort Dy d a b).2)∧s'=⟨[AX,Cc,.arr g 1 nn cl (vs (.int .i64) (partialInsertionSort Dy d a b).1.toList)],c'⟩:=by
 refine Ah rfl rfl ?_
 (conv=>whnf);repeat' (first  |(refine kA ?_;conv=>whnf)|(refine Br.mk (fun hc=>?_) fun hc=>?_<;>first|exact hc.elim|conv=>whnf)|(refine kB ?_))
 refine Ae (fun m env s=>∃(k i c:Nat) (z:Int) (D:Array Int),m=k∧z=5-k∧k≤5∧a<i∧i≤b∧D.size=len∧partialIns Dy a b k i D=partialInsertionSort Dy d a b∧env=[(0,.own 2 g 0 len),(1,.int .i64 a),(2,.int .i64 b),(3,.fn 136 []),(9,.int .i64 i),(10,.int .i64 z)]∧s=⟨[AX,Cc,.arr g 1 nn cl (vs (.int .i64) D.toList)],c⟩) ?_ _ _ _ ⟨5,a+1,c,0,d,rfl,by omega,by omega,by omega,by omega,hl,rfl,rfl,rfl⟩
 rintro k _ _ ⟨_,i,c,z,D,rfl,hz,hk5,hai,hib,hD,hk,rfl,rfl⟩
 refine⟨rfl,?_⟩
 cases k with
 |zero=>
  rw[← hk]
  (conv=>whnf);repeat' (first  |(refine kA ?_;conv=>whnf)|(refine Br.mk (fun hc=>?_) fun hc=>?_<;>first|exact hc.elim|conv=>whnf)|(refine kB ?_))
  exact⟨_,rfl,rfl⟩
 |succ k=>
  rw[partialIns_succ]at hk
  (conv=>whnf);repeat' (first  |(refine kA ?_;conv=>whnf)|(refine Br.mk (fun hc=>?_) fun hc=>?_<;>first|exact hc.elim|conv=>whnf)|(refine kB ?_))
  refine AfR hD hb hs (by omega) hib ?_
  intro c1 j tl hj hij hjb
  rw[← hj]at hk
  have hend:∀(c:Nat) (E:Array Int) (z':Int),z'=5-(k:Int)→E.size=len→E=fixUp Dy b j (fixDown Dy a j (swp D j (j-1)))→¬j=b→¬b-a<50→again (fun m env s=>∃(k i c:Nat) (z:Int) (D:Array Int),m=k∧z=5-k∧k≤5∧a<i∧i≤b∧D.size=len∧partialIns Dy a b k i D=partialInsertionSort Dy d a b∧env=[(0,.own 2 g 0 len),(1,.int .i64 a),(2,.int .i64 b),(3,.fn 136 []),(9,.int .i64 i),(10,.int .i64 z)]∧s=⟨[AX,Cc,.arr g 1 nn cl (vs (.int .i64) D.toList)],c⟩) (k+1) [(0,.own 2 g 0 len),(1,.int .i64 a),(2,.int .i64 b),(3,.fn 136 []),(9,.int .i64 j),(10,.int .i64 z')] ⟨[AX,Cc,.arr g 1 nn cl (vs (.int .i64) E.toList)],c⟩:=by
   intro c E z' hz' hE hE2 h1 h2
   rw[if_neg h1,if_neg h2]at hk
   refine again.mk ⟨_,by omega,k,j,c,z',E,rfl,hz',by omega,by omega,by omega,hE,?_,rfl,rfl⟩
   rw[hE2];exact hk
  (conv=>whnf);repeat' (first|((with_reducible show Bq _ _ _);refine DT (j) ?_;conv=>whnf)|((with_reducible show Bq _ _ _);refine DT (j-1) ?_;conv=>whnf)|((with_reducible show eqK _ _);refine Hl Cj (j) ?_;conv=>whnf)|((with_reducible show eqK _ _);refine Hl Cj (j-1) ?_;conv=>whnf)|(refine kA ?_;conv=>whnf)|(refine Br.mk (fun hc=>?_) fun hc=>?_<;>first|exact hc.elim|conv=>whnf)|(refine kB ?_))
  ·rw[if_pos (by omega)]at hk
   rw[← hk]
   exact⟨_,rfl,rfl⟩
  ·rw[if_neg (by omega),if_pos (by omega)]at hk
   rw[← hk]
   exact⟨_,rfl,rfl⟩
  ·refine AfS (d:=swp D j (j-1)) (j:=j-1) (by simpa using hD) hs (by omega) (by omega) ?_
   intro c2 tl2
   (conv=>whnf);repeat' (first  |(refine kA ?_;conv=>whnf)|(refine Br.mk (fun hc=>?_) fun hc=>?_<;>first|exact hc.elim|conv=>whnf)|(refine kB ?_))
   ·refine AfU (j:=j+1) (by simpa using hD) hs (by omega) hb ?_
    intro c3 tl3
    (conv=>whnf);repeat' (first  |(refine kA ?_;conv=>whnf)|(refine Br.mk (fun hc=>?_) fun hc=>?_<;>first|exact hc.elim|conv=>whnf)|(refine kB ?_))
    refine hend _ _ _ (by omega) (by simpa using hD) ?_ (by omega) (by omega)
    unfold fixUp fixDown
    rw[if_pos (by omega),if_pos (by omega)]
   ·refine hend _ _ _ (by omega) (by simpa using hD) ?_ (by omega) (by omega)
    unfold fixUp fixDown
    rw[if_neg (by omega),if_pos (by omega)]
  ·refine AfU (d:=swp D j (j-1)) (j:=j+1) (by simpa using hD) hs (by omega) hb ?_
   intro c3 tl3
   (conv=>whnf);repeat' (first  |(refine kA ?_;conv=>whnf)|(refine Br.mk (fun hc=>?_) fun hc=>?_<;>first|exact hc.elim|conv=>whnf)|(refine kB ?_))
   refine hend _ _ _ (by omega) (by simpa using hD) ?_ (by omega) (by omega)
   unfold fixUp fixDown
   rw[if_pos (by omega),if_neg (by omega)]
theorem Aoq {AX Cc:Obj} {g c len:Nat} {nn cl:Bool} {d:Array Int} {a i j:Nat} {z:Int} {Q:AA→Env→Ap→Prop} (hl:d.size=len) (ha:a<len) (hj:j<len) (hs:len<2^61) (hz:z=j) (hi:i≤j+1)
 (hQ:∀c' k tl,k=scanUp (fun x=>!Dy d[a]! x) d j i→i≤k→k≤j+1→(k≤j→(fun x=>!Dy d[a]! x) d[k]! =false)→Q (.exit 2) ([(0,.own 2 g 0 len),(1,.int .i64 a),(4,.fn 136 []),(11,.int .i64 k),(12,.int .i64 z)]++tl) ⟨[AX,Cc,.arr g 1 nn cl (vs (.int .i64) d.toList)],c'⟩):
 Run (Ad tab) (.loop l290_0_h l290_0_b) [(0,.own 2 g 0 len),(1,.int .i64 a),(4,.fn 136 []),(11,.int .i64 i),(12,.int .i64 z)] ⟨[AX,Cc,.arr g 1 nn cl (vs (.int .i64) d.toList)],c⟩ Q:=by
 refine Ae (fun m env s=>∃(k c:Nat),m=j+1-k∧i≤k∧k≤j+1∧scanUp (fun x=>!Dy d[a]! x) d j k=scanUp (fun x=>!Dy d[a]! x) d j i∧env=[(0,.own 2 g 0 len),(1,.int .i64 a),(4,.fn 136 []),(11,.int .i64 k),(12,.int .i64 z)]∧s=⟨[AX,Cc,.arr g 1 nn cl (vs (.int .i64) d.toList)],c⟩) ?_ _ _ _ ⟨i,c,rfl,by omega,hi,rfl,rfl,rfl⟩
 rintro _ _ _ ⟨k,c,rfl,hik,hkj,hk,rfl,rfl⟩
 refine⟨rfl,?_⟩
 (conv=>whnf);repeat' (first|((with_reducible show Bq _ _ _);refine DT (k) ?_;conv=>whnf)|((with_reducible show Bq _ _ _);refine DT (a) ?_;conv=>whnf)|(refine Aa Le ?_;rintro _ rfl;conv=>whnf)|(refine Iz (fun hc=>?_) (fun hc=>?_)<;>conv=>whnf)|(refine kA ?_;conv=>whnf)|(refine Br.mk (fun hc=>?_) fun hc=>?_<;>first|exact hc.elim|conv=>whnf)|(refine kB ?_))
 all_goals first
  |(rw [RN (by omega) (by first|exact hc|(show (!_)=_;rw[hc];rfl))]at hk
    exact again.mk ⟨_,by omega,k+1,_,rfl,by omega,by omega,hk,rfl,rfl⟩)
  |(rw [FB (fun _=>(by first|exact hc|(show (!_)=_;rw[hc];rfl)))]at hk
    exact hQ _ _ _ hk hik hkj (fun _=>(by first|exact hc|(show (!_)=_;rw[hc];rfl))))
  |(rw [FB (fun h=>absurd h (by omega))]at hk
    exact hQ _ _ _ hk hik hkj (fun h=>absurd h (by omega)))
theorem Aor {AX Cc:Obj} {g c len:Nat} {nn cl:Bool} {d:Array Int} {a i j:Nat} {z:Int} {Q:AA→Env→Ap→Prop} (hl:d.size=len) (ha:a<len) (hj:j<len) (hs:len<2^61) (hz:z=j) (hi:0<i) (hij:i≤j+1)
 (hQ:∀c' k z tl,k=scanDown (fun x=>Dy d[a]! x) d i j→k≤j→i≤k+1→z=(k:Int)→(i≤k→(fun x=>Dy d[a]! x) d[k]! =false)→Q (.exit 4) ([(0,.own 2 g 0 len),(1,.int .i64 a),(4,.fn 136 []),(11,.int .i64 i),(12,.int .i64 z)]++tl) ⟨[AX,Cc,.arr g 1 nn cl (vs (.int .i64) d.toList)],c'⟩):
 Run (Ad tab) (.loop l290_1_h l290_1_b) [(0,.own 2 g 0 len),(1,.int .i64 a),(4,.fn 136 []),(11,.int .i64 i),(12,.int .i64 z)] ⟨[AX,Cc,.arr g 1 nn cl (vs (.int .i64) d.toList)],c⟩ Q:=by
 refine Ae (fun m env s=>∃(k c:Nat) (z:Int),m=k∧z=k∧k≤j∧i≤k+1∧scanDown (fun x=>Dy d[a]! x) d i k=scanDown (fun x=>Dy d[a]! x) d i j∧env=[(0,.own 2 g 0 len),(1,.int .i64 a),(4,.fn 136 []),(11,.int .i64 i),(12,.int .i64 z)]∧s=⟨[AX,Cc,.arr g 1 nn cl (vs (.int .i64) d.toList)],c⟩) ?_ _ _ _ ⟨j,c,z,rfl,hz,by omega,hij,rfl,rfl,rfl⟩
 clear hz
 rintro k _ _ ⟨_,c,z,rfl,hz,hkj,hik,hk,rfl,rfl⟩
 refine⟨rfl,?_⟩
 (conv=>whnf);repeat' (first|((with_reducible show Bq _ _ _);refine DT (k) ?_;conv=>whnf)|((with_reducible show Bq _ _ _);refine DT (a) ?_;conv=>whnf)|(refine Aa Le ?_;rintro _ rfl;conv=>whnf)|(refine Iz (fun hc=>?_) (fun hc=>?_)<;>conv=>whnf)|(refine kA ?_;conv=>whnf)|(refine Br.mk (fun hc=>?_) fun hc=>?_<;>first|exact hc.elim|conv=>whnf)|(refine kB ?_))
 all_goals first
  |(obtain ⟨k,rfl⟩:∃k',k=k'+1:=⟨k-1,by omega⟩
    rw[RP (by omega) (by first|exact hc|(show (!_)=_;rw[hc];rfl))]at hk
    exact again.mk ⟨_,by omega,k,_,z-1,rfl,by omega,by omega,by omega,hk,rfl,rfl⟩)
  |(rw [FC (fun _=>(by first|exact hc|(show (!_)=_;rw[hc];rfl)))]at hk
    exact hQ _ _ _ _ hk hkj hik hz (fun _=>(by first|exact hc|(show (!_)=_;rw[hc];rfl))))
  |(rw [FC (fun h=>absurd h (by omega))]at hk
    exact hQ _ _ _ _ hk hkj hik hz (fun h=>absurd h (by omega)))
set_option maxHeartbeats 1000000 in
theorem Aos {AX Cc:Obj} {g c len:Nat} {nn cl:Bool} {d:Array Int} {a b pivot:Nat} (hl:d.size=len) (hb:b≤len) (hap:a≤pivot) (hpb:pivot<b) (hs:len<2^61):
 Au (Ad tab) 290 [.own 2 g 0 len,.int .i64 a,.int .i64 b,.int .i64 pivot,.fn 136 []] ⟨[AX,Cc,.arr g 1 nn cl (vs (.int .i64) d.toList)],c⟩ fun out s'=>∃c',out=.ok (.int .i64 (partitionEqual Dy d a b pivot).1)∧s'=⟨[AX,Cc,.arr g 1 nn cl (vs (.int .i64) (partitionEqual Dy d a b pivot).2.toList)],c'⟩:=by
 refine Ah rfl rfl ?_
 (conv=>whnf);repeat' (first|((with_reducible show Bq _ _ _);refine DT (a) ?_;conv=>whnf)|((with_reducible show Bq _ _ _);refine DT (pivot) ?_;conv=>whnf)|((with_reducible show eqK _ _);refine Hl Cj (a) ?_;conv=>whnf)|((with_reducible show eqK _ _);refine Hl Cj (pivot) ?_;conv=>whnf)|(refine kA ?_;conv=>whnf)|(refine Br.mk (fun hc=>?_) fun hc=>?_<;>first|exact hc.elim|conv=>whnf)|(refine kB ?_))
 refine Ae (fun m env s=>∃(i j c:Nat) (z:Int) (D:Array Int),m=j+1-i∧z=j∧a<i∧i≤j+1∧j<b∧D.size=len∧partEqLoop Dy a i j D=partitionEqual Dy d a b pivot∧env=[(0,.own 2 g 0 len),(1,.int .i64 a),(4,.fn 136 []),(11,.int .i64 i),(12,.int .i64 z)]∧s=⟨[AX,Cc,.arr g 1 nn cl (vs (.int .i64) D.toList)],c⟩) ?_ _ _ _ ⟨a+1,b-1,_,_,swp d a pivot,rfl,by omega,by omega,by omega,by omega,by simpa using hl,rfl,rfl,rfl⟩
 rintro _ _ _ ⟨i,j,c,z,D,rfl,hz,hai,hij,hjb,hD,hk,rfl,rfl⟩
 refine⟨rfl,?_⟩
 rw[partEqLoop_eq]at hk
 (conv=>whnf);repeat' (first  |(refine kA ?_;conv=>whnf)|(refine Br.mk (fun hc=>?_) fun hc=>?_<;>first|exact hc.elim|conv=>whnf)|(refine kB ?_))
 refine Aoq hD (by omega) (by omega) hs hz hij ?_
 intro c1 i2 tl1 hi2 hii2 U1 hp2
 rw[← hi2]at hk
 (conv=>whnf);repeat' (first  |(refine kA ?_;conv=>whnf)|(refine Br.mk (fun hc=>?_) fun hc=>?_<;>first|exact hc.elim|conv=>whnf)|(refine kB ?_))
 refine Aor hD (by omega) (by omega) hs hz (by omega) U1 ?_
 intro c2 j2 z2 tl2 hj2 AfW ZF hz2 hq2
 rw[← hj2]at hk
 have hne:i2≤j2→i2≠j2:=by
  intro h e
  subst e
  have h1:=hp2 (by omega)
  have h2:=hq2 (by omega)
  simp only[Bool.not_eq_false']at h1 h2
  rw[h1]at h2;cases h2
 (conv=>whnf);repeat' (first|((with_reducible show Bq _ _ _);refine DT (i2) ?_;conv=>whnf)|((with_reducible show Bq _ _ _);refine DT (j2) ?_;conv=>whnf)|((with_reducible show eqK _ _);refine Hl Cj (i2) ?_;conv=>whnf)|((with_reducible show eqK _ _);refine Hl Cj (j2) ?_;conv=>whnf)|(refine kA ?_;conv=>whnf)|(refine Br.mk (fun hc=>?_) fun hc=>?_<;>first|exact hc.elim|conv=>whnf)|(refine kB ?_))
 ·rw[if_pos (by omega)]at hk
  rw[← hk]
  exact⟨_,rfl,rfl⟩
 ·rw[if_neg (by omega)]at hk
  exact again.mk ⟨_,by omega,i2+1,j2-1,_,z2-1,swp D i2 j2,rfl,by omega,by omega,by omega,by omega,by simpa using hD,hk,rfl,rfl⟩
theorem Aot {AX Cc:Obj} {g c len:Nat} {nn cl:Bool} {d:Array Int} {a i j:Nat} {z:Int} {Q:AA→Env→Ap→Prop} (hl:d.size=len) (ha:a<len) (hj:j<len) (hs:len<2^61) (hz:z=j) (hi:i≤j+1)
 (hQ:∀c' k tl,k=scanUp (fun x=>Dy x d[a]!) d j i→i≤k→k≤j+1→(k≤j→(fun x=>Dy x d[a]!) d[k]! =false)→Q (.exit 0) ([(0,.own 2 g 0 len),(1,.int .i64 a),(4,.fn 136 []),(12,.int .i64 k),(13,.int .i64 z)]++tl) ⟨[AX,Cc,.arr g 1 nn cl (vs (.int .i64) d.toList)],c'⟩):
 Run (Ad tab) (.loop l291_0_h l291_0_b) [(0,.own 2 g 0 len),(1,.int .i64 a),(4,.fn 136 []),(12,.int .i64 i),(13,.int .i64 z)] ⟨[AX,Cc,.arr g 1 nn cl (vs (.int .i64) d.toList)],c⟩ Q:=by
 refine Ae (fun m env s=>∃(k c:Nat),m=j+1-k∧i≤k∧k≤j+1∧scanUp (fun x=>Dy x d[a]!) d j k=scanUp (fun x=>Dy x d[a]!) d j i∧env=[(0,.own 2 g 0 len),(1,.int .i64 a),(4,.fn 136 []),(12,.int .i64 k),(13,.int .i64 z)]∧s=⟨[AX,Cc,.arr g 1 nn cl (vs (.int .i64) d.toList)],c⟩) ?_ _ _ _ ⟨i,c,rfl,by omega,hi,rfl,rfl,rfl⟩
 rintro _ _ _ ⟨k,c,rfl,hik,hkj,hk,rfl,rfl⟩
 refine⟨rfl,?_⟩
 (conv=>whnf);repeat' (first|((with_reducible show Bq _ _ _);refine DT (k) ?_;conv=>whnf)|((with_reducible show Bq _ _ _);refine DT (a) ?_;conv=>whnf)|(refine Aa Le ?_;rintro _ rfl;conv=>whnf)|(refine Iz (fun hc=>?_) (fun hc=>?_)<;>conv=>whnf)|(refine kA ?_;conv=>whnf)|(refine Br.mk (fun hc=>?_) fun hc=>?_<;>first|exact hc.elim|conv=>whnf)|(refine kB ?_))
 all_goals first
  |(rw [RN (by omega) (by first|exact hc|(show (!_)=_;rw[hc];rfl))]at hk
    exact again.mk ⟨_,by omega,k+1,_,rfl,by omega,by omega,hk,rfl,rfl⟩)
  |(rw [FB (fun _=>(by first|exact hc|(show (!_)=_;rw[hc];rfl)))]at hk
    exact hQ _ _ _ hk hik hkj (fun _=>(by first|exact hc|(show (!_)=_;rw[hc];rfl))))
  |(rw [FB (fun h=>absurd h (by omega))]at hk
    exact hQ _ _ _ hk hik hkj (fun h=>absurd h (by omega)))
theorem Aou {AX Cc:Obj} {g c len:Nat} {nn cl:Bool} {d:Array Int} {a i j:Nat} {z:Int} {Q:AA→Env→Ap→Prop} (hl:d.size=len) (ha:a<len) (hj:j<len) (hs:len<2^61) (hz:z=j) (hi:0<i) (hij:i≤j+1)
 (hQ:∀c' k z tl,k=scanDown (fun x=>!Dy x d[a]!) d i j→k≤j→i≤k+1→z=(k:Int)→(i≤k→(fun x=>!Dy x d[a]!) d[k]! =false)→Q (.exit 2) ([(0,.own 2 g 0 len),(1,.int .i64 a),(4,.fn 136 []),(12,.int .i64 i),(13,.int .i64 z)]++tl) ⟨[AX,Cc,.arr g 1 nn cl (vs (.int .i64) d.toList)],c'⟩):
 Run (Ad tab) (.loop l291_1_h l291_1_b) [(0,.own 2 g 0 len),(1,.int .i64 a),(4,.fn 136 []),(12,.int .i64 i),(13,.int .i64 z)] ⟨[AX,Cc,.arr g 1 nn cl (vs (.int .i64) d.toList)],c⟩ Q:=by
 refine Ae (fun m env s=>∃(k c:Nat) (z:Int),m=k∧z=k∧k≤j∧i≤k+1∧scanDown (fun x=>!Dy x d[a]!) d i k=scanDown (fun x=>!Dy x d[a]!) d i j∧env=[(0,.own 2 g 0 len),(1,.int .i64 a),(4,.fn 136 []),(12,.int .i64 i),(13,.int .i64 z)]∧s=⟨[AX,Cc,.arr g 1 nn cl (vs (.int .i64) d.toList)],c⟩) ?_ _ _ _ ⟨j,c,z,rfl,hz,by omega,hij,rfl,rfl,rfl⟩
 clear hz
 rintro k _ _ ⟨_,c,z,rfl,hz,hkj,hik,hk,rfl,rfl⟩
 refine⟨rfl,?_⟩
 (conv=>whnf);repeat' (first|((with_reducible show Bq _ _ _);refine DT (k) ?_;conv=>whnf)|((with_reducible show Bq _ _ _);refine DT (a) ?_;conv=>whnf)|(refine Aa Le ?_;rintro _ rfl;conv=>whnf)|(refine Iz (fun hc=>?_) (fun hc=>?_)<;>conv=>whnf)|(refine kA ?_;conv=>whnf)|(refine Br.mk (fun hc=>?_) fun hc=>?_<;>first|exact hc.elim|conv=>whnf)|(refine kB ?_))
 all_goals first
  |(obtain ⟨k,rfl⟩:∃k',k=k'+1:=⟨k-1,by omega⟩
    rw[RP (by omega) (by first|exact hc|(show (!_)=_;rw[hc];rfl))]at hk
    exact again.mk ⟨_,by omega,k,_,z-1,rfl,by omega,by omega,by omega,hk,rfl,rfl⟩)
  |(rw [FC (fun _=>(by first|exact hc|(show (!_)=_;rw[hc];rfl)))]at hk
    exact hQ _ _ _ _ hk hkj hik hz (fun _=>(by first|exact hc|(show (!_)=_;rw[hc];rfl))))
  |(rw [FC (fun h=>absurd h (by omega))]at hk
    exact hQ _ _ _ _ hk hkj hik hz (fun h=>absurd h (by omega)))
theorem Aov {AX Cc:Obj} {g c len:Nat} {nn cl:Bool} {d:Array Int} {a i j:Nat} {z:Int} {Q:AA→Env→Ap→Prop} (hl:d.size=len) (ha:a<len) (hj:j<len) (hs:len<2^61) (hz:z=j) (hi:i≤j+1)
 (hQ:∀c' k tl,k=scanUp (fun x=>Dy x d[a]!) d j i→i≤k→k≤j+1→(k≤j→(fun x=>Dy x d[a]!) d[k]! =false)→Q (.exit 6) ([(0,.own 2 g 0 len),(1,.int .i64 a),(4,.fn 136 []),(12,.int .i64 k),(13,.int .i64 z)]++tl) ⟨[AX,Cc,.arr g 1 nn cl (vs (.int .i64) d.toList)],c'⟩):
 Run (Ad tab) (.loop l291_2_h l291_2_b) [(0,.own 2 g 0 len),(1,.int .i64 a),(4,.fn 136 []),(12,.int .i64 i),(13,.int .i64 z)] ⟨[AX,Cc,.arr g 1 nn cl (vs (.int .i64) d.toList)],c⟩ Q:=by
 refine Ae (fun m env s=>∃(k c:Nat),m=j+1-k∧i≤k∧k≤j+1∧scanUp (fun x=>Dy x d[a]!) d j k=scanUp (fun x=>Dy x d[a]!) d j i∧env=[(0,.own 2 g 0 len),(1,.int .i64 a),(4,.fn 136 []),(12,.int .i64 k),(13,.int .i64 z)]∧s=⟨[AX,Cc,.arr g 1 nn cl (vs (.int .i64) d.toList)],c⟩) ?_ _ _ _ ⟨i,c,rfl,by omega,hi,rfl,rfl,rfl⟩
 rintro _ _ _ ⟨k,c,rfl,hik,hkj,hk,rfl,rfl⟩
 refine⟨rfl,?_⟩
 (conv=>whnf);repeat' (first|((with_reducible show Bq _ _ _);refine DT (k) ?_;conv=>whnf)|((with_reducible show Bq _ _ _);refine DT (a) ?_;conv=>whnf)|(refine Aa Le ?_;rintro _ rfl;conv=>whnf)|(refine Iz (fun hc=>?_) (fun hc=>?_)<;>conv=>whnf)|(refine kA ?_;conv=>whnf)|(refine Br.mk (fun hc=>?_) fun hc=>?_<;>first|exact hc.elim|conv=>whnf)|(refine kB ?_))
 all_goals first
  |(rw [RN (by omega) (by first|exact hc|(show (!_)=_;rw[hc];rfl))]at hk
    exact again.mk ⟨_,by omega,k+1,_,rfl,by omega,by omega,hk,rfl,rfl⟩)
  |(rw [FB (fun _=>(by first|exact hc|(show (!_)=_;rw[hc];rfl)))]at hk
    exact hQ _ _ _ hk hik hkj (fun _=>(by first|exact hc|(show (!_)=_;rw[hc];rfl))))
  |(rw [FB (fun h=>absurd h (by omega))]at hk
    exact hQ _ _ _ hk hik hkj (fun h=>absurd h (by omega)))
theorem Aow {AX Cc:Obj} {g c len:Nat} {nn cl:Bool} {d:Array Int} {a i j:Nat} {z:Int} {Q:AA→Env→Ap→Prop} (hl:d.size=len) (ha:a<len) (hj:j<len) (hs:len<2^61) (hz:z=j) (hi:0<i) (hij:i≤j+1)
 (hQ:∀c' k z tl,k=scanDown (fun x=>!Dy x d[a]!) d i j→k≤j→i≤k+1→z=(k:Int)→(i≤k→(fun x=>!Dy x d[a]!) d[k]! =false)→Q (.exit 8) ([(0,.own 2 g 0 len),(1,.int .i64 a),(4,.fn 136 []),(12,.int .i64 i),(13,.int .i64 z)]++tl) ⟨[AX,Cc,.arr g 1 nn cl (vs (.int .i64) d.toList)],c'⟩):
 Run (Ad tab) (.loop l291_3_h l291_3_b) [(0,.own 2 g 0 len),(1,.int .i64 a),(4,.fn 136 []),(12,.int .i64 i),(13,.int .i64 z)] ⟨[AX,Cc,.arr g 1 nn cl (vs (.int .i64) d.toList)],c⟩ Q:=by
 refine Ae (fun m env s=>∃(k c:Nat) (z:Int),m=k∧z=k∧k≤j∧i≤k+1∧scanDown (fun x=>!Dy x d[a]!) d i k=scanDown (fun x=>!Dy x d[a]!) d i j∧env=[(0,.own 2 g 0 len),(1,.int .i64 a),(4,.fn 136 []),(12,.int .i64 i),(13,.int .i64 z)]∧s=⟨[AX,Cc,.arr g 1 nn cl (vs (.int .i64) d.toList)],c⟩) ?_ _ _ _ ⟨j,c,z,rfl,hz,by omega,hij,rfl,rfl,rfl⟩
 clear hz
 rintro k _ _ ⟨_,c,z,rfl,hz,hkj,hik,hk,rfl,rfl⟩
 refine⟨rfl,?_⟩
 (conv=>whnf);repeat' (first|((with_reducible show Bq _ _ _);refine DT (k) ?_;conv=>whnf)|((with_reducible show Bq _ _ _);refine DT (a) ?_;conv=>whnf)|(refine Aa Le ?_;rintro _ rfl;conv=>whnf)|(refine Iz (fun hc=>?_) (fun hc=>?_)<;>conv=>whnf)|(refine kA ?_;conv=>whnf)|(refine Br.mk (fun hc=>?_) fun hc=>?_<;>first|exact hc.elim|conv=>whnf)|(refine kB ?_))
 all_goals first
  |(obtain ⟨k,rfl⟩:∃k',k=k'+1:=⟨k-1,by omega⟩
    rw[RP (by omega) (by first|exact hc|(show (!_)=_;rw[hc];rfl))]at hk
    exact again.mk ⟨_,by omega,k,_,z-1,rfl,by omega,by omega,by omega,hk,rfl,rfl⟩)
  |(rw [FC (fun _=>(by first|exact hc|(show (!_)=_;rw[hc];rfl)))]at hk
    exact hQ _ _ _ _ hk hkj hik hz (fun _=>(by first|exact hc|(show (!_)=_;rw[hc];rfl))))
  |(rw [FC (fun h=>absurd h (by omega))]at hk
    exact hQ _ _ _ _ hk hkj hik hz (fun h=>absurd h (by omega)))
set_option maxHeartbeats 1000000 in
theorem Ai1 {AX Cc:Obj} {g c len:Nat} {nn cl:Bool} {d:Array Int} {a b i j:Nat} {z:Int} {Q:AA→Env→Ap→Prop} (hl:d.size=len) (hb:b≤len) (hs:len<2^61) (hz:z=j) (hai:a<i) (hij:i≤j+1) (hjb:j<b)
 (hQ:∀c' x y tl,y=((partLoop Dy a i j d).1:Int)→(partLoop Dy a i j d).1<b→(partLoop Dy a i j d).2.size=len→Q (.exit 4) ([(0,.own 2 g 0 len),(1,.int .i64 a),(4,.fn 136 []),(12,x),(13,.int .i64 y)]++tl) ⟨[AX,Cc,.arr g 1 nn cl (vs (.int .i64) (partLoop Dy a i j d).2.toList)],c'⟩):
 Run (Ad tab) (.loop l291_4_h l291_4_b) [(0,.own 2 g 0 len),(1,.int .i64 a),(4,.fn 136 []),(12,.int .i64 i),(13,.int .i64 z)] ⟨[AX,Cc,.arr g 1 nn cl (vs (.int .i64) d.toList)],c⟩ Q:=by
 refine Ae (fun m env s=>∃(i' j' c:Nat) (z:Int) (D:Array Int),m=j'+1-i'∧z=j'∧a<i'∧i'≤j'+1∧j'<b∧D.size=len∧partLoop Dy a i' j' D=partLoop Dy a i j d∧env=[(0,.own 2 g 0 len),(1,.int .i64 a),(4,.fn 136 []),(12,.int .i64 i'),(13,.int .i64 z)]∧s=⟨[AX,Cc,.arr g 1 nn cl (vs (.int .i64) D.toList)],c⟩) ?_ _ _ _ ⟨i,j,c,z,d,rfl,hz,hai,hij,hjb,hl,rfl,rfl,rfl⟩
 clear hz
 rintro _ _ _ ⟨i',j',c,z,D,rfl,hz,hai,hij,hjb,hD,hk,rfl,rfl⟩
 refine⟨rfl,?_⟩
 rw[partLoop_eq]at hk
 (conv=>whnf);repeat' (first  |(refine kA ?_;conv=>whnf)|(refine Br.mk (fun hc=>?_) fun hc=>?_<;>first|exact hc.elim|conv=>whnf)|(refine kB ?_))
 refine Aov hD (by omega) (by omega) hs hz hij ?_
 intro c1 i2 tl1 hi2 hii2 U1 hp2
 rw[← hi2]at hk
 (conv=>whnf);repeat' (first  |(refine kA ?_;conv=>whnf)|(refine Br.mk (fun hc=>?_) fun hc=>?_<;>first|exact hc.elim|conv=>whnf)|(refine kB ?_))
 refine Aow hD (by omega) (by omega) hs hz (by omega) U1 ?_
 intro c2 j2 z2 tl2 hj2 AfW ZF hz2 hq2
 rw[← hj2]at hk
 have hne:i2≤j2→i2≠j2:=by
  intro h e
  subst e
  have h1:=hp2 (by omega)
  have h2:=hq2 (by omega)
  simp only[Bool.not_eq_false']at h1 h2
  rw[h1]at h2;cases h2
 (conv=>whnf);repeat' (first|((with_reducible show Bq _ _ _);refine DT (i2) ?_;conv=>whnf)|((with_reducible show Bq _ _ _);refine DT (j2) ?_;conv=>whnf)|((with_reducible show eqK _ _);refine Hl Cj (i2) ?_;conv=>whnf)|((with_reducible show eqK _ _);refine Hl Cj (j2) ?_;conv=>whnf)|(refine kA ?_;conv=>whnf)|(refine Br.mk (fun hc=>?_) fun hc=>?_<;>first|exact hc.elim|conv=>whnf)|(refine kB ?_))
 ·rw[if_pos (by omega)]at hk
  rw[← hk]at hQ
  exact hQ _ _ _ _ hz2 (by show j2<b;omega) hD
 ·rw[if_neg (by omega)]at hk
  exact again.mk ⟨_,by omega,i2+1,j2-1,_,z2-1,swp D i2 j2,rfl,by omega,by omega,by omega,by omega,by simpa using hD,hk,rfl,rfl⟩
set_option maxHeartbeats 2000000 in
theorem Aox {AX Cc:Obj} {g c len:Nat} {nn cl:Bool} {d:Array Int} {a b pivot:Nat} (hl:d.size=len) (hb:b≤len) (hap:a≤pivot) (hpb:pivot<b) (hs:len<2^61):
 Au (Ad tab) 291 [.own 2 g 0 len,.int .i64 a,.int .i64 b,.int .i64 pivot,.fn 136 []] ⟨[AX,Cc,.arr g 1 nn cl (vs (.int .i64) d.toList)],c⟩ fun out s'=>∃c',out=.ok (.BH [.int .i64 (partition Dy d a b pivot).1,.bool (partition Dy d a b pivot).2.1])∧s'=⟨[AX,Cc,.arr g 1 nn cl (vs (.int .i64) (partition Dy d a b pivot).2.2.toList)],c'⟩:=by
 generalize hR:partition Dy d a b pivot=R
 unfold partition at hR
 dsimp only at hR
 refine Ah rfl rfl ?_
 (conv=>whnf);repeat' (first|((with_reducible show Bq _ _ _);refine DT (a) ?_;conv=>whnf)|((with_reducible show Bq _ _ _);refine DT (pivot) ?_;conv=>whnf)|((with_reducible show eqK _ _);refine Hl Cj (a) ?_;conv=>whnf)|((with_reducible show eqK _ _);refine Hl Cj (pivot) ?_;conv=>whnf)|(refine kA ?_;conv=>whnf)|(refine Br.mk (fun hc=>?_) fun hc=>?_<;>first|exact hc.elim|conv=>whnf)|(refine kB ?_))
 refine Aot (d:=swp d a pivot) (i:=a+1) (j:=b-1) (by simpa using hl) (by omega) (by omega) hs (by omega) (by omega) ?_
 intro c1 i2 tl1 hi2 hii2 U1 hp2
 rw[← hi2]at hR
 (conv=>whnf);repeat' (first  |(refine kA ?_;conv=>whnf)|(refine Br.mk (fun hc=>?_) fun hc=>?_<;>first|exact hc.elim|conv=>whnf)|(refine kB ?_))
 refine Aou (j:=b-1) (by simpa using hl) (by omega) (by omega) hs (by omega) (by omega) U1 ?_
 intro c2 j2 z2 tl2 hj2 AfW ZF hz2 hq2
 rw[← hj2]at hR
 have hne:i2≤j2→i2≠j2:=by
  intro h e
  subst e
  have h1:=hp2 (by omega)
  have h2:=hq2 (by omega)
  simp only[Bool.not_eq_false']at h1 h2
  rw[h1]at h2;cases h2
 clear hp2 hq2
 generalize hE:swp d a pivot=E at*
 have hEl:E.size=len:=by rw[← hE];simpa using hl
 (conv=>whnf);repeat' (first|((with_reducible show Bq _ _ _);refine DT (a) ?_;conv=>whnf)|((with_reducible show Bq _ _ _);refine DT (i2) ?_;conv=>whnf)|((with_reducible show Bq _ _ _);refine DT (j2) ?_;conv=>whnf)|((with_reducible show eqK _ _);refine Hl Cj (a) ?_;conv=>whnf)|((with_reducible show eqK _ _);refine Hl Cj (i2) ?_;conv=>whnf)|((with_reducible show eqK _ _);refine Hl Cj (j2) ?_;conv=>whnf)|(refine kA ?_;conv=>whnf)|(refine Br.mk (fun hc=>?_) fun hc=>?_<;>first|exact hc.elim|conv=>whnf)|(refine kB ?_))
 ·rw[if_pos (by omega)]at hR
  subst hR
  rw[hz2]
  exact⟨_,rfl,rfl⟩
 ·rw[if_neg (by omega)]at hR
  refine Ai1 (d:=swp E i2 j2) (i:=i2+1) (j:=j2-1) (by simpa using hEl) hb hs (by omega) (by omega) (by omega) (by omega) ?_
  intro c3 x y tl3 hy hyb hsz
  generalize (partLoop Dy a (i2+1) (j2-1) (swp E i2 j2)).1=p1 at*
  generalize (partLoop Dy a (i2+1) (j2-1) (swp E i2 j2)).2=p2 at*
  subst hy
  (conv=>whnf);repeat' (first|((with_reducible show Bq _ _ _);refine DT (a) ?_;conv=>whnf)|((with_reducible show Bq _ _ _);refine DT (p1) ?_;conv=>whnf)|((with_reducible show eqK _ _);refine Hl Cj (a) ?_;conv=>whnf)|((with_reducible show eqK _ _);refine Hl Cj (p1) ?_;conv=>whnf)|(refine kA ?_;conv=>whnf)|(refine Br.mk (fun hc=>?_) fun hc=>?_<;>first|exact hc.elim|conv=>whnf)|(refine kB ?_))
  subst hR
  exact⟨_,rfl,rfl⟩
end AI
end Go.Proofs.YtceiccjppfapjaaGreatDoor
