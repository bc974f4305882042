/- Sorting in place (CmpFunc[graphdb/api.Entry]): sorted or nearly so; the partitions. -/
import Derived.Test.YtnbibfalljlmfaaGreatDoorMbd
import Derived.Test.YtnbibfalljlmfaaGreatDoorMbc
set_option linter.unusedVariables false
set_option maxRecDepth 4000
namespace Go.Proofs.YtnbibfalljlmfaaGreatDoor
namespace AI
open Go.Sort
theorem pqpscanL {ob0:Obj} {g c len:Nat} {nn cl:Bool} {d:Array GX} {a b i:Nat} {z:Int} {Q:Je→Env→Sto→Prop} (hl:d.size=len) (hb:b≤len) (hs:len<2^61) (hi:0<i) (hib:i≤b)
    (hQ:∀c' k tl,k=scanSorted ltT d b i→i≤k→k≤b→Q (.exit 2) ([(0,.own 1 g 0 len),(1,.int .i64 a),(2,.int .i64 b),(3,.fn 58 []),(9,.int .i64 k),(10,.int .i64 z)]++tl) ⟨[ob0,.arr g 8 nn cl (vs GX.av d.toList)],c'⟩):
    Run (Dx tab) (.loop As2 As3) [(0,.own 1 g 0 len),(1,.int .i64 a),(2,.int .i64 b),(3,.fn 58 []),(9,.int .i64 i),(10,.int .i64 z)] ⟨[ob0,.arr g 8 nn cl (vs GX.av d.toList)],c⟩ Q:=by
  refine DK (fun m env s=>∃(k c:Nat),m=b-k∧i≤k∧k≤b∧scanSorted ltT d b k=scanSorted ltT d b i∧env=[(0,.own 1 g 0 len),(1,.int .i64 a),(2,.int .i64 b),(3,.fn 58 []),(9,.int .i64 k),(10,.int .i64 z)]∧s=⟨[ob0,.arr g 8 nn cl (vs GX.av d.toList)],c⟩) ?_ _ _ _ ⟨i,c,rfl,by omega,hib,rfl,rfl,rfl⟩
  rintro _ _ _ ⟨k,c,rfl,hik,hkb,hk,rfl,rfl⟩
  refine⟨rfl,?_⟩
  (conv=>whnf);repeat' (first|((with_reducible show Iw _ _ _);refine nPK (k) ?_;conv=>whnf)|((with_reducible show Iw _ _ _);refine nPK (k-1) ?_;conv=>whnf)|(refine BM AUd ?_;rintro _ rfl;conv=>whnf)|(refine AWn (fun hc=>?_) (fun hc=>?_)<;>conv=>whnf)|((with_reducible first|apply kN|apply kW|apply kX|apply kG|apply kQ);(· exact sd);conv=>whnf)|(refine DW.mk ?_ ?_<;>intro hc<;>(try rw[List.length_nil]at hc)<;>first|(exfalso;omega)|(exact absurd rfl hc)|conv=>whnf)|(refine CB ?_ ?_<;>intro hc<;>conv=>whnf))
  all_goals first
    | (rw[Azx (by omega) hc]at hk
       exact again.mk ⟨_,by omega,k+1,_,rfl,by omega,by omega,hk,rfl,rfl⟩)
    | (rw[AkW (fun _=>hc)]at hk
       exact hQ _ _ _ hk hik hkb)
    | (rw[AkW (fun h=>absurd h (by omega))]at hk
       exact hQ _ _ _ hk hik hkb)
theorem pqpdownL {ob0:Obj} {g c len:Nat} {nn cl:Bool} {d:Array GX} {a b i j:Nat} {z y:Int} {Q:Je→Env→Sto→Prop} (hl:d.size=len) (hs:len<2^61) (hj:j<len) (hy:y=j)
    (hQ:∀c' tl,Q (.exit 4) ([(0,.own 1 g 0 len),(1,.int .i64 a),(2,.int .i64 b),(3,.fn 58 []),(9,.int .i64 i),(10,.int .i64 z)]++tl) ⟨[ob0,.arr g 8 nn cl (vs GX.av (shiftDown ltT j d).toList)],c'⟩):
    Run (Dx tab) (.loop l203_1_h l203_1_b) [(0,.own 1 g 0 len),(1,.int .i64 a),(2,.int .i64 b),(3,.fn 58 []),(9,.int .i64 i),(10,.int .i64 z),(11,.int .i64 y)] ⟨[ob0,.arr g 8 nn cl (vs GX.av d.toList)],c⟩ Q:=by
  refine DK (fun m env s=>∃(k c:Nat) (y:Int) (D:Array GX),m=k∧y=k∧k≤j∧D.size=len∧shiftDown ltT k D=shiftDown ltT j d∧env=[(0,.own 1 g 0 len),(1,.int .i64 a),(2,.int .i64 b),(3,.fn 58 []),(9,.int .i64 i),(10,.int .i64 z),(11,.int .i64 y)]∧s=⟨[ob0,.arr g 8 nn cl (vs GX.av D.toList)],c⟩) ?_ _ _ _ ⟨j,c,y,d,rfl,hy,by omega,hl,rfl,rfl,rfl⟩
  clear hy
  rintro k _ _ ⟨_,c,y,D,rfl,hy,hkj,hD,hk,rfl,rfl⟩
  refine⟨rfl,?_⟩
  cases k with
  | zero=>
    rw[← hk]at hQ
    (conv=>whnf);repeat' (first  |((with_reducible first|apply kN|apply kW|apply kX|apply kG|apply kQ);(· exact sd);conv=>whnf)|(refine DW.mk ?_ ?_<;>intro hc<;>(try rw[List.length_nil]at hc)<;>first|(exfalso;omega)|(exact absurd rfl hc)|conv=>whnf)|(refine CB ?_ ?_<;>intro hc<;>conv=>whnf))
    exact hQ _ _
  | succ k=>
    (conv=>whnf);repeat' (first|((with_reducible show Iw _ _ _);refine nPK (k+1) ?_;conv=>whnf)|((with_reducible show Iw _ _ _);refine nPK (k) ?_;conv=>whnf)|(refine BM AUd ?_;rintro _ rfl;conv=>whnf)|(refine AWn (fun hc=>?_) (fun hc=>?_)<;>conv=>whnf)|((with_reducible show eqK _ _);refine tPK AyF (k+1) ?_;conv=>whnf)|((with_reducible show eqK _ _);refine tPK AyF (k) ?_;conv=>whnf)|((with_reducible first|apply kN|apply kW|apply kX|apply kG|apply kQ);(· exact sd);conv=>whnf)|(refine DW.mk ?_ ?_<;>intro hc<;>(try rw[List.length_nil]at hc)<;>first|(exfalso;omega)|(exact absurd rfl hc)|conv=>whnf)|(refine CB ?_ ?_<;>intro hc<;>conv=>whnf))
    · rw[AKv hc]at hk
      exact again.mk ⟨_,by omega,k,_,y-1,swp D (k+1) k,rfl,by omega,by omega,by simpa using hD,hk,rfl,rfl⟩
    · rw[Azz hc]at hk
      rw[← hk]at hQ
      exact hQ _ _
theorem pqpupL {ob0:Obj} {g c len:Nat} {nn cl:Bool} {d:Array GX} {a b i j:Nat} {z:Int} {Q:Je→Env→Sto→Prop} (hl:d.size=len) (hs:len<2^61) (hj:0<j) (hb:b≤len)
    (hQ:∀c' tl,Q (.exit 6) ([(0,.own 1 g 0 len),(1,.int .i64 a),(2,.int .i64 b),(3,.fn 58 []),(9,.int .i64 i),(10,.int .i64 z)]++tl) ⟨[ob0,.arr g 8 nn cl (vs GX.av (shiftUp ltT b j d).toList)],c'⟩):
    Run (Dx tab) (.loop l203_2_h l203_2_b) [(0,.own 1 g 0 len),(1,.int .i64 a),(2,.int .i64 b),(3,.fn 58 []),(9,.int .i64 i),(10,.int .i64 z),(12,.int .i64 j)] ⟨[ob0,.arr g 8 nn cl (vs GX.av d.toList)],c⟩ Q:=by
  refine DK (fun m env s=>∃(k c:Nat) (D:Array GX),m=b-k∧j≤k∧D.size=len∧shiftUp ltT b k D=shiftUp ltT b j d∧env=[(0,.own 1 g 0 len),(1,.int .i64 a),(2,.int .i64 b),(3,.fn 58 []),(9,.int .i64 i),(10,.int .i64 z),(12,.int .i64 k)]∧s=⟨[ob0,.arr g 8 nn cl (vs GX.av D.toList)],c⟩) ?_ _ _ _ ⟨j,c,d,rfl,by omega,hl,rfl,rfl,rfl⟩
  rintro _ _ _ ⟨k,c,D,rfl,hjk,hD,hk,rfl,rfl⟩
  refine⟨rfl,?_⟩
  (conv=>whnf);repeat' (first|((with_reducible show Iw _ _ _);refine nPK (k) ?_;conv=>whnf)|((with_reducible show Iw _ _ _);refine nPK (k-1) ?_;conv=>whnf)|(refine BM AUd ?_;rintro _ rfl;conv=>whnf)|(refine AWn (fun hc=>?_) (fun hc=>?_)<;>conv=>whnf)|((with_reducible show eqK _ _);refine tPK AyF (k) ?_;conv=>whnf)|((with_reducible show eqK _ _);refine tPK AyF (k-1) ?_;conv=>whnf)|((with_reducible first|apply kN|apply kW|apply kX|apply kG|apply kQ);(· exact sd);conv=>whnf)|(refine DW.mk ?_ ?_<;>intro hc<;>(try rw[List.length_nil]at hc)<;>first|(exfalso;omega)|(exact absurd rfl hc)|conv=>whnf)|(refine CB ?_ ?_<;>intro hc<;>conv=>whnf))
  · rw[AKw (by omega) hc]at hk
    exact again.mk ⟨_,by omega,k+1,_,swp D k (k-1),rfl,by omega,by simpa using hD,hk,rfl,rfl⟩
  · rw[Aps (fun _=>hc)]at hk
    rw[← hk]at hQ
    exact hQ _ _
  · rw[Aps (fun h=>absurd h (by omega))]at hk
    rw[← hk]at hQ
    exact hQ _ _
def pqsR:Dw→Dw
  | .seq _ b=>b
  |c=>c
def pqsL:Dw→Dw
  | .seq a _=>a
  |c=>c
def pqblkB:Dw→Dw
  | .block _ a=>a
  |c=>c
set_option maxHeartbeats 2000000 in
theorem pqpart {ob0:Obj} {g c len:Nat} {nn cl:Bool} {d:Array GX} {a b:Nat} (hl:d.size=len) (hb:b≤len) (hab:a<b) (hs:len<2^61):
    H6 (Dx tab) 203 [.own 1 g 0 len,.int .i64 a,.int .i64 b,.fn 58 []] ⟨[ob0,.arr g 8 nn cl (vs GX.av d.toList)],c⟩ fun out s'=>∃c',out=.ok (.bool (partialInsertionSort ltT d a b).2)∧s'=⟨[ob0,.arr g 8 nn cl (vs GX.av (partialInsertionSort ltT d a b).1.toList)],c'⟩:=by
  refine FH rfl rfl ?_
  (conv=>whnf);repeat' (first  |((with_reducible first|apply kN|apply kW|apply kX|apply kG|apply kQ);(· exact sd);conv=>whnf)|(refine DW.mk ?_ ?_<;>intro hc<;>(try rw[List.length_nil]at hc)<;>first|(exfalso;omega)|(exact absurd rfl hc)|conv=>whnf)|(refine CB ?_ ?_<;>intro hc<;>conv=>whnf))
  refine DK (fun m env s=>∃(k i c:Nat) (z:Int) (D:Array GX),m=k∧z=5-k∧k≤5∧a<i∧i≤b∧D.size=len∧partialIns ltT a b k i D=partialInsertionSort ltT d a b∧env=[(0,.own 1 g 0 len),(1,.int .i64 a),(2,.int .i64 b),(3,.fn 58 []),(9,.int .i64 i),(10,.int .i64 z)]∧s=⟨[ob0,.arr g 8 nn cl (vs GX.av D.toList)],c⟩) ?_ _ _ _ ⟨5,a+1,c,0,d,rfl,by omega,by omega,by omega,by omega,hl,rfl,rfl,rfl⟩
  rintro k _ _ ⟨_,i,c,z,D,rfl,hz,hk5,hai,hib,hD,hk,rfl,rfl⟩
  refine⟨rfl,?_⟩
  cases k with
  | zero=>
    rw[← hk]
    (conv=>whnf);repeat' (first  |((with_reducible first|apply kN|apply kW|apply kX|apply kG|apply kQ);(· exact sd);conv=>whnf)|(refine DW.mk ?_ ?_<;>intro hc<;>(try rw[List.length_nil]at hc)<;>first|(exfalso;omega)|(exact absurd rfl hc)|conv=>whnf)|(refine CB ?_ ?_<;>intro hc<;>conv=>whnf))
    exact⟨_,rfl,rfl⟩
  | succ k=>
    rw[partialIns_succ]at hk
    (conv=>whnf);repeat' (first  |((with_reducible first|apply kN|apply kW|apply kX|apply kG|apply kQ);(· exact sd);conv=>whnf)|(refine DW.mk ?_ ?_<;>intro hc<;>(try rw[List.length_nil]at hc)<;>first|(exfalso;omega)|(exact absurd rfl hc)|conv=>whnf)|(refine CB ?_ ?_<;>intro hc<;>conv=>whnf))
    refine pqpscanL hD hb hs (by omega) hib ?_
    intro c1 j tl hj hij hjb
    rw[← hj]at hk
    have hend:∀(c:Nat) (E:Array GX) (z':Int),z'=5-(k:Int)→E.size=len→E=fixUp ltT b j (fixDown ltT a j (swp D j (j-1)))→¬j=b→¬b-a<50→again (fun m env s=>∃(k i c:Nat) (z:Int) (D:Array GX),m=k∧z=5-k∧k≤5∧a<i∧i≤b∧D.size=len∧partialIns ltT a b k i D=partialInsertionSort ltT d a b∧env=[(0,.own 1 g 0 len),(1,.int .i64 a),(2,.int .i64 b),(3,.fn 58 []),(9,.int .i64 i),(10,.int .i64 z)]∧s=⟨[ob0,.arr g 8 nn cl (vs GX.av D.toList)],c⟩) (k+1) [(0,.own 1 g 0 len),(1,.int .i64 a),(2,.int .i64 b),(3,.fn 58 []),(9,.int .i64 j),(10,.int .i64 z')] ⟨[ob0,.arr g 8 nn cl (vs GX.av E.toList)],c⟩:=by
      intro c E z' hz' hE hE2 h1 h2
      rw[if_neg h1,if_neg h2]at hk
      refine again.mk ⟨_,by omega,k,j,c,z',E,rfl,hz',by omega,by omega,by omega,hE,?_,rfl,rfl⟩
      rw[hE2];exact hk
    (conv=>whnf);repeat' (first|((with_reducible show Iw _ _ _);refine nPK (j) ?_;conv=>whnf)|((with_reducible show Iw _ _ _);refine nPK (j-1) ?_;conv=>whnf)|((with_reducible show eqK _ _);refine tPK AyF (j) ?_;conv=>whnf)|((with_reducible show eqK _ _);refine tPK AyF (j-1) ?_;conv=>whnf)|((with_reducible first|apply kN|apply kW|apply kX|apply kG|apply kQ);(· exact sd);conv=>whnf)|(refine DW.mk ?_ ?_<;>intro hc<;>(try rw[List.length_nil]at hc)<;>first|(exfalso;omega)|(exact absurd rfl hc)|conv=>whnf)|(refine CB ?_ ?_<;>intro hc<;>conv=>whnf))
    · rw[if_pos (by omega)]at hk
      rw[← hk]
      exact⟨_,rfl,rfl⟩
    · rw[if_neg (by omega),if_pos (by omega)]at hk
      rw[← hk]
      exact⟨_,rfl,rfl⟩
    · refine pqpdownL (d:=swp D j (j-1)) (j:=j-1) (by simpa using hD) hs (by omega) (by omega) ?_
      intro c2 tl2
      (conv=>whnf);repeat' (first  |((with_reducible first|apply kN|apply kW|apply kX|apply kG|apply kQ);(· exact sd);conv=>whnf)|(refine DW.mk ?_ ?_<;>intro hc<;>(try rw[List.length_nil]at hc)<;>first|(exfalso;omega)|(exact absurd rfl hc)|conv=>whnf)|(refine CB ?_ ?_<;>intro hc<;>conv=>whnf))
      · refine pqpupL (j:=j+1) (by simpa using hD) hs (by omega) hb ?_
        intro c3 tl3
        (conv=>whnf);repeat' (first  |((with_reducible first|apply kN|apply kW|apply kX|apply kG|apply kQ);(· exact sd);conv=>whnf)|(refine DW.mk ?_ ?_<;>intro hc<;>(try rw[List.length_nil]at hc)<;>first|(exfalso;omega)|(exact absurd rfl hc)|conv=>whnf)|(refine CB ?_ ?_<;>intro hc<;>conv=>whnf))
        refine hend _ _ _ (by omega) (by simpa using hD) ?_ (by omega) (by omega)
        unfold fixUp fixDown
        rw[if_pos (by omega),if_pos (by omega)]
      · refine hend _ _ _ (by omega) (by simpa using hD) ?_ (by omega) (by omega)
        unfold fixUp fixDown
        rw[if_neg (by omega),if_pos (by omega)]
    · refine pqpupL (d:=swp D j (j-1)) (j:=j+1) (by simpa using hD) hs (by omega) hb ?_
      intro c3 tl3
      (conv=>whnf);repeat' (first  |((with_reducible first|apply kN|apply kW|apply kX|apply kG|apply kQ);(· exact sd);conv=>whnf)|(refine DW.mk ?_ ?_<;>intro hc<;>(try rw[List.length_nil]at hc)<;>first|(exfalso;omega)|(exact absurd rfl hc)|conv=>whnf)|(refine CB ?_ ?_<;>intro hc<;>conv=>whnf))
      refine hend _ _ _ (by omega) (by simpa using hD) ?_ (by omega) (by omega)
      unfold fixUp fixDown
      rw[if_pos (by omega),if_neg (by omega)]
theorem pqquL {ob0:Obj} {g c len:Nat} {nn cl:Bool} {d:Array GX} {a i j:Nat} {z:Int} {Q:Je→Env→Sto→Prop} (hl:d.size=len) (ha:a<len) (hj:j<len) (hs:len<2^61) (hz:z=j) (hi:i≤j+1)
    (hQ:∀c' k tl,k=scanUp (fun x=>!ltT d[a]! x) d j i→i≤k→k≤j+1→(k≤j→(fun x=>!ltT d[a]! x) d[k]! =false)→Q (.exit 2) ([(0,.own 1 g 0 len),(1,.int .i64 a),(4,.fn 58 []),(11,.int .i64 k),(12,.int .i64 z)]++tl) ⟨[ob0,.arr g 8 nn cl (vs GX.av d.toList)],c'⟩):
    Run (Dx tab) (.loop As4 As5) [(0,.own 1 g 0 len),(1,.int .i64 a),(4,.fn 58 []),(11,.int .i64 i),(12,.int .i64 z)] ⟨[ob0,.arr g 8 nn cl (vs GX.av d.toList)],c⟩ Q:=by
  refine DK (fun m env s=>∃(k c:Nat),m=j+1-k∧i≤k∧k≤j+1∧scanUp (fun x=>!ltT d[a]! x) d j k=scanUp (fun x=>!ltT d[a]! x) d j i∧env=[(0,.own 1 g 0 len),(1,.int .i64 a),(4,.fn 58 []),(11,.int .i64 k),(12,.int .i64 z)]∧s=⟨[ob0,.arr g 8 nn cl (vs GX.av d.toList)],c⟩) ?_ _ _ _ ⟨i,c,rfl,by omega,hi,rfl,rfl,rfl⟩
  rintro _ _ _ ⟨k,c,rfl,hik,hkj,hk,rfl,rfl⟩
  refine⟨rfl,?_⟩
  (conv=>whnf);repeat' (first|((with_reducible show Iw _ _ _);refine nPK (k) ?_;conv=>whnf)|((with_reducible show Iw _ _ _);refine nPK (a) ?_;conv=>whnf)|(refine BM AUd ?_;rintro _ rfl;conv=>whnf)|(refine AWn (fun hc=>?_) (fun hc=>?_)<;>conv=>whnf)|((with_reducible first|apply kN|apply kW|apply kX|apply kG|apply kQ);(· exact sd);conv=>whnf)|(refine DW.mk ?_ ?_<;>intro hc<;>(try rw[List.length_nil]at hc)<;>first|(exfalso;omega)|(exact absurd rfl hc)|conv=>whnf)|(refine CB ?_ ?_<;>intro hc<;>conv=>whnf))
  all_goals first
    | (rw[Apt (by omega) (by first|exact hc|(show (!_)=_;rw[hc];rfl))]at hk
       exact again.mk ⟨_,by omega,k+1,_,rfl,by omega,by omega,hk,rfl,rfl⟩)
    | (rw[Ye (fun _=>(by first|exact hc|(show (!_)=_;rw[hc];rfl)))]at hk
       exact hQ _ _ _ hk hik hkj (fun _=>(by first|exact hc|(show (!_)=_;rw[hc];rfl))))
    | (rw[Ye (fun h=>absurd h (by omega))]at hk
       exact hQ _ _ _ hk hik hkj (fun h=>absurd h (by omega)))
theorem pqqdL {ob0:Obj} {g c len:Nat} {nn cl:Bool} {d:Array GX} {a i j:Nat} {z:Int} {Q:Je→Env→Sto→Prop} (hl:d.size=len) (ha:a<len) (hj:j<len) (hs:len<2^61) (hz:z=j) (hi:0<i) (hij:i≤j+1)
    (hQ:∀c' k z tl,k=scanDown (fun x=>ltT d[a]! x) d i j→k≤j→i≤k+1→z=(k:Int)→(i≤k→(fun x=>ltT d[a]! x) d[k]! =false)→Q (.exit 4) ([(0,.own 1 g 0 len),(1,.int .i64 a),(4,.fn 58 []),(11,.int .i64 i),(12,.int .i64 z)]++tl) ⟨[ob0,.arr g 8 nn cl (vs GX.av d.toList)],c'⟩):
    Run (Dx tab) (.loop l204_1_h l204_1_b) [(0,.own 1 g 0 len),(1,.int .i64 a),(4,.fn 58 []),(11,.int .i64 i),(12,.int .i64 z)] ⟨[ob0,.arr g 8 nn cl (vs GX.av d.toList)],c⟩ Q:=by
  refine DK (fun m env s=>∃(k c:Nat) (z:Int),m=k∧z=k∧k≤j∧i≤k+1∧scanDown (fun x=>ltT d[a]! x) d i k=scanDown (fun x=>ltT d[a]! x) d i j∧env=[(0,.own 1 g 0 len),(1,.int .i64 a),(4,.fn 58 []),(11,.int .i64 i),(12,.int .i64 z)]∧s=⟨[ob0,.arr g 8 nn cl (vs GX.av d.toList)],c⟩) ?_ _ _ _ ⟨j,c,z,rfl,hz,by omega,hij,rfl,rfl,rfl⟩
  clear hz
  rintro k _ _ ⟨_,c,z,rfl,hz,hkj,hik,hk,rfl,rfl⟩
  refine⟨rfl,?_⟩
  (conv=>whnf);repeat' (first|((with_reducible show Iw _ _ _);refine nPK (k) ?_;conv=>whnf)|((with_reducible show Iw _ _ _);refine nPK (a) ?_;conv=>whnf)|(refine BM AUd ?_;rintro _ rfl;conv=>whnf)|(refine AWn (fun hc=>?_) (fun hc=>?_)<;>conv=>whnf)|((with_reducible first|apply kN|apply kW|apply kX|apply kG|apply kQ);(· exact sd);conv=>whnf)|(refine DW.mk ?_ ?_<;>intro hc<;>(try rw[List.length_nil]at hc)<;>first|(exfalso;omega)|(exact absurd rfl hc)|conv=>whnf)|(refine CB ?_ ?_<;>intro hc<;>conv=>whnf))
  all_goals first
    | (obtain⟨k,rfl⟩:∃k',k=k'+1:=⟨k-1,by omega⟩
       rw[Apu (by omega) (by first|exact hc|(show (!_)=_;rw[hc];rfl))]at hk
       exact again.mk ⟨_,by omega,k,_,z-1,rfl,by omega,by omega,by omega,hk,rfl,rfl⟩)
    | (rw[Yf (fun _=>(by first|exact hc|(show (!_)=_;rw[hc];rfl)))]at hk
       exact hQ _ _ _ _ hk hkj hik hz (fun _=>(by first|exact hc|(show (!_)=_;rw[hc];rfl))))
    | (rw[Yf (fun h=>absurd h (by omega))]at hk
       exact hQ _ _ _ _ hk hkj hik hz (fun h=>absurd h (by omega)))
set_option maxHeartbeats 1000000 in
theorem pqqeq {ob0:Obj} {g c len:Nat} {nn cl:Bool} {d:Array GX} {a b pivot:Nat} (hl:d.size=len) (hb:b≤len) (hap:a≤pivot) (hpb:pivot<b) (hs:len<2^61):
    H6 (Dx tab) 204 [.own 1 g 0 len,.int .i64 a,.int .i64 b,.int .i64 pivot,.fn 58 []] ⟨[ob0,.arr g 8 nn cl (vs GX.av d.toList)],c⟩ fun out s'=>∃c',out=.ok (.int .i64 (partitionEqual ltT d a b pivot).1)∧s'=⟨[ob0,.arr g 8 nn cl (vs GX.av (partitionEqual ltT d a b pivot).2.toList)],c'⟩:=by
  refine FH rfl rfl ?_
  (conv=>whnf);repeat' (first|((with_reducible show Iw _ _ _);refine nPK (a) ?_;conv=>whnf)|((with_reducible show Iw _ _ _);refine nPK (pivot) ?_;conv=>whnf)|((with_reducible show eqK _ _);refine tPK AyF (a) ?_;conv=>whnf)|((with_reducible show eqK _ _);refine tPK AyF (pivot) ?_;conv=>whnf)|((with_reducible first|apply kN|apply kW|apply kX|apply kG|apply kQ);(· exact sd);conv=>whnf)|(refine DW.mk ?_ ?_<;>intro hc<;>(try rw[List.length_nil]at hc)<;>first|(exfalso;omega)|(exact absurd rfl hc)|conv=>whnf)|(refine CB ?_ ?_<;>intro hc<;>conv=>whnf))
  refine DK (fun m env s=>∃(i j c:Nat) (z:Int) (D:Array GX),m=j+1-i∧z=j∧a<i∧i≤j+1∧j<b∧D.size=len∧partEqLoop ltT a i j D=partitionEqual ltT d a b pivot∧env=[(0,.own 1 g 0 len),(1,.int .i64 a),(4,.fn 58 []),(11,.int .i64 i),(12,.int .i64 z)]∧s=⟨[ob0,.arr g 8 nn cl (vs GX.av D.toList)],c⟩) ?_ _ _ _ ⟨a+1,b-1,_,_,swp d a pivot,rfl,by omega,by omega,by omega,by omega,by simpa using hl,rfl,rfl,rfl⟩
  rintro _ _ _ ⟨i,j,c,z,D,rfl,hz,hai,hij,hjb,hD,hk,rfl,rfl⟩
  refine⟨rfl,?_⟩
  rw[partEqLoop_eq]at hk
  (conv=>whnf);repeat' (first  |((with_reducible first|apply kN|apply kW|apply kX|apply kG|apply kQ);(· exact sd);conv=>whnf)|(refine DW.mk ?_ ?_<;>intro hc<;>(try rw[List.length_nil]at hc)<;>first|(exfalso;omega)|(exact absurd rfl hc)|conv=>whnf)|(refine CB ?_ ?_<;>intro hc<;>conv=>whnf))
  refine pqquL hD (by omega) (by omega) hs hz hij ?_
  intro c1 i2 tl1 hi2 hii2 Apv hp2
  rw[← hi2]at hk
  (conv=>whnf);repeat' (first  |((with_reducible first|apply kN|apply kW|apply kX|apply kG|apply kQ);(· exact sd);conv=>whnf)|(refine DW.mk ?_ ?_<;>intro hc<;>(try rw[List.length_nil]at hc)<;>first|(exfalso;omega)|(exact absurd rfl hc)|conv=>whnf)|(refine CB ?_ ?_<;>intro hc<;>conv=>whnf))
  refine pqqdL hD (by omega) (by omega) hs hz (by omega) Apv ?_
  intro c2 j2 z2 tl2 hj2 AzB AwG hz2 hq2
  rw[← hj2]at hk
  have hne:i2≤j2→i2≠j2:=by
    intro h e
    subst e
    have h1:=hp2 (by omega)
    have h2:=hq2 (by omega)
    simp only[Bool.not_eq_false']at h1 h2
    rw[h1]at h2;cases h2
  (conv=>whnf);repeat' (first|((with_reducible show Iw _ _ _);refine nPK (i2) ?_;conv=>whnf)|((with_reducible show Iw _ _ _);refine nPK (j2) ?_;conv=>whnf)|((with_reducible show eqK _ _);refine tPK AyF (i2) ?_;conv=>whnf)|((with_reducible show eqK _ _);refine tPK AyF (j2) ?_;conv=>whnf)|((with_reducible first|apply kN|apply kW|apply kX|apply kG|apply kQ);(· exact sd);conv=>whnf)|(refine DW.mk ?_ ?_<;>intro hc<;>(try rw[List.length_nil]at hc)<;>first|(exfalso;omega)|(exact absurd rfl hc)|conv=>whnf)|(refine CB ?_ ?_<;>intro hc<;>conv=>whnf))
  · rw[if_pos (by omega)]at hk
    rw[← hk]
    exact⟨_,rfl,rfl⟩
  · rw[if_neg (by omega)]at hk
    exact again.mk ⟨_,by omega,i2+1,j2-1,_,z2-1,swp D i2 j2,rfl,by omega,by omega,by omega,by omega,by simpa using hD,hk,rfl,rfl⟩
theorem pqauL {ob0:Obj} {g c len:Nat} {nn cl:Bool} {d:Array GX} {a i j:Nat} {z:Int} {Q:Je→Env→Sto→Prop} (hl:d.size=len) (ha:a<len) (hj:j<len) (hs:len<2^61) (hz:z=j) (hi:i≤j+1)
    (hQ:∀c' k tl,k=scanUp (fun x=>ltT x d[a]!) d j i→i≤k→k≤j+1→(k≤j→(fun x=>ltT x d[a]!) d[k]! =false)→Q (.exit 0) ([(0,.own 1 g 0 len),(1,.int .i64 a),(4,.fn 58 []),(12,.int .i64 k),(13,.int .i64 z)]++tl) ⟨[ob0,.arr g 8 nn cl (vs GX.av d.toList)],c'⟩):
    Run (Dx tab) (.loop l205_0_h l205_0_b) [(0,.own 1 g 0 len),(1,.int .i64 a),(4,.fn 58 []),(12,.int .i64 i),(13,.int .i64 z)] ⟨[ob0,.arr g 8 nn cl (vs GX.av d.toList)],c⟩ Q:=by
  refine DK (fun m env s=>∃(k c:Nat),m=j+1-k∧i≤k∧k≤j+1∧scanUp (fun x=>ltT x d[a]!) d j k=scanUp (fun x=>ltT x d[a]!) d j i∧env=[(0,.own 1 g 0 len),(1,.int .i64 a),(4,.fn 58 []),(12,.int .i64 k),(13,.int .i64 z)]∧s=⟨[ob0,.arr g 8 nn cl (vs GX.av d.toList)],c⟩) ?_ _ _ _ ⟨i,c,rfl,by omega,hi,rfl,rfl,rfl⟩
  rintro _ _ _ ⟨k,c,rfl,hik,hkj,hk,rfl,rfl⟩
  refine⟨rfl,?_⟩
  (conv=>whnf);repeat' (first|((with_reducible show Iw _ _ _);refine nPK (k) ?_;conv=>whnf)|((with_reducible show Iw _ _ _);refine nPK (a) ?_;conv=>whnf)|(refine BM AUd ?_;rintro _ rfl;conv=>whnf)|(refine AWn (fun hc=>?_) (fun hc=>?_)<;>conv=>whnf)|((with_reducible first|apply kN|apply kW|apply kX|apply kG|apply kQ);(· exact sd);conv=>whnf)|(refine DW.mk ?_ ?_<;>intro hc<;>(try rw[List.length_nil]at hc)<;>first|(exfalso;omega)|(exact absurd rfl hc)|conv=>whnf)|(refine CB ?_ ?_<;>intro hc<;>conv=>whnf))
  all_goals first
    | (rw[Apt (by omega) (by first|exact hc|(show (!_)=_;rw[hc];rfl))]at hk
       exact again.mk ⟨_,by omega,k+1,_,rfl,by omega,by omega,hk,rfl,rfl⟩)
    | (rw[Ye (fun _=>(by first|exact hc|(show (!_)=_;rw[hc];rfl)))]at hk
       exact hQ _ _ _ hk hik hkj (fun _=>(by first|exact hc|(show (!_)=_;rw[hc];rfl))))
    | (rw[Ye (fun h=>absurd h (by omega))]at hk
       exact hQ _ _ _ hk hik hkj (fun h=>absurd h (by omega)))
theorem pqadL {ob0:Obj} {g c len:Nat} {nn cl:Bool} {d:Array GX} {a i j:Nat} {z:Int} {Q:Je→Env→Sto→Prop} (hl:d.size=len) (ha:a<len) (hj:j<len) (hs:len<2^61) (hz:z=j) (hi:0<i) (hij:i≤j+1)
    (hQ:∀c' k z tl,k=scanDown (fun x=>!ltT x d[a]!) d i j→k≤j→i≤k+1→z=(k:Int)→(i≤k→(fun x=>!ltT x d[a]!) d[k]! =false)→Q (.exit 2) ([(0,.own 1 g 0 len),(1,.int .i64 a),(4,.fn 58 []),(12,.int .i64 i),(13,.int .i64 z)]++tl) ⟨[ob0,.arr g 8 nn cl (vs GX.av d.toList)],c'⟩):
    Run (Dx tab) (.loop l205_1_h l205_1_b) [(0,.own 1 g 0 len),(1,.int .i64 a),(4,.fn 58 []),(12,.int .i64 i),(13,.int .i64 z)] ⟨[ob0,.arr g 8 nn cl (vs GX.av d.toList)],c⟩ Q:=by
  refine DK (fun m env s=>∃(k c:Nat) (z:Int),m=k∧z=k∧k≤j∧i≤k+1∧scanDown (fun x=>!ltT x d[a]!) d i k=scanDown (fun x=>!ltT x d[a]!) d i j∧env=[(0,.own 1 g 0 len),(1,.int .i64 a),(4,.fn 58 []),(12,.int .i64 i),(13,.int .i64 z)]∧s=⟨[ob0,.arr g 8 nn cl (vs GX.av d.toList)],c⟩) ?_ _ _ _ ⟨j,c,z,rfl,hz,by omega,hij,rfl,rfl,rfl⟩
  clear hz
  rintro k _ _ ⟨_,c,z,rfl,hz,hkj,hik,hk,rfl,rfl⟩
  refine⟨rfl,?_⟩
  (conv=>whnf);repeat' (first|((with_reducible show Iw _ _ _);refine nPK (k) ?_;conv=>whnf)|((with_reducible show Iw _ _ _);refine nPK (a) ?_;conv=>whnf)|(refine BM AUd ?_;rintro _ rfl;conv=>whnf)|(refine AWn (fun hc=>?_) (fun hc=>?_)<;>conv=>whnf)|((with_reducible first|apply kN|apply kW|apply kX|apply kG|apply kQ);(· exact sd);conv=>whnf)|(refine DW.mk ?_ ?_<;>intro hc<;>(try rw[List.length_nil]at hc)<;>first|(exfalso;omega)|(exact absurd rfl hc)|conv=>whnf)|(refine CB ?_ ?_<;>intro hc<;>conv=>whnf))
  all_goals first
    | (obtain⟨k,rfl⟩:∃k',k=k'+1:=⟨k-1,by omega⟩
       rw[Apu (by omega) (by first|exact hc|(show (!_)=_;rw[hc];rfl))]at hk
       exact again.mk ⟨_,by omega,k,_,z-1,rfl,by omega,by omega,by omega,hk,rfl,rfl⟩)
    | (rw[Yf (fun _=>(by first|exact hc|(show (!_)=_;rw[hc];rfl)))]at hk
       exact hQ _ _ _ _ hk hkj hik hz (fun _=>(by first|exact hc|(show (!_)=_;rw[hc];rfl))))
    | (rw[Yf (fun h=>absurd h (by omega))]at hk
       exact hQ _ _ _ _ hk hkj hik hz (fun h=>absurd h (by omega)))
theorem pqbuL {ob0:Obj} {g c len:Nat} {nn cl:Bool} {d:Array GX} {a i j:Nat} {z:Int} {Q:Je→Env→Sto→Prop} (hl:d.size=len) (ha:a<len) (hj:j<len) (hs:len<2^61) (hz:z=j) (hi:i≤j+1)
    (hQ:∀c' k tl,k=scanUp (fun x=>ltT x d[a]!) d j i→i≤k→k≤j+1→(k≤j→(fun x=>ltT x d[a]!) d[k]! =false)→Q (.exit 6) ([(0,.own 1 g 0 len),(1,.int .i64 a),(4,.fn 58 []),(12,.int .i64 k),(13,.int .i64 z)]++tl) ⟨[ob0,.arr g 8 nn cl (vs GX.av d.toList)],c'⟩):
    Run (Dx tab) (.loop l205_2_h l205_2_b) [(0,.own 1 g 0 len),(1,.int .i64 a),(4,.fn 58 []),(12,.int .i64 i),(13,.int .i64 z)] ⟨[ob0,.arr g 8 nn cl (vs GX.av d.toList)],c⟩ Q:=by
  refine DK (fun m env s=>∃(k c:Nat),m=j+1-k∧i≤k∧k≤j+1∧scanUp (fun x=>ltT x d[a]!) d j k=scanUp (fun x=>ltT x d[a]!) d j i∧env=[(0,.own 1 g 0 len),(1,.int .i64 a),(4,.fn 58 []),(12,.int .i64 k),(13,.int .i64 z)]∧s=⟨[ob0,.arr g 8 nn cl (vs GX.av d.toList)],c⟩) ?_ _ _ _ ⟨i,c,rfl,by omega,hi,rfl,rfl,rfl⟩
  rintro _ _ _ ⟨k,c,rfl,hik,hkj,hk,rfl,rfl⟩
  refine⟨rfl,?_⟩
  (conv=>whnf);repeat' (first|((with_reducible show Iw _ _ _);refine nPK (k) ?_;conv=>whnf)|((with_reducible show Iw _ _ _);refine nPK (a) ?_;conv=>whnf)|(refine BM AUd ?_;rintro _ rfl;conv=>whnf)|(refine AWn (fun hc=>?_) (fun hc=>?_)<;>conv=>whnf)|((with_reducible first|apply kN|apply kW|apply kX|apply kG|apply kQ);(· exact sd);conv=>whnf)|(refine DW.mk ?_ ?_<;>intro hc<;>(try rw[List.length_nil]at hc)<;>first|(exfalso;omega)|(exact absurd rfl hc)|conv=>whnf)|(refine CB ?_ ?_<;>intro hc<;>conv=>whnf))
  all_goals first
    | (rw[Apt (by omega) (by first|exact hc|(show (!_)=_;rw[hc];rfl))]at hk
       exact again.mk ⟨_,by omega,k+1,_,rfl,by omega,by omega,hk,rfl,rfl⟩)
    | (rw[Ye (fun _=>(by first|exact hc|(show (!_)=_;rw[hc];rfl)))]at hk
       exact hQ _ _ _ hk hik hkj (fun _=>(by first|exact hc|(show (!_)=_;rw[hc];rfl))))
    | (rw[Ye (fun h=>absurd h (by omega))]at hk
       exact hQ _ _ _ hk hik hkj (fun h=>absurd h (by omega)))
theorem pqbdL {ob0:Obj} {g c len:Nat} {nn cl:Bool} {d:Array GX} {a i j:Nat} {z:Int} {Q:Je→Env→Sto→Prop} (hl:d.size=len) (ha:a<len) (hj:j<len) (hs:len<2^61) (hz:z=j) (hi:0<i) (hij:i≤j+1)
    (hQ:∀c' k z tl,k=scanDown (fun x=>!ltT x d[a]!) d i j→k≤j→i≤k+1→z=(k:Int)→(i≤k→(fun x=>!ltT x d[a]!) d[k]! =false)→Q (.exit 8) ([(0,.own 1 g 0 len),(1,.int .i64 a),(4,.fn 58 []),(12,.int .i64 i),(13,.int .i64 z)]++tl) ⟨[ob0,.arr g 8 nn cl (vs GX.av d.toList)],c'⟩):
    Run (Dx tab) (.loop l205_3_h l205_3_b) [(0,.own 1 g 0 len),(1,.int .i64 a),(4,.fn 58 []),(12,.int .i64 i),(13,.int .i64 z)] ⟨[ob0,.arr g 8 nn cl (vs GX.av d.toList)],c⟩ Q:=by
  refine DK (fun m env s=>∃(k c:Nat) (z:Int),m=k∧z=k∧k≤j∧i≤k+1∧scanDown (fun x=>!ltT x d[a]!) d i k=scanDown (fun x=>!ltT x d[a]!) d i j∧env=[(0,.own 1 g 0 len),(1,.int .i64 a),(4,.fn 58 []),(12,.int .i64 i),(13,.int .i64 z)]∧s=⟨[ob0,.arr g 8 nn cl (vs GX.av d.toList)],c⟩) ?_ _ _ _ ⟨j,c,z,rfl,hz,by omega,hij,rfl,rfl,rfl⟩
  clear hz
  rintro k _ _ ⟨_,c,z,rfl,hz,hkj,hik,hk,rfl,rfl⟩
  refine⟨rfl,?_⟩
  (conv=>whnf);repeat' (first|((with_reducible show Iw _ _ _);refine nPK (k) ?_;conv=>whnf)|((with_reducible show Iw _ _ _);refine nPK (a) ?_;conv=>whnf)|(refine BM AUd ?_;rintro _ rfl;conv=>whnf)|(refine AWn (fun hc=>?_) (fun hc=>?_)<;>conv=>whnf)|((with_reducible first|apply kN|apply kW|apply kX|apply kG|apply kQ);(· exact sd);conv=>whnf)|(refine DW.mk ?_ ?_<;>intro hc<;>(try rw[List.length_nil]at hc)<;>first|(exfalso;omega)|(exact absurd rfl hc)|conv=>whnf)|(refine CB ?_ ?_<;>intro hc<;>conv=>whnf))
  all_goals first
    | (obtain⟨k,rfl⟩:∃k',k=k'+1:=⟨k-1,by omega⟩
       rw[Apu (by omega) (by first|exact hc|(show (!_)=_;rw[hc];rfl))]at hk
       exact again.mk ⟨_,by omega,k,_,z-1,rfl,by omega,by omega,by omega,hk,rfl,rfl⟩)
    | (rw[Yf (fun _=>(by first|exact hc|(show (!_)=_;rw[hc];rfl)))]at hk
       exact hQ _ _ _ _ hk hkj hik hz (fun _=>(by first|exact hc|(show (!_)=_;rw[hc];rfl))))
    | (rw[Yf (fun h=>absurd h (by omega))]at hk
       exact hQ _ _ _ _ hk hkj hik hz (fun h=>absurd h (by omega)))
set_option maxHeartbeats 1000000 in
theorem pqpartL {ob0:Obj} {g c len:Nat} {nn cl:Bool} {d:Array GX} {a b i j:Nat} {z:Int} {Q:Je→Env→Sto→Prop} (hl:d.size=len) (hb:b≤len) (hs:len<2^61) (hz:z=j) (hai:a<i) (hij:i≤j+1) (hjb:j<b)
    (hQ:∀c' x y tl,y=((partLoop ltT a i j d).1:Int)→(partLoop ltT a i j d).1<b→(partLoop ltT a i j d).2.size=len→Q (.exit 4) ([(0,.own 1 g 0 len),(1,.int .i64 a),(4,.fn 58 []),(12,x),(13,.int .i64 y)]++tl) ⟨[ob0,.arr g 8 nn cl (vs GX.av (partLoop ltT a i j d).2.toList)],c'⟩):
    Run (Dx tab) (.loop l205_4_h l205_4_b) [(0,.own 1 g 0 len),(1,.int .i64 a),(4,.fn 58 []),(12,.int .i64 i),(13,.int .i64 z)] ⟨[ob0,.arr g 8 nn cl (vs GX.av d.toList)],c⟩ Q:=by
  refine DK (fun m env s=>∃(i' j' c:Nat) (z:Int) (D:Array GX),m=j'+1-i'∧z=j'∧a<i'∧i'≤j'+1∧j'<b∧D.size=len∧partLoop ltT a i' j' D=partLoop ltT a i j d∧env=[(0,.own 1 g 0 len),(1,.int .i64 a),(4,.fn 58 []),(12,.int .i64 i'),(13,.int .i64 z)]∧s=⟨[ob0,.arr g 8 nn cl (vs GX.av D.toList)],c⟩) ?_ _ _ _ ⟨i,j,c,z,d,rfl,hz,hai,hij,hjb,hl,rfl,rfl,rfl⟩
  clear hz
  rintro _ _ _ ⟨i',j',c,z,D,rfl,hz,hai,hij,hjb,hD,hk,rfl,rfl⟩
  refine⟨rfl,?_⟩
  rw[partLoop_eq]at hk
  (conv=>whnf);repeat' (first  |((with_reducible first|apply kN|apply kW|apply kX|apply kG|apply kQ);(· exact sd);conv=>whnf)|(refine DW.mk ?_ ?_<;>intro hc<;>(try rw[List.length_nil]at hc)<;>first|(exfalso;omega)|(exact absurd rfl hc)|conv=>whnf)|(refine CB ?_ ?_<;>intro hc<;>conv=>whnf))
  refine pqbuL hD (by omega) (by omega) hs hz hij ?_
  intro c1 i2 tl1 hi2 hii2 Apv hp2
  rw[← hi2]at hk
  (conv=>whnf);repeat' (first  |((with_reducible first|apply kN|apply kW|apply kX|apply kG|apply kQ);(· exact sd);conv=>whnf)|(refine DW.mk ?_ ?_<;>intro hc<;>(try rw[List.length_nil]at hc)<;>first|(exfalso;omega)|(exact absurd rfl hc)|conv=>whnf)|(refine CB ?_ ?_<;>intro hc<;>conv=>whnf))
  refine pqbdL hD (by omega) (by omega) hs hz (by omega) Apv ?_
  intro c2 j2 z2 tl2 hj2 AzB AwG hz2 hq2
  rw[← hj2]at hk
  have hne:i2≤j2→i2≠j2:=by
    intro h e
    subst e
    have h1:=hp2 (by omega)
    have h2:=hq2 (by omega)
    simp only[Bool.not_eq_false']at h1 h2
    rw[h1]at h2;cases h2
  (conv=>whnf);repeat' (first|((with_reducible show Iw _ _ _);refine nPK (i2) ?_;conv=>whnf)|((with_reducible show Iw _ _ _);refine nPK (j2) ?_;conv=>whnf)|((with_reducible show eqK _ _);refine tPK AyF (i2) ?_;conv=>whnf)|((with_reducible show eqK _ _);refine tPK AyF (j2) ?_;conv=>whnf)|((with_reducible first|apply kN|apply kW|apply kX|apply kG|apply kQ);(· exact sd);conv=>whnf)|(refine DW.mk ?_ ?_<;>intro hc<;>(try rw[List.length_nil]at hc)<;>first|(exfalso;omega)|(exact absurd rfl hc)|conv=>whnf)|(refine CB ?_ ?_<;>intro hc<;>conv=>whnf))
  · rw[if_pos (by omega)]at hk
    rw[← hk]at hQ
    exact hQ _ _ _ _ hz2 (by show j2<b;omega) hD
  · rw[if_neg (by omega)]at hk
    exact again.mk ⟨_,by omega,i2+1,j2-1,_,z2-1,swp D i2 j2,rfl,by omega,by omega,by omega,by omega,by simpa using hD,hk,rfl,rfl⟩
set_option maxHeartbeats 2000000 in
theorem pqpar {ob0:Obj} {g c len:Nat} {nn cl:Bool} {d:Array GX} {a b pivot:Nat} (hl:d.size=len) (hb:b≤len) (hap:a≤pivot) (hpb:pivot<b) (hs:len<2^61):
    H6 (Dx tab) 205 [.own 1 g 0 len,.int .i64 a,.int .i64 b,.int .i64 pivot,.fn 58 []] ⟨[ob0,.arr g 8 nn cl (vs GX.av d.toList)],c⟩ fun out s'=>∃c',out=.ok (.tup [.int .i64 (partition ltT d a b pivot).1,.bool (partition ltT d a b pivot).2.1])∧s'=⟨[ob0,.arr g 8 nn cl (vs GX.av (partition ltT d a b pivot).2.2.toList)],c'⟩:=by
  generalize hR:partition ltT d a b pivot=R
  unfold partition at hR
  dsimp only at hR
  refine FH rfl rfl ?_
  (conv=>whnf);repeat' (first|((with_reducible show Iw _ _ _);refine nPK (a) ?_;conv=>whnf)|((with_reducible show Iw _ _ _);refine nPK (pivot) ?_;conv=>whnf)|((with_reducible show eqK _ _);refine tPK AyF (a) ?_;conv=>whnf)|((with_reducible show eqK _ _);refine tPK AyF (pivot) ?_;conv=>whnf)|((with_reducible first|apply kN|apply kW|apply kX|apply kG|apply kQ);(· exact sd);conv=>whnf)|(refine DW.mk ?_ ?_<;>intro hc<;>(try rw[List.length_nil]at hc)<;>first|(exfalso;omega)|(exact absurd rfl hc)|conv=>whnf)|(refine CB ?_ ?_<;>intro hc<;>conv=>whnf))
  refine pqauL (d:=swp d a pivot) (i:=a+1) (j:=b-1) (by simpa using hl) (by omega) (by omega) hs (by omega) (by omega) ?_
  intro c1 i2 tl1 hi2 hii2 Apv hp2
  rw[← hi2]at hR
  (conv=>whnf);repeat' (first  |((with_reducible first|apply kN|apply kW|apply kX|apply kG|apply kQ);(· exact sd);conv=>whnf)|(refine DW.mk ?_ ?_<;>intro hc<;>(try rw[List.length_nil]at hc)<;>first|(exfalso;omega)|(exact absurd rfl hc)|conv=>whnf)|(refine CB ?_ ?_<;>intro hc<;>conv=>whnf))
  refine pqadL (j:=b-1) (by simpa using hl) (by omega) (by omega) hs (by omega) (by omega) Apv ?_
  intro c2 j2 z2 tl2 hj2 AzB AwG hz2 hq2
  rw[← hj2]at hR
  have hne:i2≤j2→i2≠j2:=by
    intro h e
    subst e
    have h1:=hp2 (by omega)
    have h2:=hq2 (by omega)
    simp only[Bool.not_eq_false']at h1 h2
    rw[h1]at h2;cases h2
  clear hp2 hq2
  generalize hE:swp d a pivot=E at*
  have hEl:E.size=len:=by rw[← hE];simpa using hl
  (conv=>whnf);repeat' (first|((with_reducible show Iw _ _ _);refine nPK (a) ?_;conv=>whnf)|((with_reducible show Iw _ _ _);refine nPK (i2) ?_;conv=>whnf)|((with_reducible show Iw _ _ _);refine nPK (j2) ?_;conv=>whnf)|((with_reducible show eqK _ _);refine tPK AyF (a) ?_;conv=>whnf)|((with_reducible show eqK _ _);refine tPK AyF (i2) ?_;conv=>whnf)|((with_reducible show eqK _ _);refine tPK AyF (j2) ?_;conv=>whnf)|((with_reducible first|apply kN|apply kW|apply kX|apply kG|apply kQ);(· exact sd);conv=>whnf)|(refine DW.mk ?_ ?_<;>intro hc<;>(try rw[List.length_nil]at hc)<;>first|(exfalso;omega)|(exact absurd rfl hc)|conv=>whnf)|(refine CB ?_ ?_<;>intro hc<;>conv=>whnf))
  · rw[if_pos (by omega)]at hR
    subst hR
    rw[hz2]
    exact⟨_,rfl,rfl⟩
  · rw[if_neg (by omega)]at hR
    refine pqpartL (d:=swp E i2 j2) (i:=i2+1) (j:=j2-1) (by simpa using hEl) hb hs (by omega) (by omega) (by omega) (by omega) ?_
    intro c3 x y tl3 hy hyb hsz
    generalize (partLoop ltT a (i2+1) (j2-1) (swp E i2 j2)).1=p1 at*
    generalize (partLoop ltT a (i2+1) (j2-1) (swp E i2 j2)).2=p2 at*
    subst hy
    (conv=>whnf);repeat' (first|((with_reducible show Iw _ _ _);refine nPK (a) ?_;conv=>whnf)|((with_reducible show Iw _ _ _);refine nPK (p1) ?_;conv=>whnf)|((with_reducible show eqK _ _);refine tPK AyF (a) ?_;conv=>whnf)|((with_reducible show eqK _ _);refine tPK AyF (p1) ?_;conv=>whnf)|((with_reducible first|apply kN|apply kW|apply kX|apply kG|apply kQ);(· exact sd);conv=>whnf)|(refine DW.mk ?_ ?_<;>intro hc<;>(try rw[List.length_nil]at hc)<;>first|(exfalso;omega)|(exact absurd rfl hc)|conv=>whnf)|(refine CB ?_ ?_<;>intro hc<;>conv=>whnf))
    subst hR
    exact⟨_,rfl,rfl⟩
end AI
end Go.Proofs.YtnbibfalljlmfaaGreatDoor
