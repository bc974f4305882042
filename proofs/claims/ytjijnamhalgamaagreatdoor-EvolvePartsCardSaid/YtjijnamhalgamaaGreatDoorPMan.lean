/- A rule turned by a migration, proved. Sorting in place (CmpFunc[graphdb/api.Rule]): insertion, heaps. Sorting in place (CmpFunc[graphdb/api.Rule]): the pivot, reversing, breaking patterns. -/
import Derived.Test.YtjijnamhalgamaaGreatDoorPMam
import Derived.Test.YtjijnamhalgamaaGreatDoorPMae
import Derived.Test.YtjijnamhalgamaaGreatDoorPMad
set_option linter.unusedVariables false
set_option maxRecDepth 4000
namespace Go.Proofs.YtjijnamhalgamaaGreatDoor
namespace AI
def Aon (r:GR) (b:Bool):AV:=.BF [r.av,.bool b]
theorem Ph {r:GR} {m:GM} (h:m.k≠4):decide (¬ JR r m)=true:=decide_eq_true fun g=>h g.1
set_option maxHeartbeats 1000000 in
theorem Aml {r:GR} {m:GM}:Ae (Ad tab) 54 [r.av,m.av] (· =Aon (Es r m) (decide (¬ JR r m))):=by
 have ho:=AcX (r:=r)
 by_cases k1:m.k=1
 ·rw[Ph (by omega)]
  by_cases hn:Jt r.k
  ·have e:Es r m={r with name:=Dn r.name m}:=by unfold Es;rw[if_pos k1,if_pos hn]
   rw[e]
   rw[decide_eq_true hn]at ho
   refine Ac rfl rfl ?_
   (conv=>whnf);repeat' (first|(refine Aa ho ?_;rintro _ rfl;conv=>whnf)|(refine AlK ?_;intro YN c';conv=>whnf)|(refine kA ?_;conv=>whnf)|(refine Br.mk (fun hc=>?_) fun hc=>?_<;>first|exact hc.elim|conv=>whnf)|(refine kB ?_))
   all_goals first|rfl|exact absurd (show r.k=6 by assumption) (by unfold Jt at hn;omega)
  ·rw[decide_eq_false hn]at ho
   by_cases h6:r.k=6
   ·have e:Es r m={r with fr:=Dn r.fr m,to:=Dn r.to m}:=by unfold Es;rw[if_pos k1,if_neg hn,if_pos h6]
    rw[e]
    refine Ac rfl rfl ?_
    (conv=>whnf);repeat' (first|(refine Aa ho ?_;rintro _ rfl;conv=>whnf)|(refine An0 (r:=r) ?_;intro YN c';conv=>whnf)|(refine An1 (r:={r with fr:=Dn r.fr m}) ?_;intro YN c';conv=>whnf)|(refine kA ?_;conv=>whnf)|(refine Br.mk (fun hc=>?_) fun hc=>?_<;>first|exact hc.elim|conv=>whnf)|(refine kB ?_))
    all_goals first|rfl|(exfalso;omega)
   ·have e:Es r m=r:=by unfold Es;rw[if_pos k1,if_neg hn,if_neg h6]
    rw[e]
    refine Ac rfl rfl ?_
    (conv=>whnf);repeat' (first|(refine Aa ho ?_;rintro _ rfl;conv=>whnf)|(refine kA ?_;conv=>whnf)|(refine Br.mk (fun hc=>?_) fun hc=>?_<;>first|exact hc.elim|conv=>whnf)|(refine kB ?_))
    all_goals first|rfl|(exfalso;omega)
 by_cases k2:m.k=2
 ·rw[Ph (by omega)]
  by_cases hn:Jt r.k
  ·have e:Es r m=r:=by unfold Es;rw[if_neg k1,if_pos k2,if_pos hn]
   rw[e]
   rw[decide_eq_true hn]at ho
   refine Ac rfl rfl ?_
   (conv=>whnf);repeat' (first|(refine Aa ho ?_;rintro _ rfl;conv=>whnf)|(refine kA ?_;conv=>whnf)|(refine Br.mk (fun hc=>?_) fun hc=>?_<;>first|exact hc.elim|conv=>whnf)|(refine kB ?_))
   all_goals first|rfl|(exfalso;omega)
  ·have e:Es r m={r with name:=Dn r.name m}:=by unfold Es;rw[if_neg k1,if_pos k2,if_neg hn]
   rw[e]
   rw[decide_eq_false hn]at ho
   refine Ac rfl rfl ?_
   (conv=>whnf);repeat' (first|(refine Aa ho ?_;rintro _ rfl;conv=>whnf)|(refine AlK ?_;intro YN c';conv=>whnf)|(refine kA ?_;conv=>whnf)|(refine Br.mk (fun hc=>?_) fun hc=>?_<;>first|exact hc.elim|conv=>whnf)|(refine kB ?_))
   all_goals first|rfl|(exfalso;omega)
 by_cases k3:m.k=3
 ·rw[Ph (by omega)]
  by_cases hn:Jt r.k
  ·rw[decide_eq_true hn]at ho
   by_cases hl:r.name=m.label
   ·have e:Es r m={r with key:=Dn r.key m}:=by unfold Es;rw[if_neg k1,if_neg k2,if_pos k3,if_pos ⟨hn,hl⟩]
    rw[e]
    refine Ac rfl rfl ?_
    (conv=>whnf);repeat' (first|(refine Aa ho ?_;rintro _ rfl;conv=>whnf)|(refine AnZ ?_;intro YN c';conv=>whnf)|(refine kA ?_;conv=>whnf)|(refine Br.mk (fun hc=>?_) fun hc=>?_<;>first|exact hc.elim|conv=>whnf)|(refine kB ?_))
    all_goals first|rfl|(exfalso;omega)|exact absurd hl (by assumption)
   ·have e:Es r m=r:=by unfold Es;rw[if_neg k1,if_neg k2,if_pos k3,if_neg fun h=>hl h.2]
    rw[e]
    refine Ac rfl rfl ?_
    (conv=>whnf);repeat' (first|(refine Aa ho ?_;rintro _ rfl;conv=>whnf)|(refine kA ?_;conv=>whnf)|(refine Br.mk (fun hc=>?_) fun hc=>?_<;>first|exact hc.elim|conv=>whnf)|(refine kB ?_))
    all_goals first|rfl|(exfalso;omega)|exact absurd (by assumption) hl
  ·have e:Es r m=r:=by unfold Es;rw[if_neg k1,if_neg k2,if_pos k3,if_neg fun h=>hn h.1]
   rw[e]
   rw[decide_eq_false hn]at ho
   refine Ac rfl rfl ?_
   (conv=>whnf);repeat' (first|(refine Aa ho ?_;rintro _ rfl;conv=>whnf)|(refine kA ?_;conv=>whnf)|(refine Br.mk (fun hc=>?_) fun hc=>?_<;>first|exact hc.elim|conv=>whnf)|(refine kB ?_))
   all_goals first|rfl|(exfalso;omega)
 have e:Es r m=r:=by unfold Es;rw[if_neg k1,if_neg k2,if_neg k3]
 rw[e]
 by_cases k4:m.k=4
 ·by_cases hn:Jt r.k
  ·rw[decide_eq_true hn]at ho
   by_cases hl:r.name=m.label
   ·by_cases hf:r.key=m.fr
    ·rw[show decide (¬ JR r m)=false from decide_eq_false fun h=>h ⟨k4,hn,hl,hf⟩]
     refine Ac rfl rfl ?_
     (conv=>whnf);repeat' (first|(refine Aa ho ?_;rintro _ rfl;conv=>whnf)|(refine kA ?_;conv=>whnf)|(refine Br.mk (fun hc=>?_) fun hc=>?_<;>first|exact hc.elim|conv=>whnf)|(refine kB ?_))
     all_goals first|rfl|(exfalso;omega)|(exfalso;simp_all;done)
    ·rw[show decide (¬ JR r m)=true from decide_eq_true fun h=>hf h.2.2.2]
     refine Ac rfl rfl ?_
     (conv=>whnf);repeat' (first|(refine Aa ho ?_;rintro _ rfl;conv=>whnf)|(refine kA ?_;conv=>whnf)|(refine Br.mk (fun hc=>?_) fun hc=>?_<;>first|exact hc.elim|conv=>whnf)|(refine kB ?_))
     all_goals first|rfl|(exfalso;omega)|(exfalso;simp_all;done)
   ·rw[show decide (¬ JR r m)=true from decide_eq_true fun h=>hl h.2.2.1]
    refine Ac rfl rfl ?_
    (conv=>whnf);repeat' (first|(refine Aa ho ?_;rintro _ rfl;conv=>whnf)|(refine kA ?_;conv=>whnf)|(refine Br.mk (fun hc=>?_) fun hc=>?_<;>first|exact hc.elim|conv=>whnf)|(refine kB ?_))
    all_goals first|rfl|(exfalso;omega)|(exfalso;simp_all;done)
  ·rw[decide_eq_false hn]at ho
   rw[show decide (¬ JR r m)=true from decide_eq_true fun h=>hn h.2.1]
   refine Ac rfl rfl ?_
   (conv=>whnf);repeat' (first|(refine Aa ho ?_;rintro _ rfl;conv=>whnf)|(refine kA ?_;conv=>whnf)|(refine Br.mk (fun hc=>?_) fun hc=>?_<;>first|exact hc.elim|conv=>whnf)|(refine kB ?_))
   all_goals first|rfl|(exfalso;omega)|(exfalso;simp_all;done)
 ·rw[Ph k4]
  refine Ac rfl rfl ?_
  (conv=>whnf);repeat' (first|(refine Aa ho ?_;rintro _ rfl;conv=>whnf)|(refine kA ?_;conv=>whnf)|(refine Br.mk (fun hc=>?_) fun hc=>?_<;>first|exact hc.elim|conv=>whnf)|(refine kB ?_))
  all_goals first|rfl|(exfalso;omega)
section
open Go.Sort
set_option maxHeartbeats 1000000 in
theorem Am4 {Bv:Obj} {g c len:Nat} {nn cl:Bool} {d:Array GR} {a b:Nat} (hl:d.size=len) (hb:b≤len) (hs:len<2^61) (ha:a≤len):
 Aq (Ad tab) 180 [.own 1 g 0 len,.int .i64 a,.int .i64 b,.fn 56 []] ⟨[Bv,.arr g 6 nn cl (vs GR.av d.toList)],c⟩ fun out s'=>∃c',out=.ok (.BF [])∧s'=⟨[Bv,.arr g 6 nn cl (vs GR.av (insertionSort BZ d a b).toList)],c'⟩:=by
 refine Ai rfl rfl ?_
 (conv=>whnf);repeat' (first  |(refine kA ?_;conv=>whnf)|(refine Br.mk (fun hc=>?_) fun hc=>?_<;>first|exact hc.elim|conv=>whnf)|(refine kB ?_))
 refine Ag (fun m env s=>∃(i c:Nat) (D:Array GR),m=b-i∧insOuter BZ a b i D=insertionSort BZ d a b∧D.size=len∧env=[(0,.own 1 g 0 len),(1,.int .i64 a),(2,.int .i64 b),(3,.fn 56 []),(8,.int .i64 i)]∧s=⟨[Bv,.arr g 6 nn cl (vs GR.av D.toList)],c⟩) ?_ _ _ _ ⟨a+1,c,d,rfl,rfl,hl,rfl,rfl⟩
 rintro _ _ _ ⟨i,c,D,rfl,hD,hDl,rfl,rfl⟩
 refine⟨rfl,?_⟩
 (conv=>whnf);repeat' (first  |(refine kA ?_;conv=>whnf)|(refine Br.mk (fun hc=>?_) fun hc=>?_<;>first|exact hc.elim|conv=>whnf)|(refine kB ?_))
 ·rw[Aic (by omega)]at hD
  refine Ag (fun m env s=>∃(j c:Nat) (z:Int) (E:Array GR),m=j∧z=j∧j≤i∧insInner BZ a j E=insInner BZ a i D∧E.size=len∧env=[(0,.own 1 g 0 len),(1,.int .i64 a),(2,.int .i64 b),(3,.fn 56 []),(8,.int .i64 i),(9,.int .i64 z)]∧s=⟨[Bv,.arr g 6 nn cl (vs GR.av E.toList)],c⟩) ?_ _ _ _ ⟨i,_,_,D,rfl,rfl,by omega,rfl,hDl,rfl,rfl⟩
  rintro j _ _ ⟨_,c,z,E,rfl,hz,hj,hE,hEl,rfl,rfl⟩
  refine⟨rfl,?_⟩
  cases j with
  |zero=>
   (conv=>whnf);repeat' (first  |(refine kA ?_;conv=>whnf)|(refine Br.mk (fun hc=>?_) fun hc=>?_<;>first|exact hc.elim|conv=>whnf)|(refine kB ?_))
   rw[← hE]at hD
   exact again.mk ⟨_,by omega,i+1,_,E,rfl,hD,hEl,rfl,rfl⟩
  |succ j=>
   (conv=>whnf);repeat' (first|((with_reducible show Ci _ _ _);refine Hg (j+1) ?_;conv=>whnf)|((with_reducible show Ci _ _ _);refine Hg (j) ?_;conv=>whnf)|(refine Aa DZ ?_;rintro _ rfl;conv=>whnf)|(refine He (fun hc=>?_) (fun hc=>?_)<;>conv=>whnf)|((with_reducible show eqK _ _);refine Nr BR (j+1) ?_;conv=>whnf)|((with_reducible show eqK _ _);refine Nr BR (j) ?_;conv=>whnf)|(refine kA ?_;conv=>whnf)|(refine Br.mk (fun hc=>?_) fun hc=>?_<;>first|exact hc.elim|conv=>whnf)|(refine kB ?_))
   ·rw[AfR (by omega) hc]at hE
    exact again.mk ⟨_,by omega,j,_,_,swp E (j+1) j,rfl,by omega,by omega,hE,by simpa using hEl,rfl,rfl⟩
   ·rw[YE (fun _=>hc)]at hE
    rw[← hE]at hD
    exact again.mk ⟨_,by omega,i+1,_,E,rfl,hD,hEl,rfl,rfl⟩
   ·rw[YE (fun h=>absurd h (by omega))]at hE
    rw[← hE]at hD
    exact again.mk ⟨_,by omega,i+1,_,E,rfl,hD,hEl,rfl,rfl⟩
 ·rw[Aid (by omega)]at hD
  exact⟨_,rfl,by rw[hD]⟩
set_option maxHeartbeats 1000000 in
theorem Af0 {Bv:Obj} {g c len:Nat} {nn cl:Bool} {d:Array GR} {lo hi first:Nat} (hl:d.size=len) (hb:first+hi≤len) (hs:len<2^61) (hlo:lo≤len):
 Aq (Ad tab) 242 [.own 1 g 0 len,.int .i64 lo,.int .i64 hi,.int .i64 first,.fn 56 []] ⟨[Bv,.arr g 6 nn cl (vs GR.av d.toList)],c⟩ fun out s'=>∃c',out=.ok (.BF [])∧s'=⟨[Bv,.arr g 6 nn cl (vs GR.av (siftDown BZ hi first lo d).toList)],c'⟩:=by
 refine Ai rfl rfl ?_
 (conv=>whnf);repeat' (first  |(refine kA ?_;conv=>whnf)|(refine Br.mk (fun hc=>?_) fun hc=>?_<;>first|exact hc.elim|conv=>whnf)|(refine kB ?_))
 refine Ag (fun m env s=>∃(root c:Nat) (z:Int) (D:Array GR),m=hi-root∧z=root∧root≤len∧siftDown BZ hi first root D=siftDown BZ hi first lo d∧D.size=len∧env=[(0,.own 1 g 0 len),(2,.int .i64 hi),(3,.int .i64 first),(4,.fn 56 []),(10,.int .i64 z)]∧s=⟨[Bv,.arr g 6 nn cl (vs GR.av D.toList)],c⟩) ?_ _ _ _ ⟨lo,c,_,d,rfl,rfl,hlo,rfl,hl,rfl,rfl⟩
 rintro _ _ _ ⟨root,c,z,D,rfl,hz,hr,hD,hDl,rfl,rfl⟩
 refine⟨rfl,?_⟩
 (conv=>whnf);repeat' (first|((with_reducible show Ci _ _ _);refine Hg (first+root) ?_;conv=>whnf)|((with_reducible show Ci _ _ _);refine Hg (first+(2*root+1)) ?_;conv=>whnf)|((with_reducible show Ci _ _ _);refine Hg (first+(2*root+1)+1) ?_;conv=>whnf)|(refine Aa DZ ?_;rintro _ rfl;conv=>whnf)|(refine He (fun hc=>?_) (fun hc=>?_)<;>conv=>whnf)|((with_reducible show eqK _ _);refine Nr BR (first+root) ?_;conv=>whnf)|((with_reducible show eqK _ _);refine Nr BR (first+(2*root+1)) ?_;conv=>whnf)|((with_reducible show eqK _ _);refine Nr BR (first+(2*root+1)+1) ?_;conv=>whnf)|(refine kA ?_;conv=>whnf)|(refine Br.mk (fun hc=>?_) fun hc=>?_<;>first|exact hc.elim|conv=>whnf)|(refine kB ?_))
 ·rw[YG (by omega)]at hD
  exact⟨_,rfl,by rw[hD]⟩
 all_goals first
  |(rw [Alo (by omega) (by assumption) hc]at hD
    exact again.mk ⟨_,by omega,2*root+2,_,_,swp D (first+root) (first+(2*root+2)),rfl,by omega,by omega,hD,by simpa using hDl,rfl,rfl⟩)
  |(rw [Aie (by omega) (by assumption) hc]at hD
    exact⟨_,rfl,by rw[hD]⟩)
  |(rw [AfS (by omega) (fun _=>by assumption) hc]at hD
    exact again.mk ⟨_,by omega,2*root+1,_,_,swp D (first+root) (first+(2*root+1)),rfl,by omega,by omega,hD,by simpa using hDl,rfl,rfl⟩)
  |(rw [AbA (by omega) (fun _=>by assumption) hc]at hD
    exact⟨_,rfl,by rw[hD]⟩)
  |(rw [AfS (by omega) (fun h=>absurd h (by omega)) hc]at hD
    exact again.mk ⟨_,by omega,2*root+1,_,_,swp D (first+root) (first+(2*root+1)),rfl,by omega,by omega,hD,by simpa using hDl,rfl,rfl⟩)
  |(rw [AbA (by omega) (fun h=>absurd h (by omega)) hc]at hD
    exact⟨_,rfl,by rw[hD]⟩)
set_option maxHeartbeats 1000000 in
theorem Aij {Bv:Obj} {g c len:Nat} {nn cl:Bool} {d:Array GR} {a n:Nat} {z:Int} {Q:AQ→Env→Am→Prop} (hl:d.size=len) (hb:a+n≤len) (hs:len<2^61) (hz:z=(n:Int)-1)
 (hQ:∀c' e,Q (.exit 2) e ⟨[Bv,.arr g 6 nn cl (vs GR.av (heapPop BZ a n d).toList)],c'⟩):
 Run (Ad tab) (.loop l181_1_h l181_1_b) [(0,.own 1 g 0 len),(3,.fn 56 []),(8,.int .i64 a),(9,.int .i64 0),(12,.int .i64 z)] ⟨[Bv,.arr g 6 nn cl (vs GR.av d.toList)],c⟩ Q:=by
 refine Ag (fun m env s=>∃(k c:Nat) (z:Int) (E:Array GR),m=k∧z=(k:Int)-1∧a+k≤len∧heapPop BZ a k E=heapPop BZ a n d∧E.size=len∧env=[(0,.own 1 g 0 len),(3,.fn 56 []),(8,.int .i64 a),(9,.int .i64 0),(12,.int .i64 z)]∧s=⟨[Bv,.arr g 6 nn cl (vs GR.av E.toList)],c⟩) ?_ _ _ _ ⟨n,c,_,d,rfl,hz,by omega,rfl,hl,rfl,rfl⟩
 clear hz
 rintro k _ _ ⟨_,c,z,E,rfl,hz,hk,hE,hEl,rfl,rfl⟩
 refine⟨rfl,?_⟩
 cases k with
 |succ k=>
  obtain rfl:z=(k:Nat):=by omega
  (conv=>whnf);repeat' (first|((with_reducible show Ci _ _ _);refine Hg (a) ?_;conv=>whnf)|((with_reducible show Ci _ _ _);refine Hg (a+k) ?_;conv=>whnf)|((with_reducible show eqK _ _);refine Nr BR (a) ?_;conv=>whnf)|((with_reducible show eqK _ _);refine Nr BR (a+k) ?_;conv=>whnf)|(refine kA ?_;conv=>whnf)|(refine Br.mk (fun hc=>?_) fun hc=>?_<;>first|exact hc.elim|conv=>whnf)|(refine kB ?_))
  refine(Af0 (d:=swp E a (a+k)) (lo:=0) (by simpa using hEl) (by omega) hs (by omega)).mono ?_
  rintro _ _ ⟨c',rfl,rfl⟩
  (conv=>whnf);repeat' (first  |(refine kA ?_;conv=>whnf)|(refine Br.mk (fun hc=>?_) fun hc=>?_<;>first|exact hc.elim|conv=>whnf)|(refine kB ?_))
  rw[heapPop]at hE
  exact again.mk ⟨_,by omega,k,_,(k:Int)-1,_,rfl,by omega,by omega,hE,by simpa using hEl,rfl,rfl⟩
 |zero=>
  rw[← hE]at hQ
  (conv=>whnf);repeat' (first  |(refine kA ?_;conv=>whnf)|(refine Br.mk (fun hc=>?_) fun hc=>?_<;>first|exact hc.elim|conv=>whnf)|(refine kB ?_))
  exact hQ _ _
theorem AkV {Bv:Obj} {g c len:Nat} {nn cl:Bool} {d:Array GR} {a b:Nat} (hl:d.size=len) (hb:b≤len) (hs:len<2^61) (hab:a<b):
 Aq (Ad tab) 181 [.own 1 g 0 len,.int .i64 a,.int .i64 b,.fn 56 []] ⟨[Bv,.arr g 6 nn cl (vs GR.av d.toList)],c⟩ fun out s'=>∃c',out=.ok (.BF [])∧s'=⟨[Bv,.arr g 6 nn cl (vs GR.av (heapSort BZ d a b).toList)],c'⟩:=by
 refine Ai rfl rfl ?_
 (conv=>whnf);repeat' (first|(refine U9 (b-a-1) 2 (by omega) (by omega) ?_;conv=>whnf)|(refine kA ?_;conv=>whnf)|(refine Br.mk (fun hc=>?_) fun hc=>?_<;>first|exact hc.elim|conv=>whnf)|(refine kB ?_))
 refine Ag (fun m env s=>∃(k c:Nat) (z:Int) (D:Array GR),m=k∧z=k-1∧k≤len∧heapBuild BZ (b-a) a k D=heapBuild BZ (b-a) a ((b-a-1) / 2+1) d∧D.size=len∧env=[(0,.own 1 g 0 len),(3,.fn 56 []),(8,.int .i64 a),(9,.int .i64 0),(10,.int .i64 (b-a)),(11,.int .i64 z)]∧s=⟨[Bv,.arr g 6 nn cl (vs GR.av D.toList)],c⟩) ?_ _ _ _ ⟨(b-a-1) / 2+1,c,_,d,rfl,by omega,by omega,rfl,hl,rfl,rfl⟩
 rintro k _ _ ⟨_,c,z,D,rfl,hz,hk,hD,hDl,rfl,rfl⟩
 refine⟨rfl,?_⟩
 cases k with
 |succ k=>
  obtain rfl:z=(k:Nat):=by omega
  (conv=>whnf);repeat' (first  |(refine kA ?_;conv=>whnf)|(refine Br.mk (fun hc=>?_) fun hc=>?_<;>first|exact hc.elim|conv=>whnf)|(refine kB ?_))
  rw[show ((b:Int)-a)=((b-a:Nat):Int) by omega]
  refine(Af0 hDl (by omega) hs (by omega)).mono ?_
  rintro _ _ ⟨c',rfl,rfl⟩
  (conv=>whnf);repeat' (first  |(refine kA ?_;conv=>whnf)|(refine Br.mk (fun hc=>?_) fun hc=>?_<;>first|exact hc.elim|conv=>whnf)|(refine kB ?_))
  rw[heapBuild]at hD
  exact again.mk ⟨_,by omega,k,_,(k:Int)-1,_,rfl,by omega,by omega,hD,by simpa using hDl,rfl,rfl⟩
 |zero=>
  have hD:D=_:=hD
  (conv=>whnf);repeat' (first  |(refine kA ?_;conv=>whnf)|(refine Br.mk (fun hc=>?_) fun hc=>?_<;>first|exact hc.elim|conv=>whnf)|(refine kB ?_))
  refine Aij hDl (n:=b-a) (by omega) hs (by omega) (fun c' e=>?_)
  (conv=>whnf);repeat' (first  |(refine kA ?_;conv=>whnf)|(refine Br.mk (fun hc=>?_) fun hc=>?_<;>first|exact hc.elim|conv=>whnf)|(refine kB ?_))
  exact⟨_,rfl,by rw[hD];rfl⟩
end
section
open Go.Sort
theorem Ad2 {Bv:Obj} {g g2 c len:Nat} {nn cl:Bool} {d:Array GR} {a b n:Nat} (hl:d.size=len) (ha:a<len) (hb:b<len) (hs:len<2^61) (hn:n<100):
 Aq (Ad tab) 285 [.own 1 g 0 len,.int .i64 a,.int .i64 b,.ref 2 g2 0 0,.fn 56 []] ⟨[Bv,.arr g 6 nn cl (vs GR.av d.toList),.arr g2 1 true true [.int .i64 n]],c⟩ fun out s'=>∃(c' x y n':Nat),out=.ok (.BF [.int .i64 x,.int .i64 y])∧s'=⟨[Bv,.arr g 6 nn cl (vs GR.av d.toList),.arr g2 1 true true [.int .i64 n']],c'⟩∧n'≤n+1∧(x=a∧y=b∨x=b∧y=a):=by
 refine Ai rfl rfl ?_
 (conv=>whnf);repeat' (first|((with_reducible show Ci _ _ _);refine Hg (a) ?_;conv=>whnf)|((with_reducible show Ci _ _ _);refine Hg (b) ?_;conv=>whnf)|(refine Aa DZ ?_;rintro _ rfl;conv=>whnf)|(refine He (fun hc=>?_) (fun hc=>?_)<;>conv=>whnf)|(refine kA ?_;conv=>whnf)|(refine Br.mk (fun hc=>?_) fun hc=>?_<;>first|exact hc.elim|conv=>whnf)|(refine kB ?_))
 ·exact⟨_,b,a,n+1,rfl,rfl,by omega,Or.inr ⟨rfl,rfl⟩⟩
 ·exact⟨_,a,b,n,rfl,rfl,by omega,Or.inl ⟨rfl,rfl⟩⟩
theorem Ad3 {Bv:Obj} {g g2 c len:Nat} {nn cl:Bool} {d:Array GR} {a b e n:Nat} (hl:d.size=len) (ha:a<len) (hb:b<len) (he:e<len) (hs:len<2^61) (hn:n<90):
 Aq (Ad tab) 246 [.own 1 g 0 len,.int .i64 a,.int .i64 b,.int .i64 e,.ref 2 g2 0 0,.fn 56 []] ⟨[Bv,.arr g 6 nn cl (vs GR.av d.toList),.arr g2 1 true true [.int .i64 n]],c⟩ fun out s'=>∃(c' m n':Nat),out=.ok (.int .i64 m)∧s'=⟨[Bv,.arr g 6 nn cl (vs GR.av d.toList),.arr g2 1 true true [.int .i64 n']],c'⟩∧n'≤n+3∧(m=a∨m=b∨m=e):=by
 refine Ai rfl rfl ?_
 (conv=>whnf);repeat' (first  |(refine kA ?_;conv=>whnf)|(refine Br.mk (fun hc=>?_) fun hc=>?_<;>first|exact hc.elim|conv=>whnf)|(refine kB ?_))
 refine(Ad2 hl ha hb hs (by omega)).mono ?_
 rintro _ _ ⟨c1,x1,y1,n1,rfl,rfl,h1,e1⟩
 conv=>whnf
 apply Ah rfl
 (conv=>whnf);repeat' (first  |(refine kA ?_;conv=>whnf)|(refine Br.mk (fun hc=>?_) fun hc=>?_<;>first|exact hc.elim|conv=>whnf)|(refine kB ?_))
 refine(Ad2 (a:=y1) (b:=e) hl (by omega) he hs (by omega)).mono ?_
 rintro _ _ ⟨c2,x2,y2,n2,rfl,rfl,h2,e2⟩
 conv=>whnf
 apply Ah rfl
 (conv=>whnf);repeat' (first  |(refine kA ?_;conv=>whnf)|(refine Br.mk (fun hc=>?_) fun hc=>?_<;>first|exact hc.elim|conv=>whnf)|(refine kB ?_))
 refine(Ad2 (a:=x1) (b:=x2) hl (by omega) (by omega) hs (by omega)).mono ?_
 rintro _ _ ⟨c3,x3,y3,n3,rfl,rfl,h3,e3⟩
 conv=>whnf
 apply Ah rfl
 (conv=>whnf);repeat' (first  |(refine kA ?_;conv=>whnf)|(refine Br.mk (fun hc=>?_) fun hc=>?_<;>first|exact hc.elim|conv=>whnf)|(refine kB ?_))
 exact⟨_,y3,n3,rfl,rfl,by omega,by omega⟩
theorem Ad4 {Bv:Obj} {g g2 c len:Nat} {nn cl:Bool} {d:Array GR} {a n:Nat} (hl:d.size=len) (ha:a+1<len) (h0:0<a) (hs:len<2^61) (hn:n<90):
 Aq (Ad tab) 245 [.own 1 g 0 len,.int .i64 a,.ref 2 g2 0 0,.fn 56 []] ⟨[Bv,.arr g 6 nn cl (vs GR.av d.toList),.arr g2 1 true true [.int .i64 n]],c⟩ fun out s'=>∃(c' m n':Nat),out=.ok (.int .i64 m)∧s'=⟨[Bv,.arr g 6 nn cl (vs GR.av d.toList),.arr g2 1 true true [.int .i64 n']],c'⟩∧n'≤n+3∧a≤m+1∧m≤a+1:=by
 refine Ai rfl rfl ?_
 (conv=>whnf);repeat' (first  |(refine kA ?_;conv=>whnf)|(refine Br.mk (fun hc=>?_) fun hc=>?_<;>first|exact hc.elim|conv=>whnf)|(refine kB ?_))
 rw[show ((a:Int)-1)=((a-1:Nat):Int) by omega]
 refine(Ad3 (a:=a-1) (b:=a) (e:=a+1) hl (by omega) (by omega) ha hs hn).mono ?_
 rintro _ _ ⟨c',m,n',rfl,rfl,h1,h2⟩
 conv=>whnf
 apply Ah rfl
 (conv=>whnf);repeat' (first  |(refine kA ?_;conv=>whnf)|(refine Br.mk (fun hc=>?_) fun hc=>?_<;>first|exact hc.elim|conv=>whnf)|(refine kB ?_))
 exact⟨_,m,n',rfl,rfl,h1,by omega,by omega⟩
set_option maxHeartbeats 1000000 in
theorem Amh {Bv:Obj} {g c len:Nat} {nn cl:Bool} {d:Array GR} {a b:Nat} (hl:d.size=len) (hb:b≤len) (hab:a+12<b) (hs:len<2^61):
 Aq (Ad tab) 183 [.own 1 g 0 len,.int .i64 a,.int .i64 b,.fn 56 []] ⟨[Bv,.arr g 6 nn cl (vs GR.av d.toList)],c⟩ fun out s'=>∃(c' p:Nat) (h:Int) (ob:Obj),out=.ok (.BF [.int .i64 p,.int .i64 h])∧s'=⟨[Bv,.arr g 6 nn cl (vs GR.av d.toList),ob],c'⟩∧a≤p∧p<b:=by
 refine Ai rfl rfl ?_
 have hq:(b-a) / 4*4≤b-a:=Nat.div_mul_le_self _ _
 have hq2:3≤(b-a) / 4:=by omega
 generalize hL:(b-a) / 4=L at hq hq2
 (conv=>whnf);repeat' (first|(refine U9 (b-a) 4 (by omega) (by omega) ?_;rw[hL];conv=>whnf)|(refine kA ?_;conv=>whnf)|(refine Br.mk (fun hc=>?_) fun hc=>?_<;>first|exact hc.elim|conv=>whnf)|(refine kB ?_))
 ·refine(Ad4 (g2:=c) (n:=0) (a:=a+L*1) hl (by omega) (by omega) hs (by omega)).mono ?_
  rintro _ _ ⟨c1,i,n1,rfl,rfl,h1,i1,i2⟩
  conv=>whnf
  apply Ah rfl
  (conv=>whnf);repeat' (first  |(refine kA ?_;conv=>whnf)|(refine Br.mk (fun hc=>?_) fun hc=>?_<;>first|exact hc.elim|conv=>whnf)|(refine kB ?_))
  refine(Ad4 (g2:=c) (a:=a+L*2) hl (by omega) (by omega) hs (by omega)).mono ?_
  rintro _ _ ⟨c2,j,n2,rfl,rfl,h2,j1,j2⟩
  conv=>whnf
  apply Ah rfl
  (conv=>whnf);repeat' (first  |(refine kA ?_;conv=>whnf)|(refine Br.mk (fun hc=>?_) fun hc=>?_<;>first|exact hc.elim|conv=>whnf)|(refine kB ?_))
  refine(Ad4 (g2:=c) (a:=a+L*3) hl (by omega) (by omega) hs (by omega)).mono ?_
  rintro _ _ ⟨c3,k,n3,rfl,rfl,h3,k1,k2⟩
  conv=>whnf
  apply Ah rfl
  (conv=>whnf);repeat' (first  |(refine kA ?_;conv=>whnf)|(refine Br.mk (fun hc=>?_) fun hc=>?_<;>first|exact hc.elim|conv=>whnf)|(refine kB ?_))
  refine(Ad3 (g2:=c) (a:=i) (b:=j) (e:=k) hl (by omega) (by omega) (by omega) hs (by omega)).mono ?_
  rintro _ _ ⟨c4,m,n4,rfl,rfl,h4,h5⟩
  conv=>whnf
  apply Ah rfl
  (conv=>whnf);repeat' (first  |(refine kA ?_;conv=>whnf)|(refine Br.mk (fun hc=>?_) fun hc=>?_<;>first|exact hc.elim|conv=>whnf)|(refine kB ?_))
  all_goals exact⟨_,m,_,_,rfl,rfl,by omega,by omega⟩
 ·refine(Ad3 (g2:=c) (n:=0) (a:=a+L*1) (b:=a+L*2) (e:=a+L*3) hl (by omega) (by omega) (by omega) hs (by omega)).mono ?_
  rintro _ _ ⟨c4,m,n4,rfl,rfl,h4,h5⟩
  conv=>whnf
  apply Ah rfl
  (conv=>whnf);repeat' (first  |(refine kA ?_;conv=>whnf)|(refine Br.mk (fun hc=>?_) fun hc=>?_<;>first|exact hc.elim|conv=>whnf)|(refine kB ?_))
  all_goals exact⟨_,m,_,_,rfl,rfl,by omega,by omega⟩
theorem Ami {Bv:Obj} {g c len:Nat} {nn cl:Bool} {d:Array GR} {a b:Nat} (hl:d.size=len) (hb:b≤len) (hab:a<b) (hs:len<2^61):
 Aq (Ad tab) 184 [.own 1 g 0 len,.int .i64 a,.int .i64 b,.fn 56 []] ⟨[Bv,.arr g 6 nn cl (vs GR.av d.toList)],c⟩ fun out s'=>∃c' D,out=.ok (.BF [])∧s'=⟨[Bv,.arr g 6 nn cl (vs GR.av D.toList)],c'⟩∧PermIn a b d D:=by
 refine Ai rfl rfl ?_
 (conv=>whnf);repeat' (first  |(refine kA ?_;conv=>whnf)|(refine Br.mk (fun hc=>?_) fun hc=>?_<;>first|exact hc.elim|conv=>whnf)|(refine kB ?_))
 refine Ag (fun m env s=>∃(i c:Nat) (z:Int) (D:Array GR),m=b-i∧a≤i∧i≤b∧z=(a:Int)+b-1-i∧PermIn a b d D∧env=[(0,.own 1 g 0 len),(8,.int .i64 i),(9,.int .i64 z)]∧s=⟨[Bv,.arr g 6 nn cl (vs GR.av D.toList)],c⟩) ?_ _ _ _ ⟨a,c,_,d,rfl,by omega,by omega,by omega,permIn_refl _ _ _,rfl,rfl⟩
 rintro _ _ _ ⟨i,c,z,D,rfl,hi,hib,hz,hD,rfl,rfl⟩
 refine⟨rfl,?_⟩
 have hDl:D.size=len:=by rw[hD.1,hl]
 (conv=>whnf);repeat' (first|((with_reducible show Ci _ _ _);refine Hg (i) ?_;conv=>whnf)|((with_reducible show Ci _ _ _);refine Hg (a+b-1-i) ?_;conv=>whnf)|((with_reducible show eqK _ _);refine Nr BR (i) ?_;conv=>whnf)|((with_reducible show eqK _ _);refine Nr BR (a+b-1-i) ?_;conv=>whnf)|(refine kA ?_;conv=>whnf)|(refine Br.mk (fun hc=>?_) fun hc=>?_<;>first|exact hc.elim|conv=>whnf)|(refine kB ?_))
 ·exact again.mk ⟨_,by omega,i+1,_,z-1,swp D i (a+b-1-i),rfl,by omega,by omega,by omega,permIn_trans _ _ _ _ _ hD (swp_permIn _ _ _ _ _ (by omega) (by omega) (by omega) (by omega) (by omega)),rfl,rfl⟩
 ·exact⟨_,D,rfl,rfl,hD⟩
theorem AjY {Bv:Obj} {obX:Obj} {g2 c:Nat} {r:Int}:
 Aq (Ad tab) 244 [.ref 2 g2 0 0] ⟨[Bv,  obX,.arr g2 1 true true [.int .u64 r]],c⟩ fun out s'=>∃c' r',out=.ok (.int .u64 r')∧s'=⟨[Bv,  obX,.arr g2 1 true true [.int .u64 r']],c'⟩:=by
 refine Ai rfl rfl ?_
 (conv=>whnf);repeat' (first|(apply Bo rfl;conv=>whnf)|(apply BD rfl;conv=>whnf)|(refine kA ?_;conv=>whnf)|(refine Br.mk (fun hc=>?_) fun hc=>?_<;>first|exact hc.elim|conv=>whnf)|(refine kB ?_))
 exact⟨_,_,rfl,rfl⟩
theorem Amj {r:Int} {M:Nat} (h0:0<M) (h:M<2^63):∃n:Nat,IntKind.u64.wrap ((BitVec.ofInt IntKind.u64.bits r &&& BitVec.ofInt IntKind.u64.bits ((M-1:Nat):Int)).toNat:Int)=n∧n<M:=by
 have e:(BitVec.ofInt IntKind.u64.bits ((M-1:Nat):Int)).toNat=M-1:=by
  rw[BitVec.toNat_ofInt]
  show Int.toNat (((M-1:Nat):Int) % ((2 ^ 64:Nat):Int))=M-1
  omega
 refine⟨(BitVec.ofInt IntKind.u64.bits r &&& BitVec.ofInt IntKind.u64.bits ((M-1:Nat):Int)).toNat,AdK rfl (by omega) ?_,?_⟩
 ·rw[BitVec.toNat_and,e]
  have:=@Nat.and_le_right (BitVec.ofInt IntKind.u64.bits r).toNat (M-1)
  show _<(2:Int) ^ 64
  omega
 ·rw[BitVec.toNat_and,e]
  have:=@Nat.and_le_right (BitVec.ofInt IntKind.u64.bits r).toNat (M-1)
  omega
set_option maxHeartbeats 1000000 in
theorem Amk {Bv:Obj} {g c len:Nat} {nn cl:Bool} {d:Array GR} {a b:Nat} (hl:d.size=len) (hb:b≤len) (hab:a+12<b) (hs:len<2^61):
 Aq (Ad tab) 182 [.own 1 g 0 len,.int .i64 a,.int .i64 b,.fn 56 []] ⟨[Bv,.arr g 6 nn cl (vs GR.av d.toList)],c⟩ fun out s'=>∃c' D ob,out=.ok (.BF [])∧s'=⟨[Bv,.arr g 6 nn cl (vs GR.av D.toList),ob],c'⟩∧PermIn a b d D:=by
 refine Ai rfl rfl ?_
 have hq:(b-a) / 4*4≤b-a:=Nat.div_mul_le_self _ _
 have hq2:3≤(b-a) / 4:=by omega
 generalize hL:(b-a) / 4=L at hq hq2
 (conv=>whnf);repeat' (first|(refine U9 (b-a) 4 (by omega) (by omega) ?_;rw[hL];conv=>whnf)|(refine wrapN (b-a) rfl (by omega) (by show _<2^64;omega) ?_;conv=>whnf)|(refine kA ?_;conv=>whnf)|(refine Br.mk (fun hc=>?_) fun hc=>?_<;>first|exact hc.elim|conv=>whnf)|(refine kB ?_))
 rw[show ((b:Int)-a)=((b-a:Nat):Int) by omega]
 refine Aa (AbX (n:=b-a) (by omega) (by omega)) ?_
 rintro _ ⟨M,rfl,hM1,hM2⟩
 (conv=>whnf);repeat' (first|(refine U9 (b-a) 4 (by omega) (by omega) ?_;rw[hL];conv=>whnf)|(refine kA ?_;conv=>whnf)|(refine Br.mk (fun hc=>?_) fun hc=>?_<;>first|exact hc.elim|conv=>whnf)|(refine kB ?_))
 refine Ag (fun m env s=>∃(k cc:Nat) (z r:Int) (D:Array GR),m=3-k∧k≤3∧z=(a:Int)+L*2-1+k∧PermIn a b d D∧env=[(0,.own 1 g 0 len),(1,.int .i64 a),(8,.int .i64 (b-a:Nat)),(9,.ref 2 c 0 0),(10,.int .u64 M),(11,.int .i64 z)]∧s=⟨[Bv,.arr g 6 nn cl (vs GR.av D.toList),.arr c 1 true true [.int .u64 r]],cc⟩) ?_ _ _ _ ⟨0,_,_,((b-a:Nat):Int),d,rfl,by omega,by omega,permIn_refl _ _ _,rfl,rfl⟩
 rintro _ _ _ ⟨k,c1,z,r,D,rfl,hk,hz,hD,rfl,rfl⟩
 refine⟨rfl,?_⟩
 have hDl:D.size=len:=by rw[hD.1,hl]
 (conv=>whnf);repeat' (first|(refine U9 (b-a) 4 (by omega) (by omega) ?_;rw[hL];conv=>whnf)|(refine kA ?_;conv=>whnf)|(refine Br.mk (fun hc=>?_) fun hc=>?_<;>first|exact hc.elim|conv=>whnf)|(refine kB ?_))
 ·refine(AjY).mono ?_
  rintro _ _ ⟨c2,r2,rfl,rfl⟩
  obtain⟨o,ho1,ho2⟩:=Amj (r:=r2) (M:=M) (by omega) (by omega)
  conv=>whnf
  apply Ah rfl
  (conv=>whnf);repeat' (first|(refine wrapN (M-1) rfl (by omega) (by show _<2^64;omega) ?_;conv=>whnf)|(apply Bo ho1;conv=>whnf)|(refine BD (wrap_i64 (by omega) (by omega)) ?_;conv=>whnf)|((with_reducible show Ci _ _ _);refine Hg (a+(o-(b-a))) ?_;conv=>whnf)|((with_reducible show Ci _ _ _);refine Hg (a+o) ?_;conv=>whnf)|((with_reducible show Ci _ _ _);refine Hg (a+L*2-1+k) ?_;conv=>whnf)|((with_reducible show eqK _ _);refine Nr BR (a+(o-(b-a))) ?_;conv=>whnf)|((with_reducible show eqK _ _);refine Nr BR (a+o) ?_;conv=>whnf)|((with_reducible show eqK _ _);refine Nr BR (a+L*2-1+k) ?_;conv=>whnf)|(refine kA ?_;conv=>whnf)|(refine Br.mk (fun hc=>?_) fun hc=>?_<;>first|exact hc.elim|conv=>whnf)|(refine kB ?_))
  ·exact again.mk ⟨_,by omega,k+1,_,_,_,swp D (a+L*2-1+k) (a+(o-(b-a))),rfl,by omega,by omega,permIn_trans _ _ _ _ _ hD (swp_permIn _ _ _ _ _ (by omega) (by omega) (by omega) (by omega) (by omega)),rfl,rfl⟩
  ·exact again.mk ⟨_,by omega,k+1,_,_,_,swp D (a+L*2-1+k) (a+o),rfl,by omega,by omega,permIn_trans _ _ _ _ _ hD (swp_permIn _ _ _ _ _ (by omega) (by omega) (by omega) (by omega) (by omega)),rfl,rfl⟩
 ·exact⟨_,D,_,rfl,rfl,hD⟩
end
end AI
end Go.Proofs.YtjijnamhalgamaaGreatDoor
