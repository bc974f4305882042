/- Join, both; Same. -/
import Derived.Test.YtgmgkkbpgndaaaaGreatDoorCoB
set_option linter.unusedVariables false
set_option maxRecDepth 4000
namespace Go.Proofs.YtgmgkkbpgndaaaaGreatDoor
namespace AI
def LB (l:List (Int×Int)):AV→Prop:=fun v=>∃b,v=.sl b (vs pv l)
theorem sub0 {f:Int×Int→AV} {l:List (Int×Int)} {n:Nat} (h:n=l.length):sub (vs f l) 0 n=vs f l:=by subst h;exact uV
set_option maxHeartbeats 1000000 in
theorem joinR {l:List (Int×Int)} {a b:Int} {nn:Bool} (hl:l.length<2^40):PureP (findFn tab) 10 [.sl nn (vs pv l),.int .i64 a,.int .i64 b] (LB (joinB l a b)):=by
 have pa:=findR (l:=l) (a:=a) (nn:=nn) (by omega)
 have pb:=findR (l:=l) (a:=b) (nn:=nn) (by omega)
 unfold joinB
 cases ha:findB l a with
 |none=>
  rw[ha]at pa
  obtain⟨_,rfl,pb⟩:=pb.det
  cases hb:findB l b with
  |none=>
   rw[hb]at pb
   refine pureP_of rfl rfl ?_
   (conv=>whnf);repeat' (first|(refine callK_of pa ?_;rintro _ rfl;conv=>whnf)|(refine callK_of pb ?_;rintro _ rfl;conv=>whnf)|(refine apVt (f:=pv) (l:=[]) (l':=l) rfl cellsPv rfl (by simp;omega) ?_;conv=>whnf)|(refine kA ?_;conv=>whnf)|(refine Br.mk (fun hc=>?_) fun hc=>?_<;>first|exact hc.elim|conv=>whnf)|(refine kB ?_))
   all_goals first | (exfalso; omega) | exact ⟨true, congrArg (AV.sl true) (sub0 (by simp))⟩ | (trace_state; fail "joinR1")
  |some y=>
   rw[hb]at pb
   refine pureP_of rfl rfl ?_
   (conv=>whnf);repeat' (first|(refine callK_of pa ?_;rintro _ rfl;conv=>whnf)|(refine callK_of pb ?_;rintro _ rfl;conv=>whnf)|(refine apVt (f:=pv) (l:=[]) (l':=l) rfl cellsPv rfl (by simp;omega) ?_;conv=>whnf)|(refine kA ?_;conv=>whnf)|(refine Br.mk (fun hc=>?_) fun hc=>?_<;>first|exact hc.elim|conv=>whnf)|(refine kB ?_))
   all_goals first | (exfalso; omega) | exact ⟨true, congrArg (AV.sl true) (sub0 (by simp))⟩ | (trace_state; fail "joinR1b")
 |some x=>
  rw[ha]at pa
  cases hb:findB l b with
  |none=>
   rw[hb]at pb
   refine pureP_of rfl rfl ?_
   (conv=>whnf);repeat' (first|(refine callK_of pa ?_;rintro _ rfl;conv=>whnf)|(refine callK_of pb ?_;rintro _ rfl;conv=>whnf)|(refine apVt (f:=pv) (l:=[]) (l':=l) rfl cellsPv rfl (by simp;omega) ?_;conv=>whnf)|(refine kA ?_;conv=>whnf)|(refine Br.mk (fun hc=>?_) fun hc=>?_<;>first|exact hc.elim|conv=>whnf)|(refine kB ?_))
   all_goals first | (exfalso; omega) | exact ⟨true, congrArg (AV.sl true) (sub0 (by simp))⟩ | (trace_state; fail "joinR2")
  |some y=>
   rw[hb]at pb
   refine pureP_of rfl rfl ?_
   (conv=>whnf);repeat' (first|(refine callK_of pa ?_;rintro _ rfl;conv=>whnf)|(refine callK_of pb ?_;rintro _ rfl;conv=>whnf)|(refine apVt (f:=pv) (l:=[]) (l':=l) rfl cellsPv rfl (by simp;omega) ?_;conv=>whnf)|(refine kA ?_;conv=>whnf)|(refine Br.mk (fun hc=>?_) fun hc=>?_<;>first|exact hc.elim|conv=>whnf)|(refine kB ?_))
   refine loop_inv (fun m env s=>∃(i c g n:Nat) (W:List (Int×Int)),m=l.length-i∧n=l.length∧Half (mergeB x y) l W i∧env=[(7,.int .i64 x),(9,.int .i64 y),(11,.own 0 g 0 n),(12,.int .i64 i)]∧s=⟨[.arr g 2 true true (vs pv W)],c⟩) ?_ _ _ _ ⟨0,_,_,_,l,rfl,by simp,.start _ _,rfl,rfl⟩
   rintro _ _ _ ⟨i,c,g,n,W,rfl,rfl,hW,rfl,rfl⟩
   refine⟨rfl,?_⟩
   have hWl:=hW.len
   by_cases hlt:i<l.length
   ·have hx:=hW.at hlt
    have n1:nth (vs pv W) (Int.toNat (Nat.cast i))=some (pv (l[i])):=by rw[← hx];exact nVN (by omega)
    (conv=>whnf);repeat' (first|(apply nthK_intro;(· exact n1);conv=>whnf)|(refine tPv ?_;conv=>whnf)|(refine kA ?_;conv=>whnf)|(refine Br.mk (fun hc=>?_) fun hc=>?_<;>first|exact hc.elim|conv=>whnf)|(refine kB ?_))
    all_goals first
     |(exfalso;omega)
     |(have hp:=hW.put hlt;rw[mergeB_hit (by first|exact .inl ‹_› |exact .inr ‹_›)]at hp;exact again.mk ⟨_,by omega,i+1,_,_,_,_,rfl,rfl,hp,rfl,rfl⟩)
     |exact again.mk ⟨_,by omega,i+1,_,_,_,_,rfl,rfl,hW.skip hlt (mergeB_miss (by assumption) (by assumption)),rfl,rfl⟩
     | (trace_state; fail "joinR4")
   ·have he:=hW.all hlt
    (conv=>whnf);repeat' (first  |(refine kA ?_;conv=>whnf)|(refine Br.mk (fun hc=>?_) fun hc=>?_<;>first|exact hc.elim|conv=>whnf)|(refine kB ?_))
    all_goals first
     |(exfalso;omega)
     |(refine ⟨true,?_⟩;rw[sub0 hWl.symm,he])
     | (trace_state; fail "joinR9")
theorem clonePv {l:List (Int×Int)} (hl:l.length<2^40):Calls1 (findFn tab) 20 [.sl true (vs pv l)] ⟨[],0⟩ fun out s'=>∃o g,out=.ok (.own o g 0 (vs pv l).length)∧nth s'.σ o=some (.arr g 2 true true (vs pv l)):=by
 refine calls1_of rfl rfl ?_
 (conv=>whnf);repeat' (first|(refine apVt (f:=pv) (l:=[]) (l':=l) rfl cellsPv rfl (by simp;omega) ?_;conv=>whnf)|(refine kA ?_;conv=>whnf)|(refine Br.mk (fun hc=>?_) fun hc=>?_<;>first|exact hc.elim|conv=>whnf)|(refine kB ?_))
 all_goals first | exact ⟨0, _, congrArg (fun n => AOut.ok (.own 0 _ 0 n)) ((Nat.zero_add _).trans (lV l).symm), rfl⟩ | (trace_state; fail "clonePv2")
theorem clonePn:Calls1 (findFn tab) 20 [.sl false []] ⟨[],0⟩ fun out _=>out=.ok (.sl false []):=by
 refine calls1_of rfl rfl ?_
 (conv=>whnf);repeat' (first  |(refine kA ?_;conv=>whnf)|(refine Br.mk (fun hc=>?_) fun hc=>?_<;>first|exact hc.elim|conv=>whnf)|(refine kB ?_))
 all_goals first | rfl | (trace_state; fail "clonePv1")
set_option maxHeartbeats 1000000 in
theorem joinP {l:List (Int×Int)} {a b:Int} {nn:Bool} (hl:l.length<2^40) (hn:nn=false→l=[]):PureP (findFn tab) 9 [.sl nn (vs pv l),.int .i64 a,.int .i64 b] (LB (joinB l a b)):=by
 obtain⟨_,ia,pa⟩:=(idx (l:=l) (a:=a) (nn:=nn) (by omega) (fun p=>isA1)).det
 obtain⟨_,ib,pb⟩:=(idx (l:=l) (a:=b) (nn:=nn) (by omega) (fun p=>isA2)).det
 unfold joinB
 cases nn with
 |false=>
  have:=hn rfl
  subst this
  cases ia with
  |«at» i h=>exact absurd h (by simp)
  |no _=>
  cases ib with
  |«at» i h=>exact absurd h (by simp)
  |no _=>
  refine pureP_of rfl rfl ?_
  (conv=>whnf);repeat' (first|(refine callK_of pa ?_;rintro _ rfl;conv=>whnf)|(refine callK_of pb ?_;rintro _ rfl;conv=>whnf)|(refine ownK_nil rfl clonePn ?_;conv=>whnf)|(refine kA ?_;conv=>whnf)|(refine Br.mk (fun hc=>?_) fun hc=>?_<;>first|exact hc.elim|conv=>whnf)|(refine kB ?_))
  all_goals first | (exfalso; omega) | exact ⟨_, rfl⟩ | (trace_state; fail "joinP1")
 |true=>
  have pc:=clonePv hl
  cases ia with
  |no ha=>
   rw[ha]
   cases ib with
   |no hb=>
    rw[hb]
    refine pureP_of rfl rfl ?_
    (conv=>whnf);repeat' (first|(refine callK_of pa ?_;rintro _ rfl;conv=>whnf)|(refine callK_of pb ?_;rintro _ rfl;conv=>whnf)|(refine ownK rfl pc ?_;conv=>whnf)|(refine kA ?_;conv=>whnf)|(refine Br.mk (fun hc=>?_) fun hc=>?_<;>first|exact hc.elim|conv=>whnf)|(refine kB ?_))
    all_goals first | (exfalso; omega) | exact ⟨true, congrArg (AV.sl true) (sub0 (by simp))⟩ | (trace_state; fail "joinP2")
   |«at» k hk hb=>
    rw[hb]
    refine pureP_of rfl rfl ?_
    (conv=>whnf);repeat' (first|(refine callK_of pa ?_;rintro _ rfl;conv=>whnf)|(refine callK_of pb ?_;rintro _ rfl;conv=>whnf)|(refine ownK rfl pc ?_;conv=>whnf)|(refine kA ?_;conv=>whnf)|(refine Br.mk (fun hc=>?_) fun hc=>?_<;>first|exact hc.elim|conv=>whnf)|(refine kB ?_))
    all_goals first | (exfalso; omega) | exact ⟨true, congrArg (AV.sl true) (sub0 (by simp))⟩ | (trace_state; fail "joinP3")
  |«at» i hi ha=>
   rw[ha]
   cases ib with
   |no hb=>
    rw[hb]
    refine pureP_of rfl rfl ?_
    (conv=>whnf);repeat' (first|(refine callK_of pa ?_;rintro _ rfl;conv=>whnf)|(refine callK_of pb ?_;rintro _ rfl;conv=>whnf)|(refine ownK rfl pc ?_;conv=>whnf)|(refine kA ?_;conv=>whnf)|(refine Br.mk (fun hc=>?_) fun hc=>?_<;>first|exact hc.elim|conv=>whnf)|(refine kB ?_))
    all_goals first | (exfalso; omega) | exact ⟨true, congrArg (AV.sl true) (sub0 (by simp))⟩ | (trace_state; fail "joinP4")
   |«at» k hk hb=>
    rw[hb]
    refine pureP_of rfl rfl ?_
    (conv=>whnf);repeat' (first|(refine callK_of pa ?_;rintro _ rfl;conv=>whnf)|(refine callK_of pb ?_;rintro _ rfl;conv=>whnf)|(refine ownK rfl pc ?_;conv=>whnf)|(refine kA ?_;conv=>whnf)|(refine Br.mk (fun hc=>?_) fun hc=>?_<;>first|exact hc.elim|conv=>whnf)|(refine kB ?_))
    all_goals first|(exfalso;omega)|skip
    obtain⟨x,hx⟩:∃x,(l[i]).2=x:=⟨_,rfl⟩
    obtain⟨y,hy⟩:∃y,(l[k]).2=y:=⟨_,rfl⟩
    rw[hx,hy]
    refine loop_inv (fun m env s=>∃(i c g n:Nat) (W:List (Int×Int)),m=l.length-i∧n=l.length∧Half (mergeB x y) l W i∧env=[(7,.own 2 g 0 n),(10,.int .i64 x),(11,.int .i64 y),(39,.int .i64 n),(40,.int .i64 i)]∧s=⟨[.arr 0 1 true true [.int .i64 a],.arr 1 1 true true [.int .i64 b],.arr g 2 true true (vs pv W)],c⟩) ?_ _ _ _ ⟨0,_,_,(vs pv l).length,l,rfl,by rw[lV],.start _ _,rfl,rfl⟩
    rintro _ _ _ ⟨i,c,g,n,W,rfl,rfl,hW,rfl,rfl⟩
    refine⟨rfl,?_⟩
    have hWl:=hW.len
    by_cases hlt:i<l.length
    ·have hx:=hW.at hlt
     have n1:nth (vs pv W) (Int.toNat (Nat.cast i))=some (pv (l[i])):=by rw[← hx];exact nVN (by omega)
     (conv=>whnf);repeat' (first|(apply nthK_intro;(· exact n1);conv=>whnf)|(refine tPv ?_;conv=>whnf)|(refine kA ?_;conv=>whnf)|(refine Br.mk (fun hc=>?_) fun hc=>?_<;>first|exact hc.elim|conv=>whnf)|(refine kB ?_))
     all_goals first
      |(exfalso;omega)
      |(have hp:=hW.put hlt;rw[mergeB_hit (by first|exact .inl ‹_› |exact .inr ‹_›)]at hp;exact again.mk ⟨_,by omega,i+1,_,_,_,_,rfl,rfl,hp,rfl,rfl⟩)
      |exact again.mk ⟨_,by omega,i+1,_,_,_,_,rfl,rfl,hW.skip hlt (mergeB_miss (by assumption) (by assumption)),rfl,rfl⟩
      | (trace_state; fail "joinP5")
    ·have he:=hW.all hlt
     (conv=>whnf);repeat' (first  |(refine kA ?_;conv=>whnf)|(refine Br.mk (fun hc=>?_) fun hc=>?_<;>first|exact hc.elim|conv=>whnf)|(refine kB ?_))
     all_goals first
      |(exfalso;omega)
      |(refine ⟨true,?_⟩;rw[sub0 hWl.symm,he])
      | (trace_state; fail "joinP6")
theorem sameL {l m:List (Int×Int)} {b1 b2:Bool} (hl:l.length<2^40) (hm:m.length<2^40):PureP (findFn tab) 8 [.sl b1 (vs pv l),.sl b2 (vs pv m)] (· =.bool (decide (l=m))):=by
 by_cases hlen:l.length=m.length
 ·refine pureP_of rfl rfl ?_
  (conv=>whnf);repeat' (first  |(refine kA ?_;conv=>whnf)|(refine Br.mk (fun hc=>?_) fun hc=>?_<;>first|exact hc.elim|conv=>whnf)|(refine kB ?_))
  all_goals first|(exfalso;omega)|skip
  refine loop_inv (fun z env s=>∃(i:Nat),z=l.length-i∧l.take i=m.take i∧env=[(0,.sl b1 (vs pv l)),(1,.sl b2 (vs pv m)),(5,.int .i64 i)]∧s=⟨[],0⟩) ?_ _ _ _ ⟨0,rfl,rfl,rfl,rfl⟩
  rintro _ _ _ ⟨i,rfl,hx,rfl,rfl⟩
  refine⟨rfl,?_⟩
  by_cases hlt:i<l.length
  ·have hb:bin .neq (.flat [.int,.int]) (.agg (List.take 2 (pv l[i]).cells)) (.agg (List.take 2 (pv (m[i]'(by omega))).cells))=some (.bool (!decide (l[i]=m[i]'(by omega)))):=by
        generalize l[i]=p
        generalize m[i]'_=q
        obtain⟨p1,p2⟩:=p
        obtain⟨q1,q2⟩:=q
        by_cases h1:p1=q1
        ·by_cases h2:p2=q2
         ·simp[bin,eqAV,eqFlat,eqLeaf,pv,AV.cells,h1,h2]
         ·have e2:(p2==q2)=false:=by simpa using h2
          simp[bin,eqAV,eqFlat,eqLeaf,pv,AV.cells,h1,h2,e2]
        ·have e1:(p1==q1)=false:=by simpa using h1
         simp[bin,eqAV,eqFlat,eqLeaf,pv,AV.cells,h1,e1]
   by_cases he:l[i]=m[i]'(by omega)
   ·rw[decide_eq_true he]at hb
    (conv=>whnf);repeat' (first|(apply getK_intro hb;conv=>whnf)|(refine kA ?_;conv=>whnf)|(refine Br.mk (fun hc=>?_) fun hc=>?_<;>first|exact hc.elim|conv=>whnf)|(refine kB ?_))
    all_goals first
     |(exfalso;omega)
     |exact again.mk ⟨_,by omega,i+1,rfl,by rw[List.take_succ_eq_append_getElem hlt,List.take_succ_eq_append_getElem (by omega),hx,he],rfl,rfl⟩
     | (trace_state; fail "sameL1")
   ·rw[decide_eq_false he]at hb
    have hno:¬l=m:=fun e=>he (by subst e;rfl)
    (conv=>whnf);repeat' (first|(apply getK_intro hb;conv=>whnf)|(refine kA ?_;conv=>whnf)|(refine Br.mk (fun hc=>?_) fun hc=>?_<;>first|exact hc.elim|conv=>whnf)|(refine kB ?_))
    all_goals first
     |(exfalso;omega)
     |exact bool_f hno
     | (trace_state; fail "sameL2")
  ·have hyes:l=m:=by rw[List.take_of_length_le (by omega),List.take_of_length_le (by omega)]at hx;exact hx
   (conv=>whnf);repeat' (first  |(refine kA ?_;conv=>whnf)|(refine Br.mk (fun hc=>?_) fun hc=>?_<;>first|exact hc.elim|conv=>whnf)|(refine kB ?_))
   all_goals first
        |(exfalso;omega)
        |exact bool_t hyes
        | (trace_state; fail "sameL3")
 ·have hno:¬l=m:=fun e=>hlen (by rw[e])
  refine pureP_of rfl rfl ?_
  (conv=>whnf);repeat' (first  |(refine kA ?_;conv=>whnf)|(refine Br.mk (fun hc=>?_) fun hc=>?_<;>first|exact hc.elim|conv=>whnf)|(refine kB ?_))
  all_goals first | (exfalso; omega) | exact bool_f hno | (trace_state; fail "sameL4")
end AI
end Go.Proofs.YtgmgkkbpgndaaaaGreatDoor
