/- Valid values, exactly: the reference's. Numbers among values. The null value. The program's order of a value and null. The order of values: plain. The budget of a graph; names and types; entries. Values that differ only in whether an empty list is there: alike in order. Plain. Values of the type again, built from their parts. What a change leaves alone: plain. Changes as arguments. Looking for the first. The reference looks up nodes and edges. Looking for the first: good properties. Small values. A value cloned reads as the value. Clones: they read as what was cloned. The program looks up nodes and edges. Names in a list, increasing strings, labels and properties. What is wrong with labels and properties. Looking for a node among increasing ids. graph.Check: the first error of a graph. -/
import Derived.Test.YtegcpbncohoflaaGreatDoorGMae
import Derived.Test.YtegcpbncohoflaaGreatDoorGMaf
import Derived.Test.YtegcpbncohoflaaGreatDoorGMac
import Derived.Test.YtegcpbncohoflaaGreatDoorGMad
set_option linter.unusedVariables false
namespace Go.Proofs.YtegcpbncohoflaaGreatDoor
namespace AI
set_option maxHeartbeats 1000000 in
theorem vbR {g:GV} (hg:g.ok) (h7:g.k≠7) (h8:g.k≠8) {n:Int}:Af (Ae tab) 78 [g.av,.int .i64 n] (· =.bool (decide (VB g))):=by
 obtain⟨g1,g2,g3,g4,g5,g6,g7⟩:=hg
 unfold Ln at g4 g5
 refine Ac rfl rfl ?_
 (conv=>whnf);repeat' (first|(refine BK (Yd (v:=g) g5) (fun hb=>?_) (fun hb=>?_)<;>conv=>whnf)|(refine BK (Ac1 (n:=g.n)) (fun hr=>?_) (fun hr=>?_)<;>conv=>whnf)|(refine BK (fvR (n:=g.n) (d:=g.d)) (fun hr=>?_) (fun hr=>?_)<;>conv=>whnf)|(refine BK (Aea (s:=g.s) g4) (fun hr=>?_) (fun hr=>?_)<;>conv=>whnf)|(refine kA ?_;conv=>whnf)|(refine Br.mk (fun hc=>?_) fun hc=>?_<;>first|exact hc.elim|conv=>whnf)|(refine kB ?_))
 all_goals clear g7 g6
 all_goals try unfold Nb at hb
 all_goals try simp only[Bool.false_eq_true,false_or,true_or]at hb
 all_goals first
  |(refine AX ?_;unfold VB;first|(simp_all;done)|(simp_all;omega))
  |(refine Ai fun h=>hb ?_;obtain⟨h0,h⟩:=h;rcases h with h|h|h|h|h|h<;>first|(exfalso;omega)|(simp_all;done)|(simp_all;omega)|(refine ⟨?_,?_,?_,?_⟩<;>first|omega|simp_all))
  |(refine Ai ?_;unfold VB;first|(simp_all;done)|(simp_all;omega))
  |trace_state
set_option maxHeartbeats 1000000 in
theorem AaY {l:List AV} {nn:Bool} (hl:l.length<2^63) (h:∀x∈l,Like Tryz.prog 57 x):Af (Ae tab) 97 [.sl nn l] (· =.bool (decide (UK l))):=by
 have htm:(l.length:Int).tmod 2=(l.length:Int) % 2:=Int.tmod_eq_emod_of_nonneg (by omega)
 by_cases hlen:l.length % 2=1∧l.length≤25
 ·obtain⟨hl1,hl2⟩:=hlen
  refine Ac rfl rfl ?_
  (conv=>whnf);repeat' (first  |(refine kA ?_;conv=>whnf)|(refine Br.mk (fun hc=>?_) fun hc=>?_<;>first|exact hc.elim|conv=>whnf)|(refine kB ?_))
  refine Aq (fun m env s=>∃i:Nat,m=l.length-i∧i≤l.length∧(∀ j (hj:j<l.length),j<i→∃x:GV,l[j]=x.av∧x.k=5+(j:Int) % 2∧VB x)∧env=[(0,.sl nn l),(3,.int .i64 i)]∧s=⟨[],0⟩) ?_ _ _ _ ⟨0,rfl,by omega,fun j _ hj=>absurd hj (by omega),rfl,rfl⟩
  rintro _ _ _ ⟨i,rfl,hi,hx,rfl,rfl⟩
  refine⟨rfl,?_⟩
  by_cases hlt:i<l.length
  ·obtain⟨gx,hgx⟩:=H9 h i
   obtain⟨hn,he,hok⟩:=hgx hlt
   have hno:¬(gx.k=5+(i:Int) % 2∧VB gx)→¬UK l:=fun hh hv=>by
        obtain⟨x,e,hx2⟩:=hv.2.2 i hlt
        rw[he]at e
        rw[GV.FC e]at hh
        exact hh hx2
   have h2:(i:Int).tmod 2=(i:Int) % 2:=Int.tmod_eq_emod_of_nonneg (by omega)
   (conv=>whnf);repeat' (first|(apply Bq;(· exact hn);conv=>whnf)|(refine BK (vbR (g:=gx) hok (by omega) (by omega) (n:=0)) (fun hr=>?_) (fun hr=>?_)<;>conv=>whnf)|(refine kA ?_;conv=>whnf)|(refine Br.mk (fun hc=>?_) fun hc=>?_<;>first|exact hc.elim|conv=>whnf)|(refine kB ?_))
   all_goals first
        |exact again.mk ⟨_,by omega,i+1,rfl,by omega,Tj hlt he (by omega) hr hx,rfl,rfl⟩
        |exact Ai (hno fun hh=>by have:=hh.1;omega)
        |exact Ai (hno fun hh=>hr hh.2)
        |trace_state
  ·rw[show i=l.length by omega]at hx
   (conv=>whnf);repeat' (first  |(refine kA ?_;conv=>whnf)|(refine Br.mk (fun hc=>?_) fun hc=>?_<;>first|exact hc.elim|conv=>whnf)|(refine kB ?_))
   exact AX ⟨hl1,hl2,fun j hj=>hx j hj hj⟩
 ·have hno:¬UK l:=fun hv=>hlen ⟨hv.1,hv.2.1⟩
  refine Ac rfl rfl ?_
  (conv=>whnf);repeat' (first  |(refine kA ?_;conv=>whnf)|(refine Br.mk (fun hc=>?_) fun hc=>?_<;>first|exact hc.elim|conv=>whnf)|(refine kB ?_))
  all_goals first|exact Ai hno|(exfalso;omega)|trace_state
theorem v7R {g:GV} (hg:g.ok) (hk:g.k=7) {n:Int}:Af (Ae tab) 78 [g.av,.int .i64 n] (· =.bool (decide (g.n=0∧g.d=0∧g.s=[]∧UK g.l))):=by
 obtain⟨g1,g2,g3,g4,g5,g6,g7⟩:=hg
 unfold Ln at g4 g5
 refine Ac rfl rfl ?_
 (conv=>whnf);repeat' (first|(refine BK (Yd (v:=g) g5) (fun hb=>?_) (fun hb=>?_)<;>conv=>whnf)|(refine BK (AaY (l:=g.l) (nn:=g.nn) g5 g7) (fun hr=>?_) (fun hr=>?_)<;>conv=>whnf)|(refine kA ?_;conv=>whnf)|(refine Br.mk (fun hc=>?_) fun hc=>?_<;>first|exact hc.elim|conv=>whnf)|(refine kB ?_))
 all_goals try unfold Nb at hb
 all_goals try simp only[Bool.false_eq_true,false_or,true_or]at hb
 all_goals first
  |exact AX ⟨hb.1,hb.2.1,hb.2.2.1,hr⟩
  |exact AX ⟨hb.1,hb.2.1,hb.2.2,hr⟩
  |exact Ai fun h=>hr h.2.2.2
  |exact Ai fun h=>hb ⟨h.1,h.2.1,h.2.2.1,trivial⟩
  |exact Ai fun h=>hb ⟨h.1,h.2.1,h.2.2.1⟩
  |trace_state
set_option maxHeartbeats 1000000 in
theorem AaZ {g:GV} (hg:g.ok) {z:Int} (hz:1≤z∧z≤8) {m:Nat} (ih:∀{x:GV},x.ok→Af (Ae tab) 78 [x.av,.int .i64 (z-1)] (· =.bool (decide (VV m x)))):
 Af (Ae tab) 98 [.sl g.nn g.l,.int .i64 z] (· =.bool (decide (g.l.length≤64∧VLi m g.l))):=by
 obtain⟨g1,g2,g3,g4,g5,g6,g7⟩:=hg
 unfold Ln at g4 g5
 refine Ac rfl rfl ?_
 (conv=>whnf);repeat' (first  |(refine kA ?_;conv=>whnf)|(refine Br.mk (fun hc=>?_) fun hc=>?_<;>first|exact hc.elim|conv=>whnf)|(refine kB ?_))
 all_goals first
  |exact Ai fun h=>by have:=h.1;omega
  |(exfalso;omega)
  |skip
 have hl0:g.l.length≤64:=by omega
 refine Aq (fun mm env s=>∃i:Nat,mm=g.l.length-i∧i≤g.l.length∧(∀ j (hj:j<g.l.length),j<i→∃x:GV,g.l[j]=x.av∧VV m x)∧env=[(0,.sl g.nn g.l),(1,.int .i64 z),(5,.int .i64 i)]∧s=⟨[],0⟩) ?_ _ _ _ ⟨0,rfl,by omega,fun j _ hj=>absurd hj (by omega),rfl,rfl⟩
 rintro _ _ _ ⟨i,rfl,hi,hx,rfl,rfl⟩
 refine⟨rfl,?_⟩
 by_cases hlt:i<g.l.length
 ·obtain⟨gx,hgx⟩:=H9 g7 i
  obtain⟨hn,he,hok⟩:=hgx hlt
  (conv=>whnf);repeat' (first|(apply Bq;(· exact hn);conv=>whnf)|(refine BK (ih hok) (fun hr=>?_) (fun hr=>?_)<;>conv=>whnf)|(refine kA ?_;conv=>whnf)|(refine Br.mk (fun hc=>?_) fun hc=>?_<;>first|exact hc.elim|conv=>whnf)|(refine kB ?_))
  all_goals first
   |exact again.mk ⟨_,by omega,i+1,rfl,by omega,Vh hlt he hr hx,rfl,rfl⟩
   |exact Ai fun hh=>by
     obtain⟨x,e,hv⟩:=hh.2 i hlt
     rw[he]at e
     rw[GV.FC e]at hr
     exact hr hv
   |trace_state
 ·rw[show i=g.l.length by omega]at hx
  (conv=>whnf);repeat' (first  |(refine kA ?_;conv=>whnf)|(refine Br.mk (fun hc=>?_) fun hc=>?_<;>first|exact hc.elim|conv=>whnf)|(refine kB ?_))
  exact AX ⟨hl0,fun j hj=>hx j hj hj⟩
theorem v8R {g:GV} (hg:g.ok) (hk:g.k=8) {z:Int} {p:Prop} [Decidable p] (hlist:Af (Ae tab) 98 [.sl g.nn g.l,.int .i64 z] (· =.bool (decide p))):
 Af (Ae tab) 78 [g.av,.int .i64 z] (· =.bool (decide (g.n=0∧g.d=0∧g.s=[]∧p))):=by
 obtain⟨g1,g2,g3,g4,g5,g6,g7⟩:=hg
 unfold Ln at g4 g5
 refine Ac rfl rfl ?_
 (conv=>whnf);repeat' (first|(refine BK (Yd (v:=g) g5) (fun hb=>?_) (fun hb=>?_)<;>conv=>whnf)|(refine BK hlist (fun hr=>?_) (fun hr=>?_)<;>conv=>whnf)|(refine kA ?_;conv=>whnf)|(refine Br.mk (fun hc=>?_) fun hc=>?_<;>first|exact hc.elim|conv=>whnf)|(refine kB ?_))
 all_goals try unfold Nb at hb
 all_goals try simp only[Bool.false_eq_true,false_or,true_or]at hb
 all_goals first
  |exact AX ⟨hb.1,hb.2.1,hb.2.2.1,hr⟩
  |exact AX ⟨hb.1,hb.2.1,hb.2.2,hr⟩
  |exact Ai fun h=>hr h.2.2.2
  |exact Ai fun h=>hb ⟨h.1,h.2.1,h.2.2.1,trivial⟩
  |exact Ai fun h=>hb ⟨h.1,h.2.1,h.2.2.1⟩
  |trace_state
theorem Aa0 {l:List AV} {nn:Bool} (hl:l.length<2^63):Af (Ae tab) 98 [.sl nn l,.int .i64 0] (· =.bool (decide False)):=by
 refine Ac rfl rfl ?_
 (conv=>whnf);repeat' (first  |(refine kA ?_;conv=>whnf)|(refine Br.mk (fun hc=>?_) fun hc=>?_<;>first|exact hc.elim|conv=>whnf)|(refine kB ?_))
 all_goals rfl
theorem Zg:∀(m:Nat),m≤8→∀{g:GV},g.ok→Af (Ae tab) 78 [g.av,.int .i64 (m:Int)] (· =.bool (decide (VV m g))):=by
 intro m
 induction m with
 |zero=>
  intro _ g hg
  by_cases h7:g.k=7
  ·rw[show AV.bool (decide (VV 0 g))=_ from ET (VH h7)]
   exact v7R hg h7
  by_cases h8:g.k=8
  ·rw[show AV.bool (decide (VV 0 g))=AV.bool (decide (g.n=0∧g.d=0∧g.s=[]∧False)) from ET ⟨fun h=>absurd h (Z5 h8),fun h=>h.2.2.2.elim⟩]
   exact v8R hg h8 (Aa0 hg.2.2.2.2.1)
  rw[show AV.bool (decide (VV 0 g))=AV.bool (decide (VB g)) from ET (QE h7 h8)]
  exact vbR hg h7 h8
 |succ m ih=>
  intro hm g hg
  by_cases h7:g.k=7
  ·rw[show AV.bool (decide (VV (m+1) g))=_ from ET (VH h7)]
   exact v7R hg h7
  by_cases h8:g.k=8
  ·rw[show AV.bool (decide (VV (m+1) g))=_ from ET (YO h8)]
   exact v8R hg h8 (AaZ hg (by omega) fun{x} hx=>by
        rw[show ((m+1:Nat):Int)-1=(m:Int) by omega]
        exact ih (by omega) hx)
  rw[show AV.bool (decide (VV (m+1) g))=AV.bool (decide (VB g)) from ET (QE h7 h8)]
  exact vbR hg h7 h8
theorem Ya {g:GV} (hg:g.ok):Af (Ae tab) 62 [g.av] (· =.bool (decide (VV 8 g))):=by
 have h:=Zg 8 (by omega) hg
 refine Ac rfl rfl ?_
 (conv=>whnf);repeat' (first|(refine BK h (fun hr=>?_) (fun hr=>?_)<;>conv=>whnf)|(refine kA ?_;conv=>whnf)|(refine Br.mk (fun hc=>?_) fun hc=>?_<;>first|exact hc.elim|conv=>whnf)|(refine kB ?_))
 all_goals first|exact AX hr|exact Ai hr
def LQ (g:GV):Prop:=VV 8 g∧(g.k=2∨g.k=3)
noncomputable instance (g:GV):Decidable (LQ g):=by unfold LQ;infer_instance
def dn (g:GV):Int:=if g.k=2 then 1 else g.d
theorem KC {g:GV} (h:LQ g):VF g.n (dn g):=by
 obtain⟨hv,hk⟩:=h
 rw[QE (by omega) (by omega)]at hv
 obtain⟨h1,h2⟩:=hv
 unfold dn
 rcases hk with hk|hk
 ·rw[if_pos hk]
  rcases h2 with h|h|h|h|h|h<;>first|(exfalso;omega)|exact⟨by omega,by omega,h.2.1,by simp⟩
 ·rw[if_neg (by omega)]
  rcases h2 with h|h|h|h|h|h<;>first|(exfalso;omega)|exact h.2.2.1
theorem vP {g:GV} (hg:g.ok) (h:VV 8 g):Af (Ae tab) 48 [g.av] (· =.bool true):=by have:=X9 hg;rwa [decide_eq_true h]at this
theorem vPn {g:GV} (hg:g.ok) (h:¬VV 8 g):Af (Ae tab) 48 [g.av] (· =.bool false):=by have:=X9 hg;rwa [decide_eq_false h]at this
theorem vR {g:GV} (hg:g.ok) (h:VV 8 g):Af (Ae tab) 62 [g.av] (· =.bool true):=by have:=Ya hg;rwa [decide_eq_true h]at this
theorem vRn {g:GV} (hg:g.ok) (h:¬VV 8 g):Af (Ae tab) 62 [g.av] (· =.bool false):=by have:=Ya hg;rwa [decide_eq_false h]at this
theorem nP1 {g:GV} (hg:g.ok) (h:LQ g):Af (Ae tab) 59 [g.av] (· =.EG [.agg [.int .i64 g.n,.int .i64 (dn g)],.bool true]):=by
 have hv:=vP hg h.1
 rcases h.2 with hk|hk
 ·have e:dn g=1:=if_pos hk
  rw[e]
  refine Ac rfl rfl ?_
  (conv=>whnf);repeat' (first|(refine Aa hv ?_;rintro _ rfl;conv=>whnf)|(refine kA ?_;conv=>whnf)|(refine Br.mk (fun hc=>?_) fun hc=>?_<;>first|exact hc.elim|conv=>whnf)|(refine kB ?_))
  all_goals first|rfl
 ·have e:dn g=g.d:=if_neg (by omega)
  rw[e]
  refine Ac rfl rfl ?_
  (conv=>whnf);repeat' (first|(refine Aa hv ?_;rintro _ rfl;conv=>whnf)|(refine kA ?_;conv=>whnf)|(refine Br.mk (fun hc=>?_) fun hc=>?_<;>first|exact hc.elim|conv=>whnf)|(refine kB ?_))
  all_goals first|rfl
theorem nR1 {g:GV} (hg:g.ok) (h:LQ g):Af (Ae tab) 67 [g.av] (· =.EG [.agg [.int .i64 g.n,.int .i64 (dn g)],.bool true]):=by
 have hv:=vR hg h.1
 rcases h.2 with hk|hk
 ·have e:dn g=1:=if_pos hk
  rw[e]
  refine Ac rfl rfl ?_
  (conv=>whnf);repeat' (first|(refine Aa hv ?_;rintro _ rfl;conv=>whnf)|(refine kA ?_;conv=>whnf)|(refine Br.mk (fun hc=>?_) fun hc=>?_<;>first|exact hc.elim|conv=>whnf)|(refine kB ?_))
  all_goals first|rfl
 ·have e:dn g=g.d:=if_neg (by omega)
  rw[e]
  refine Ac rfl rfl ?_
  (conv=>whnf);repeat' (first|(refine Aa hv ?_;rintro _ rfl;conv=>whnf)|(refine kA ?_;conv=>whnf)|(refine Br.mk (fun hc=>?_) fun hc=>?_<;>first|exact hc.elim|conv=>whnf)|(refine kB ?_))
  all_goals first|rfl
theorem nR0 {g:GV} (hg:g.ok) (h:¬LQ g):Af (Ae tab) 67 [g.av] (· =.EG [.agg [.int .i64 0,.int .i64 0],.bool false]):=by
 by_cases hV:VV 8 g
 ·have hv:=vR hg hV
  have hk:¬(g.k=2∨g.k=3):=fun hk=>h ⟨hV,hk⟩
  refine Ac rfl rfl ?_
  (conv=>whnf);repeat' (first|(refine Aa hv ?_;rintro _ rfl;conv=>whnf)|(refine kA ?_;conv=>whnf)|(refine Br.mk (fun hc=>?_) fun hc=>?_<;>first|exact hc.elim|conv=>whnf)|(refine kB ?_))
  all_goals first|rfl
 ·have hv:=vRn hg hV
  refine Ac rfl rfl ?_
  (conv=>whnf);repeat' (first|(refine Aa hv ?_;rintro _ rfl;conv=>whnf)|(refine kA ?_;conv=>whnf)|(refine Br.mk (fun hc=>?_) fun hc=>?_<;>first|exact hc.elim|conv=>whnf)|(refine kB ?_))
  all_goals first|rfl
theorem Xx:∀{m k:Nat} {g:GV},m≤k→VV m g→VV k g
 |m,0,g,h,hv=>by obtain rfl:m=0:=by omega
                 exact hv
 |m,k+1,g,h,hv=>by
  rcases Nat.lt_or_ge m (k+1)with h1|h1
  ·exact UR (Xx (by omega) hv)
  ·obtain rfl:m=k+1:=by omega
   exact hv
theorem Acp:Af (Ae tab) 63 [.bool true] (· =.int .i64 2):=⟨_,⟨20,by kernel_rfl⟩,rfl⟩
theorem ZY:Af (Ae tab) 63 [.bool false] (· =.int .i64 0):=⟨_,⟨20,by kernel_rfl⟩,rfl⟩
theorem Acr {a:GV} (h:VV 8 a) (h7:a.k≠7) (h8:a.k≠8):(a.k=4→a.n=0)∧(a.k≠4→a.s=[]):=by
 rw[QE h7 h8]at h
 obtain⟨_,h⟩:=h
 rcases h with h|h|h|h|h|h<;>exact⟨fun hk=>by first|omega|exact h.2.1,fun hk=>by first|exact h.2.2.2|exact h.2.2.2.2|(exfalso;omega)⟩
def isNull (v:GV):Prop:=v.k=0∧v.n=0∧v.d=0∧v.s=[]∧v.l.length=0
instance (v:GV):Decidable (isNull v):=by unfold isNull;infer_instance
def FI (k:Int):Int:=if k=3 then 2 else if k=7 then 9 else k
theorem Xy {v:GV}:Af (Ae tab) 58 [v.av] (· =.int .i64 (FI v.k)):=by
 refine Ac rfl rfl ?_
 (conv=>whnf);repeat' (first  |(refine kA ?_;conv=>whnf)|(refine Br.mk (fun hc=>?_) fun hc=>?_<;>first|exact hc.elim|conv=>whnf)|(refine kB ?_))
 all_goals first|(unfold FI;rw[if_pos (by assumption)];rfl)|(unfold FI;rw[if_neg (by assumption),if_pos (by assumption)];rfl)|(unfold FI;rw[if_neg (by assumption),if_neg (by assumption)];rfl)
section
open Go.Sort
def GH:AV→GV
 | .agg [.int _ k,.int _ n,.int _ d,.str s,.sl nn l]=>⟨k,n,d,s,nn,l⟩
 |_=>⟨0,0,0,[],false,[]⟩
theorem Jv (g:GV):GH g.av=g:=rfl
def dep:Nat→GV→Prop
 |0,_=>False
 |m+1,v=>∀x∈v.l,∃g:GV,x=g.av∧g.ok∧dep m g
def BX (c:AV→AV→Int):List AV→List AV→Int
 |[],[]=>0
 |[],_::_=>-1
 |_::_,[]=>1
 |a::x,b::y=>CP (c a b) (BX c x y)
theorem Oe {c:AV→AV→Int} (hc:PC c):∀x y,BX c y x=-BX c x y
 |[],[]=>rfl
 |[],_::_=>rfl
 |_::_,[]=>rfl
 |a::x,b::y=>by
  have h1:=hc.anti a b
  have h2:=Oe hc x y
  simp only[BX,CP]
  split<;>split<;>omega
theorem MO {c:AV→AV→Int} (hc:PC c):∀x y z,BX c x y≤0→BX c y z≤0→BX c x z≤0
 |[],_,[],_,_=>Int.le_refl 0
 |[],_,_::_,_,_=>by show(-1:Int)≤0;omega
 |_::_,[],_,h,_=>absurd h (by show¬(1:Int)≤0;omega)
 |_::_,_::_,[],_,h=>absurd h (by show¬(1:Int)≤0;omega)
 |a::x,b::y,d::z,h1,h2=>by
  have ih:=MO hc x y z
  have a1:=hc.trans a b d
  have a2:=hc.trans b d a
  have a3:=hc.trans d a b
  have b1:=hc.anti a b
  have b2:=hc.anti b d
  have b3:=hc.anti a d
  simp only[BX,CP]at*
  split at h1<;>split at h2<;>split<;>omega
theorem PC.lists {c:AV→AV→Int} (hc:PC c):PC (BX c):=⟨Oe hc,MO hc⟩
theorem Oc {c:AV→AV→Int} {x y:List AV} {i:Nat} (hx:i<x.length) (hy:i<y.length):BX c (x.drop i) (y.drop i)=CP (c x[i] y[i]) (BX c (x.drop (i+1)) (y.drop (i+1))):=by
 rw[List.drop_eq_getElem_cons hx,List.drop_eq_getElem_cons hy,BX]
def pd (g:GV):Int:=if dn g≤0 then 1 else dn g
def UL (a b:GV):Int:=JC (a.n*pd b-b.n*pd a)
def LD:Nat→GV→GV→Int
 |0,_,_=>0
 |m+1,a,b=>CP (CV (FI a.k) (FI b.k)) (if FI a.k=2 then UL a b else CP (cS a.s b.s) (CP (CV a.n b.n) (BX (fun x y=>LD m (GH x) (GH y)) a.l b.l)))
theorem PC.two {α:Type} {d e:α→α→Int} {p:α→Prop} [DecidablePred p] (hd:PC d) (he:PC e):PC fun x y=>if p x then if p y then d x y else -1 else if p y then 1 else e x y where
 anti x y:=by
  have h2:=hd.anti x y
  have h3:=he.anti x y
  by_cases hx:p x<;>by_cases hy:p y<;>simp only[hx,hy,if_true,if_false]<;>first|assumption|rfl
 trans x y z h1 h2:=by
  have d1:=hd.trans x y z
  have e1:=he.trans x y z
  by_cases hx:p x<;>by_cases hy:p y<;>by_cases hz:p z<;>simp only[hx,hy,hz,if_true,if_false]at* <;>first|exact d1 h1 h2|exact e1 h1 h2|omega
noncomputable def I4:Nat→GV→GV→Int
 |0,_,_=>0
 |m+1,a,b=>if VV 8 a then if VV 8 b then LD (m+1) a b else -1 else if VV 8 b then 1 else
   CP (CV a.k b.k) (CP (CV a.n b.n) (CP (CV a.d b.d) (CP (cS a.s b.s) (BX (fun x y=>I4 m (GH x) (GH y)) a.l b.l))))
end
def J8:Nat→AV→Prop
 |0,_=>False
 |d+1,a=>∃g:GV,a=g.av∧g.ok∧g.s.length≤101000∧g.l.length≤2000∧∀x∈g.l,J8 d x
theorem wei:∀(d:Nat),d≤12→∀{g:GV} (hg:g.ok) {left:Int} (h1:-184467440737095530≤left) (h2:left≤2000),
 Af (Ae tab) 24 [g.av,.int .i64 left,.int .i64 d] (fun v=>∃r,v=.int .i64 r∧-368934881474191048≤r∧r≤1999∧(0≤r→r+1≤left∧J8 d g.av)):=by
 intro d
 induction d with
 |zero=>
  intro _ g hg left h1 h2
  obtain⟨g1,g2,g3,g4,g5,g6,g7⟩:=hg
  unfold Ln at g4 g5
  refine Ac rfl rfl ?_
  (conv=>whnf);repeat' (first|(refine kA ?_;conv=>whnf)|(refine Br.mk (fun hc=>?_) fun hc=>?_<;>first|exact hc.elim|conv=>whnf)|(refine PL (by omega) ?_;conv=>whnf)|(refine kB ?_))
  all_goals exact⟨_,rfl,by omega,by omega,fun h=>absurd h (by omega)⟩
 |succ d ih=>
  intro hd g hg left h1 h2
  obtain⟨g1,g2,g3,g4,g5,g6,g7⟩:=hg
  unfold Ln at g4 g5
  refine Ac rfl rfl ?_
  (conv=>whnf);repeat' (first|(refine kA ?_;conv=>whnf)|(refine Br.mk (fun hc=>?_) fun hc=>?_<;>first|exact hc.elim|conv=>whnf)|(refine PL (by omega) ?_;conv=>whnf)|(refine kB ?_))
  have hw:∀{g:GV} (hg:g.ok) {left:Int} (h1:-184467440737095530≤left) (h2:left≤2000),
        Af (Ae tab) 24 [g.av,.int .i64 left,.int .i64 (((d+1:Nat):Int)-1)] (fun v=>∃r,v=.int .i64 r∧-368934881474191048≤r∧r≤1999∧(0≤r→r+1≤left∧J8 d g.av)):=by
   rw[show ((d+1:Nat):Int)-1=(d:Int) by omega]
   exact ih (by omega)
  refine Aq (fun m env s=>∃(i:Nat) (cur:Int),m=g.l.length-i∧env=[(1,.int .i64 cur),(2,.int .i64 (d+1:Nat)),(3,.ref 0 0 0 0),(7,.int .i64 i)]∧s=⟨[.arr 0 5 true true [g.av]],1⟩∧
   -368934881474191048≤cur∧cur≤1999∧(0≤cur→cur+i+g.s.length / 50+1≤left∧∀x∈g.l.take i,J8 d x)) ?_ _ _ _ ⟨0,_,rfl,rfl,rfl,by omega,by omega,fun h=>⟨by omega,by simp⟩⟩
  rintro _ _ _ ⟨i,cur,rfl,rfl,rfl,b1,b2,hx⟩
  refine⟨rfl,?_⟩
  obtain⟨gx,hgx⟩:=H9 g7 i
  (conv=>whnf);repeat' (first|(refine kA ?_;conv=>whnf)|(refine Br.mk (fun hc=>?_) fun hc=>?_<;>first|exact hc.elim|conv=>whnf)|(apply Bq;(· exact(hgx (by omega)).1);conv=>whnf)|(refine kB ?_))
  ·obtain⟨_,ge,gl⟩:=hgx (by omega)
   refine Aa (hw gl (by omega) (by omega)) ?_
   rintro _ ⟨r,rfl,r1,r2,r3⟩
   (conv=>whnf);repeat' (first|(refine kA ?_;conv=>whnf)|(refine Br.mk (fun hc=>?_) fun hc=>?_<;>first|exact hc.elim|conv=>whnf)  |(refine kB ?_))
   exact again.mk ⟨_,by omega,i+1,r,rfl,rfl,rfl,by omega,by omega,fun h=>⟨by have:=hx (by omega);have:=r3 h;omega,BH (by omega) (hx (by omega)).2 (ge▸(r3 h).2)⟩⟩
  ·exact⟨_,rfl,by omega,by omega,fun h=>absurd h (by omega)⟩
  ·refine⟨_,rfl,by omega,by omega,fun h=>?_⟩
   obtain⟨x1,x2⟩:=hx h
   rw[Ec hc]at x2
   exact⟨by omega,g,rfl,⟨g1,g2,g3,g4,g5,g6,g7⟩,by omega,by omega,x2⟩
def G8:Nat→GV→GV→Prop
 |0,a,b=>(a.k=b.k∧a.n=b.n∧a.d=b.d∧a.s=b.s)∧a.l=[]∧b.l=[]
 |d+1,a,b=>(a.k=b.k∧a.n=b.n∧a.d=b.d∧a.s=b.s)∧a.l.length=b.l.length∧∀i (h:i<a.l.length) (h':i<b.l.length),∃x y:GV,a.l[i]=x.av∧b.l[i]=y.av∧G8 d x y
theorem G8.f {d:Nat} {a b:GV} (h:G8 d a b):a.k=b.k∧a.n=b.n∧a.d=b.d∧a.s=b.s:=by
 cases d<;>exact h.1
theorem G8.len {d:Nat} {a b:GV} (h:G8 d a b):a.l.length=b.l.length:=by
 cases d with
 |zero=>rw[h.2.1,h.2.2]
 |succ d=>exact h.2.1
theorem G8.el {d:Nat} {a b:GV} (h:G8 d a b) {i:Nat} (hi:i<a.l.length) (hi':i<b.l.length):∃d' x y,a.l[i]=x.av∧b.l[i]=y.av∧G8 d' x y∧d=d'+1:=by
 cases d with
 |zero=>rw[h.2.1]at hi;simp at hi
 |succ d=>obtain⟨x,y,e1,e2,e3⟩:=h.2.2 i hi hi';exact⟨d,x,y,e1,e2,e3,rfl⟩
theorem G8.symm:∀{d:Nat} {a b:GV},G8 d a b→G8 d b a
 |0,a,b,h=>⟨⟨h.1.1.symm,h.1.2.1.symm,h.1.2.2.1.symm,h.1.2.2.2.symm⟩,h.2.2,h.2.1⟩
 |d+1,a,b,h=>⟨⟨h.1.1.symm,h.1.2.1.symm,h.1.2.2.1.symm,h.1.2.2.2.symm⟩,h.2.1.symm,fun i hi hi'=>by
   obtain⟨x,y,e1,e2,e3⟩:=h.2.2 i hi' hi
   exact⟨y,x,e2,e1,e3.symm⟩⟩
theorem TP {d:Nat} {a b:GV} (h:G8 d a b):VB a↔VB b:=by
 obtain⟨h1,h2,h3,h4⟩:=h.f
 unfold VB
 rw[h1,h2,h3,h4,h.len]
theorem UJ {d:Nat} {a b:GV} (h:G8 d a b) (hp:UK a.l):UK b.l:=by
 obtain⟨p1,p2,p3⟩:=hp
 have hl:=h.len
 refine⟨by omega,by omega,fun i hi=>?_⟩
 obtain⟨x,e,k,hx⟩:=p3 i (by omega)
 obtain⟨d',u,v,e1,e2,e3,_⟩:=h.el (i:=i) (by omega) hi
 rw[e]at e1
 obtain rfl:=GV.FC e1
 exact⟨v,e2,by rw[← e3.f.1,k],(TP e3).1 hx⟩
theorem WR:∀{m d:Nat} {a b:GV},G8 d a b→VV m a→VV m b:=by
 intro m
 induction m with
 |zero=>
  intro d a b h hv
  obtain⟨h1,h2,h3,h4⟩:=h.f
  rcases hv with hv|⟨k1,k2,k3,k4,k5⟩
  ·exact .inl ((TP h).1 hv)
  ·exact .inr ⟨by omega,by omega,by omega,by rw[← h4];exact k4,UJ h k5⟩
 |succ m ih=>
  intro d a b h hv
  obtain⟨h1,h2,h3,h4⟩:=h.f
  have hl:=h.len
  rcases hv with hv|⟨k1,k2,k3,k4,k5⟩|⟨k1,k2,k3,k4,k5,k6⟩
  ·exact .inl ((TP h).1 hv)
  ·exact .inr (.inl ⟨by omega,by omega,by omega,by rw[← h4];exact k4,UJ h k5⟩)
  ·refine .inr (.inr ⟨by omega,by omega,by omega,by rw[← h4];exact k4,by omega,fun i hi=>?_⟩)
   obtain⟨x,e,hx⟩:=k6 i (by omega)
   obtain⟨d',u,v,e1,e2,e3,_⟩:=h.el (i:=i) (by omega) hi
   rw[e]at e1
   obtain rfl:=GV.FC e1
   exact⟨v,e2,ih e3 hx⟩
theorem YD {m d:Nat} {a b:GV} (h:G8 d a b):VV m a↔VV m b:=⟨WR h,WR h.symm⟩
theorem Qu {c:AV→AV→Int}:∀{l m:List AV},l.length=m.length→(∀ i (h:i<l.length) (h':i<m.length),c l[i] m[i]=0)→BX c l m=0
 |[],[],_,_=>rfl
 |[],_::_,h,_=>by simp at h
 |_::_,[],h,_=>by simp at h
 |a::l,b::m,h,k=>by
  have h0:=k 0 (by simp) (by simp)
  simp only[List.getElem_cons_zero]at h0
  rw[BX,Ep]
  exact⟨h0,Qu (by simpa using h) fun i hi hi'=>by have:=k (i+1) (by simp;omega) (by simp;omega);simpa using this⟩
theorem AbP {z:Int} (h:z=0):JC z=0:=by subst h;rfl
theorem WS:∀{m d:Nat} {a b:GV},G8 d a b→LD m a b=0:=by
 intro m
 induction m with
 |zero=>intro d a b _;rfl
 |succ m ih=>
  intro d a b h
  obtain⟨h1,h2,h3,h4⟩:=h.f
  unfold LD
  rw[Ep]
  refine⟨by rw[Dz,h1],?_⟩
  split
  ·unfold UL
   have e:pd a=pd b:=by unfold pd dn;rw[h1,h3]
   rw[e,h2]
   exact AbP (by omega)
  ·rw[Ep,Ep]
   refine⟨Nr.2 h4,Dz.2 h2,Qu h.len fun i hi hi'=>?_⟩
   obtain⟨d',x,y,e1,e2,e3,_⟩:=h.el hi hi'
   rw[e1,e2,Jv,Jv]
   exact ih e3
theorem UM:∀{m d:Nat} {a b:GV},G8 d a b→I4 m a b=0:=by
 intro m
 induction m with
 |zero=>intro d a b _;rfl
 |succ m ih=>
  intro d a b h
  obtain⟨h1,h2,h3,h4⟩:=h.f
  unfold I4
  have hv:=YD (m:=8) h
  by_cases hA:VV 8 a
  ·rw[if_pos hA,if_pos (hv.1 hA)]
   exact WS h
  ·rw[if_neg hA,if_neg fun k=>hA (hv.2 k)]
   rw[Ep,Ep,Ep,Ep]
   refine⟨Dz.2 h1,Dz.2 h2,Dz.2 h3,Nr.2 h4,Qu h.len fun i hi hi'=>?_⟩
   obtain⟨d',x,y,e1,e2,e3,_⟩:=h.el hi hi'
   rw[e1,e2,Jv,Jv]
   exact ih e3
theorem G8.refl:∀{d:Nat} {a:GV},J8 d a.av→G8 d a a
 |0,_,h=>h.elim
 |d+1,a,h=>by
  obtain⟨g,e,_,_,_,hl⟩:=h
  obtain rfl:=GV.FC e
  refine⟨⟨rfl,rfl,rfl,rfl⟩,rfl,fun i hi _=>?_⟩
  have h2:=hl _ (List.getElem_mem hi)
  cases d with
  |zero=>exact h2.elim
  |succ d=>
   obtain⟨x,e,r⟩:=id h2
   exact⟨x,x,e,e,G8.refl (e▸h2)⟩
section
open Go
theorem Lh {P:Program}:∀{d:Nat} {t:TypeId} {cs:List AV},Bh P d t cs→Bh P (d+1) t cs
 |0,t,cs,h=>by cases h
 |d+1,t,cs,h=>by
  cases hu:P.underlying t with
  |none=>simp only[Bh,hu]at h
  |some u=>
   cases u with
   |slice e=>
    simp only[Bh,hu]at h ⊢
    rcases h with h|⟨xs,h1,h2,h3,h4⟩
    ·exact .inl h
    ·exact .inr ⟨xs,h1,h2,fun x hx=>by obtain⟨cs',a,b⟩:=h3 x hx;exact⟨cs',Lh a,b⟩,h4⟩
   |struct fs=>
    simp only[Bh,hu]at h ⊢
    exact⟨h.1,fun f hf=>Lh (h.2 f hf)⟩
   |array n e=>
    simp only[Bh,hu]at h ⊢
    exact⟨h.1,fun i hi=>Lh (h.2 i hi)⟩
   |_=>simp only[Bh,hu]at h ⊢<;>exact h
theorem Vl {P:Program} {d e:Nat} {t:TypeId} {a:AV} (h:like P d t a) (hd:d≤e):like P e t a:=by
 obtain⟨k,rfl⟩:∃k,e=d+k:=⟨e-d,by omega⟩
 induction k with
 |zero=>exact h
 |succ k ih=>
  obtain⟨cs,h1,h2⟩:=ih (by omega)
  exact⟨cs,Lh h1,h2⟩
theorem Tz {P:Program} {t:TypeId}:∀{l:List AV},(∀ x∈l,Like P t x)→∃d,∀x∈l,like P d t x
 |[],_=>⟨0,fun x h=>by cases h⟩
 |a::l,h=>by
  obtain⟨d,hd⟩:=h a (by simp)
  obtain⟨e,he⟩:=Tz (l:=l) fun x hx=>h x (by simp[hx])
  refine⟨d+e,fun x hx=>?_⟩
  rcases List.mem_cons.1 hx with rfl|hx
  ·exact Vl hd (by omega)
  ·exact Vl (he x hx) (by omega)
theorem wf_i64 {n:Int} (h:I64 n):(Lit.int .i64 n).wf=true:=by
 have h1:IntKind.i64.min=-2^63:=by rfl
 have h2:IntKind.i64.max=2^63-1:=by rfl
 unfold I64 at h
 simp[Lit.wf]
 omega
theorem bvV:Tryz.prog.bytesOf 57=64:=by kernel_rfl
theorem cvi:Tryz.prog.cellsOf 3=1:=by kernel_rfl
theorem cvs:Tryz.prog.cellsOf 9=1:=by kernel_rfl
theorem cvv:Tryz.prog.cellsOf 55=1:=by kernel_rfl
theorem Qj:101000≤maxLen:=by decide
set_option maxRecDepth 20000 in
theorem Yl {v:GV} (h1:I64 v.k) (h2:I64 v.n) (h3:I64 v.d) (h4:v.s.length≤101000) (h5:v.l.length≤2000) (h6:v.nn=false→v.l=[]) (h7:∀x∈v.l,Like Tryz.prog 57 x):Like Tryz.prog 57 v.av:=by
 obtain⟨d,hd⟩:=Tz h7
 have hs:Bh Tryz.prog (d+1) 55 [.sl v.nn v.l]:=by
  simp only[Bh,Tryz.underlying55]
  cases hn:v.nn with
  |false=>rw[h6 hn];exact .inl rfl
  |true=>exact .inr ⟨v.l,rfl,by have:=Qj;omega,fun x hx=>hd x hx,by rw[bvV];show v.l.length*64≤0x7ffffffff000;omega⟩
 refine⟨d+2,[.int .i64 v.k,.int .i64 v.n,.int .i64 v.d,.str v.s,.sl v.nn v.l],?_,by simp only[pack,Tryz.underlying57];rfl⟩
 rw[show d+2=(d+1)+1 from rfl]
 unfold Bh
 rw[Tryz.underlying57]
 refine⟨by rw[QG];rfl,?_⟩
 simp only[List.forall_mem_cons]
 simp only[cvi,cvs,cvv,List.drop_zero,List.drop_succ_cons,List.take_succ_cons,List.take_zero]
 refine⟨?_,?_,?_,?_,hs,by simp⟩
 ·unfold Bh;rw[Tryz.underlying3];exact⟨_,rfl,wf_i64 h1⟩
 ·unfold Bh;rw[Tryz.underlying3];exact⟨_,rfl,wf_i64 h2⟩
 ·unfold Bh;rw[Tryz.underlying3];exact⟨_,rfl,wf_i64 h3⟩
 ·unfold Bh;rw[Tryz.underlying9];exact⟨_,rfl,by have:=Qj;omega⟩
structure CpV (d:Nat) (x y:GV):Prop where
 sim:G8 d x y
 ok:y.ok
 Ab5:J8 d y.av
 lk:Like Tryz.prog 57 y.av
structure CpL (d:Nat) (L M:List AV):Prop where
 len:M.length=L.length
 el:∀i (h:i<L.length) (h':i<M.length),∃x y:GV,L[i]=x.av∧M[i]=y.av∧CpV d x y
theorem CpV.mk' {d:Nat} {x:GV} (hx:J8 (d+1) x.av) {M:List AV} (h:CpL d x.l M):CpV (d+1) x ⟨x.k,x.n,x.d,x.s,decide (0<x.l.length),M⟩:=by
 obtain⟨g,e,hg,h1,h2,h3⟩:=hx
 obtain rfl:=GV.FC e
 obtain⟨o1,o2,o3,o4,o5,o6,o7⟩:=hg
 have hlk:∀y∈M,Like Tryz.prog 57 y:=fun y hy=>by
  obtain⟨i,hi,rfl⟩:=List.getElem_of_mem hy
  obtain⟨a,b,_,e2,hc⟩:=h.el i (by rw[← h.len];exact hi) hi
  rw[e2];exact hc.lk
 have hlt:∀y∈M,J8 d y:=fun y hy=>by
  obtain⟨i,hi,rfl⟩:=List.getElem_of_mem hy
  obtain⟨a,b,_,e2,hc⟩:=h.el i (by rw[← h.len];exact hi) hi
  rw[e2];exact hc.Ab5
 have hnn:decide (0<x.l.length)=false→M=[]:=fun hf=>by
  have:=of_decide_eq_false hf
  exact List.eq_nil_of_length_eq_zero (by rw[h.len];omega)
 have hok:GV.ok ⟨x.k,x.n,x.d,x.s,decide (0<x.l.length),M⟩:=⟨o1,o2,o3,o4,by unfold Ln at *;rw[h.len];exact o5,hnn,hlk⟩
 refine⟨⟨⟨rfl,rfl,rfl,rfl⟩,h.len.symm,fun i hi hi'=>?_⟩,hok,⟨_,rfl,hok,h1,by rw[h.len];exact h2,hlt⟩,Yl o1 o2 o3 h1 (by rw[h.len];exact h2) hnn hlk⟩
 obtain⟨a,b,e1,e2,hc⟩:=h.el i hi hi'
 exact⟨a,b,e1,e2,hc.sim⟩
theorem CpL.snoc {d:Nat} {L M:List AV} {x y:GV} (h:CpL d L M) (hc:CpV d x y):CpL d (L++[x.av]) (M++[y.av]):=by
 refine⟨by simp[h.len],fun i h1 h2=>?_⟩
 by_cases hi:i<L.length
 ·obtain⟨a,b,e1,e2,hc⟩:=h.el i hi (by rw[h.len];exact hi)
  exact⟨a,b,by rw[List.getElem_append_left hi];exact e1,by rw[List.getElem_append_left (by rw[h.len];exact hi)];exact e2,hc⟩
 ·have:i=L.length:=by simp at h1;omega
  subst this
  exact⟨x,y,by simp,by rw[List.getElem_append_right (by rw[h.len];exact Nat.le_refl _)];simp[h.len],hc⟩
end
structure GC where
 op:Int
 id:Int
 fr:Int
 to:Int
 name:List UInt8
 v:GV
def GC.av (c:GC):AV:=.agg [.int .i64 c.op,.int .i64 c.id,.int .i64 c.fr,.int .i64 c.to,.str c.name,.int .i64 c.v.k,.int .i64 c.v.n,.int .i64 c.v.d,.str c.v.s,.sl c.v.nn c.v.l]
def GC.ok (c:GC):Prop:=I64 c.op∧I64 c.id∧I64 c.fr∧I64 c.to∧Ln c.name∧c.v.ok
def ZH (ns:List Int) (N:List GN):List GN:=N.filter fun n=>decide (n.id∉ns)
def ZI (es:List Int) (E:List GE):List GE:=E.filter fun e=>decide (e.id∉es)
def LU (ns es:List Int) (g h:GG):Prop:=ZH ns h.nodes=ZH ns g.nodes∧ZI es h.edges=ZI es g.edges
theorem LU.refl (ns es:List Int) (g:GG):LU ns es g g:=⟨rfl,rfl⟩
theorem LU.trans {ns es:List Int} {g h k:GG} (h1:LU ns es g h) (h2:LU ns es h k):LU ns es g k:=⟨h2.1.trans h1.1,h2.2.trans h1.2⟩
def allNames (l:List (List UInt8)):Prop:=∀s∈l,isName s
noncomputable instance (l:List (List UInt8)):Decidable (allNames l):=Classical.propDecidable _
def rises (l:List (List UInt8)):Prop:=∀j (h:j+1<l.length),(Op.bytesLess l[j+1] l[j]||l[j+1]==l[j])=false
noncomputable instance (l:List (List UInt8)):Decidable (rises l):=Classical.propDecidable _
theorem unn {s:List UInt8} (hl:s.length<2^63):Af (Ae tab) 43 [.str s] (· =.bool (decide (¬ isName s))):=by
 refine Ac rfl rfl ?_
 (conv=>whnf);repeat' (first|(refine kA ?_;conv=>whnf)|(refine Br.mk (fun hc=>?_) fun hc=>?_<;>first|exact hc.elim|conv=>whnf)|(refine BK (name1 hl) (fun hr=>?_) (fun hr=>?_)<;>conv=>whnf)|(refine kB ?_))
 ·exact Ai (fun h=>h hr)
 ·exact AX hr
theorem AbT {l:List (List UInt8)} {nn:Bool} (hl:l.length<2^63) (hs:∀s∈l,s.length<2^63):Af (Ae tab) 56 [.sl nn (vs .str l),.fn 43 []] (fun v=>∃z,v=.int .i64 z∧(0≤z↔¬allNames l)):=by
 refine Ac rfl rfl ?_
 (conv=>whnf);repeat' (first|(refine kA ?_;conv=>whnf)|(refine Br.mk (fun hc=>?_) fun hc=>?_<;>first|exact hc.elim|conv=>whnf)  |(refine kB ?_))
 refine Aq (fun m env s=>∃i:Nat,m=l.length-i∧env=[(0,.sl nn (vs .str l)),(1,.fn 43 []),(7,.int .i64 l.length),(8,.int .i64 i)]∧s=⟨[],0⟩∧∀s∈l.take i,isName s) ?_ _ _ _ ⟨0,rfl,by simp,rfl,by simp⟩
 rintro _ _ _ ⟨i,rfl,rfl,rfl,hx⟩
 refine⟨rfl,?_⟩
 (conv=>whnf);repeat' (first|(refine kA ?_;conv=>whnf)|(refine Br.mk (fun hc=>?_) fun hc=>?_<;>first|exact hc.elim|conv=>whnf)|(refine BK (unn (hs _ (List.getElem_mem (by omega)))) (fun hr=>?_) (fun hr=>?_)<;>conv=>whnf)|(refine kB ?_))
 ·exact⟨_,rfl,fun _ h=>hr (h _ (List.getElem_mem _)),fun _=>by omega⟩
 ·exact again.mk ⟨_,by omega,i+1,rfl,rfl,rfl,BH (by omega) hx (Decidable.of_not_not hr)⟩
 ·rw[Ec hc]at hx;exact⟨_,rfl,fun h=>absurd h (by omega),fun h=>absurd hx h⟩
theorem Xd {l:List (List UInt8)} {nn:Bool} (hl:l.length<2^63) (hs:∀s∈l,s.length<2^63):Af (Ae tab) 42 [.sl nn (vs .str l),.fn 43 []] (· =.bool (decide (¬ allNames l))):=by
 refine Ac rfl rfl ?_
 (conv=>whnf);repeat' (first|(refine kA ?_;conv=>whnf)|(refine Br.mk (fun hc=>?_) fun hc=>?_<;>first|exact hc.elim|conv=>whnf)  |(refine kB ?_))
 refine Aa (AbT hl hs) ?_
 rintro _ ⟨z,rfl,hz⟩
 (conv=>whnf);repeat' (first|(refine kA ?_;conv=>whnf)|(refine Br.mk (fun hc=>?_) fun hc=>?_<;>first|exact hc.elim|conv=>whnf)  |(refine kB ?_))
 ·exact AX (hz.1 hc)
 ·exact Ai (mt hz.2 hc)
theorem Xe {l:List (List UInt8)} {nn:Bool} (hl:l.length<2^63):Af (Ae tab) 44 [.sl nn (vs .str l)] (· =.bool (decide (rises l))):=by
 refine Ac rfl rfl ?_
 (conv=>whnf);repeat' (first|(refine kA ?_;conv=>whnf)|(refine Br.mk (fun hc=>?_) fun hc=>?_<;>first|exact hc.elim|conv=>whnf)  |(refine kB ?_))
 refine Aq (fun m env s=>∃i:Nat,m=l.length-i∧env=[(0,.sl nn (vs .str l)),(3,.int .i64 (i+1:Nat))]∧s=⟨[],0⟩∧∀j (h:j+1<l.length),j<i→(Op.bytesLess l[j+1] l[j]||l[j+1]==l[j])=false) ?_ _ _ _ ⟨0,rfl,rfl,rfl,fun j _ h=>absurd h (by omega)⟩
 rintro _ _ _ ⟨i,rfl,rfl,rfl,hx⟩
 refine⟨rfl,?_⟩
 (conv=>whnf);repeat' (first|(refine kA ?_;conv=>whnf)|(refine Br.mk (fun hc=>?_) fun hc=>?_<;>first|exact hc.elim|conv=>whnf)|(apply Bq;(· exact nVz i (by omega) (by omega));conv=>whnf)|(refine kB ?_))
 ·exact Ai fun h=>by simp only[show (((i+1:Nat):Int)-1).toNat=i by omega]at hc;rw[h i (by omega)]at hc;cases hc
 ·simp only[show (((i+1:Nat):Int)-1).toNat=i by omega]at hc
  exact again.mk ⟨_,by omega,i+1,rfl,rfl,rfl,fun j h hj=>by
   by_cases e:j=i
   ·subst e;simpa using hc
   ·exact hx j h (by omega)⟩
 ·exact AX fun j h=>hx j h (by omega)
theorem Aec {g len:Nat} {nn cl:Bool} {l:List (List UInt8)} {x:List UInt8} {bytes:Nat} {K:Nat→Bool→Bool→List AV→Prop} (hl:len=l.length) (hr:(l.length+1)*bytes≤2 ^ 46) (h:K (len+1) true cl (vs .str (l++[x]))):
 Jt g g 1 1 len nn cl true (vs .str l) [.str x] bytes K:=by
 subst hl
 refine⟨⟨rfl,rfl,by simp,RN rfl,IV hr⟩,?_⟩
 rw[UN,Bool.and_true]
 simpa using h
def keysOf (P:List GP):List (List UInt8):=P.map GP.key
@[simp] theorem OV (P:List GP):(keysOf P).length=P.length:=by simp[keysOf]
theorem V6 {P:List GP} (hp:∀p∈P,p.ok):∀s∈keysOf P,s.length<2^63:=by
 intro s h
 obtain⟨p,h1,rfl⟩:=List.mem_map.1 h
 exact(hp p h1).1
theorem S9 {P:List GP} {i:Nat} (h:i<P.length):keysOf (P.take i)++[(P[i]).key]=keysOf (P.take (i+1)):=by
 rw[List.take_succ_eq_append_getElem h];unfold keysOf;rw[List.map_append];rfl
def allPlain (P:List GP):Prop:=∀p∈P,IQ p.v
noncomputable instance (P:List GP):Decidable (allPlain P):=Classical.propDecidable _
noncomputable def EK (L:List (List UInt8)) (P:List GP):Int:=
 if 8<L.length∨16<P.length then 4 else if¬(allNames L∧allNames (keysOf P))then 6 else if¬(rises L∧rises (keysOf P))then 26 else if¬allPlain P then 8 else 0
theorem Ve {L:List (List UInt8)} {P:List GP} (h:8<L.length∨16<P.length):AV.int .i64 4=AV.int .i64 (EK L P):=by rw[EK,if_pos h]
theorem Vf {L:List (List UInt8)} {P:List GP} (h:¬(8<L.length∨16<P.length)) (h1:¬(allNames L∧allNames (keysOf P))):AV.int .i64 6=AV.int .i64 (EK L P):=by rw[EK,if_neg h,if_pos h1]
theorem Tc {L:List (List UInt8)} {P:List GP} (h:¬(8<L.length∨16<P.length)) (h1:allNames L∧allNames (keysOf P)) (h2:¬(rises L∧rises (keysOf P))):AV.int .i64 26=AV.int .i64 (EK L P):=by rw[EK,if_neg h,if_neg (not_not_intro h1),if_pos h2]
theorem Ze {L:List (List UInt8)} {P:List GP} (h:¬(8<L.length∨16<P.length)) (h1:allNames L∧allNames (keysOf P)) (h2:rises L∧rises (keysOf P)) (h3:¬allPlain P):AV.int .i64 8=AV.int .i64 (EK L P):=by rw[EK,if_neg h,if_neg (not_not_intro h1),if_neg (not_not_intro h2),if_pos h3]
theorem Zf {L:List (List UInt8)} {P:List GP} (h:¬(8<L.length∨16<P.length)) (h1:allNames L∧allNames (keysOf P)) (h2:rises L∧rises (keysOf P)) (h3:allPlain P):AV.int .i64 0=AV.int .i64 (EK L P):=by rw[EK,if_neg h,if_neg (not_not_intro h1),if_neg (not_not_intro h2),if_neg (not_not_intro h3)]
theorem Aed {L:List (List UInt8)} {P:List GP} {ln pn:Bool} (hL:L.length<2^63) (hs:∀s∈L,s.length<2^63) (hP:P.length<2^63) (hp:∀p∈P,p.ok):Af (Ae tab) 30 [.sl ln (vs .str L),.sl pn (vs GP.av P)] (· =.int .i64 (EK L P)):=by
 have hk:=V6 hp
 refine Ac rfl rfl ?_
 (conv=>whnf);repeat' (first|(refine kA ?_;conv=>whnf)|(refine Br.mk (fun hc=>?_) fun hc=>?_<;>first|exact hc.elim|conv=>whnf)  |(refine kB ?_))
 ·exact Ve (by omega)
 ·exact Ve (by omega)
 have h16:¬(8<L.length∨16<P.length):=by omega
 refine Aq (fun m env s=>∃(i g:Nat),m=P.length-i∧i≤P.length∧env=[(0,.sl ln (vs .str L)),(1,.sl pn (vs GP.av P)),(5,.own 0 g 0 i),(18,.sl pn (vs GP.av P)),(19,.int .i64 P.length),(20,.int .i64 i)]∧∃nn c,s=⟨[.arr g 1 nn true (vs .str (keysOf (P.take i)))],c⟩) ?_ _ _ _ ⟨0,0,rfl,by omega,rfl,_,_,rfl⟩
 rintro _ _ _ ⟨i,g,rfl,hi,rfl,nn,c,rfl⟩
 refine⟨rfl,?_⟩
 (conv=>whnf);repeat' (first|(refine kA ?_;conv=>whnf)|(refine Br.mk (fun hc=>?_) fun hc=>?_<;>first|exact hc.elim|conv=>whnf)  |(refine kB ?_))
 ·refine Aec (by simp;omega) (by simp;omega) ?_
  (conv=>whnf);repeat' (first|(refine kA ?_;conv=>whnf)|(refine Br.mk (fun hc=>?_) fun hc=>?_<;>first|exact hc.elim|conv=>whnf)  |(refine kB ?_))
  rw[S9 (by omega)]
  exact again.mk ⟨_,by omega,i+1,_,rfl,by omega,rfl,_,_,rfl⟩
 ·rw[Ec hc]
  obtain rfl:i=P.length:=by omega
  have hu:sub (vs AV.str (keysOf P)) 0 P.length=vs .str (keysOf P):=by rw[← OV P];exact uV
  have hkl:(keysOf P).length<2^63:=by rw[OV];exact hP
  (conv=>whnf);repeat' (first|(refine BK (Xd hL hs) (fun h1=>?_) (fun h1=>?_)<;>conv=>whnf)|(rw [hu];refine BK (Xd hkl hk) (fun h2=>?_) (fun h2=>?_)<;>conv=>whnf)|(refine BK (Xe hL) (fun h3=>?_) (fun h3=>?_)<;>conv=>whnf)|(rw [hu];refine BK (Xe hkl) (fun h4=>?_) (fun h4=>?_)<;>conv=>whnf)|(refine kA ?_;conv=>whnf)|(refine Br.mk (fun hc=>?_) fun hc=>?_<;>first|exact hc.elim|conv=>whnf)|(refine kB ?_))
  ·exact Vf h16 fun h=>h1 h.1
  ·exact Vf h16 fun h=>h2 h.2
  ·refine Aq (fun m env s=>∃(i:Nat),m=P.length-i∧env=[(44,.sl pn (vs GP.av P)),(45,.int .i64 P.length),(46,.int .i64 i)]∧(∃ c,s=⟨[.arr g 1 nn true (vs .str (keysOf P))],c⟩)∧∀p∈P.take i,IQ p.v) ?_ _ _ _ ⟨0,rfl,rfl,⟨_,rfl⟩,by simp⟩
   clear hc hi
   rintro _ _ _ ⟨i,rfl,rfl,⟨c,rfl⟩,hx⟩
   refine⟨rfl,?_⟩
   (conv=>whnf);repeat' (first|(refine BK (Aab (v:=(P[i]).v) (hp _ (List.getElem_mem (by omega))).2) (fun h5=>?_) (fun h5=>?_)<;>conv=>whnf)|(refine kA ?_;conv=>whnf)|(refine Br.mk (fun hc=>?_) fun hc=>?_<;>first|exact hc.elim|conv=>whnf)|(refine kB ?_))
   ·exact again.mk ⟨_,by omega,i+1,rfl,rfl,⟨_,rfl⟩,BH (by omega) hx h5⟩
   ·exact Ze h16 ⟨Classical.not_not.1 h1,Classical.not_not.1 h2⟩ ⟨h3,h4⟩ fun h=>h5 (h _ (List.getElem_mem _))
   ·rw[Ec hc]at hx
    exact Zf h16 ⟨Classical.not_not.1 h1,Classical.not_not.1 h2⟩ ⟨h3,h4⟩ hx
  ·exact Tc h16 ⟨Classical.not_not.1 h1,Classical.not_not.1 h2⟩ fun h=>h4 h.2
  ·exact Tc h16 ⟨Classical.not_not.1 h1,Classical.not_not.1 h2⟩ fun h=>h3 h.1
attribute [irreducible] EK
def incr (l:List Int):Prop:=∀j (h:j+1<l.length),l[j]<l[j+1]
noncomputable instance (l:List Int):Decidable (incr l):=Classical.propDecidable _
def YU (N:List GN):List Int:=N.map GN.id
def AcC (E:List GE):List Int:=E.map GE.id
@[simp] theorem AcD (N:List GN):(YU N).length=N.length:=by simp[YU]
@[simp] theorem AcE (N:List GE):(AcC N).length=N.length:=by simp[AcC]
def LV (f:Nat→Int):Nat→Int
 |0=>0
 |n+1=>if LV f n=0 then f n else LV f n
noncomputable def XG (N:List GN) (nx:Int) (i:Nat):Int:=
 match N[i]? with
 |none=>0
 |some n=>if 0<i∧(∃ m,N[i-1]?=some m∧n.id≤m.id)then 26 else if n.id<1∨nx≤n.id then 1 else EK n.labels n.props
noncomputable def ZJ (N:List GN) (E:List GE) (nx:Int) (i:Nat):Int:=
 match E[i]? with
 |none=>0
 |some e=>if 0<i∧(∃ m,E[i-1]?=some m∧e.id≤m.id)then 26 else if e.id<1∨nx≤e.id then 1 else if¬(e.fr∈YU N∧e.to∈YU N)then 10 else if¬isName e.ty then 6 else EK [] e.props
def XH (g:GG):Prop:=g.nodes.length≤2000∧g.edges.length≤4000
def XI (g:GG):Prop:=1≤g.BA∧g.BA≤1000001∧1≤g.BF∧g.BF≤1000001
instance (g:GG):Decidable (XH g):=by unfold XH;infer_instance
instance (g:GG):Decidable (XI g):=by unfold XI;infer_instance
noncomputable def Aaz (g:GG):Int:=
 if¬XH g then 4 else if¬XI g then 1 else
  if LV (XG g.nodes g.BA) g.nodes.length=0 then LV (ZJ g.nodes g.edges g.BF) g.edges.length else LV (XG g.nodes g.BA) g.nodes.length
attribute [irreducible] XG ZJ Aaz LV
end AI
end Go.Proofs.YtegcpbncohoflaaGreatDoor
