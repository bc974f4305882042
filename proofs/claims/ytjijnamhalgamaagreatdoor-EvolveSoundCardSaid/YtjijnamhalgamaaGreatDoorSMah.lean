/- The reference's bare values and strings. Valid values, exactly: the reference's. Numbers among values. Values equal: the program's way and the reference's. Lists of values equal, and values compared: the program's way and the reference's. The reference looks up nodes and edges. Clones: they read as what was cloned. The program looks up nodes and edges. -/
import Derived.Test.YtjijnamhalgamaaGreatDoorSMaf
import Derived.Test.YtjijnamhalgamaaGreatDoorSMag
import Derived.Test.YtjijnamhalgamaaGreatDoorBMaa
import Derived.Test.YtjijnamhalgamaaGreatDoorSMad
import Derived.Test.YtjijnamhalgamaaGreatDoorSMae
set_option linter.unusedVariables false
set_option maxRecDepth 4000
namespace Go.Proofs.YtjijnamhalgamaaGreatDoor
namespace AI
def Pq (v:GV) (n d s l:Bool):Prop:=(n=true∨v.n=0)∧(d=true∨v.d=0)∧(s=true∨v.s=[])∧(l=true∨v.l.length=0)
instance (v:GV) (n d s l:Bool):Decidable (Pq v n d s l):=by unfold Pq;infer_instance
theorem AaD {v:GV} {n d s l:Bool} (hl:v.l.length<2^63):Ae (Ad tab) 225 [v.av,.bool n,.bool d,.bool s,.bool l] (· =.bool (decide (Pq v n d s l))):=by
 cases n<;>cases d<;>cases s<;>cases l
 all_goals
  refine Ac rfl rfl ?_
  (conv=>whnf);repeat' (first|((first|refine kA ?_|(apply Br.mk<;>intro hc))<;>first|exact hc.elim|conv=>whnf)|refine kB ?_)
 all_goals first
  |(refine Bd ?_;unfold Pq;refine⟨?_,?_,?_,?_⟩<;>first|(left;rfl)|(right;first|assumption|omega))
  |(refine Au ?_;unfold Pq;rintro⟨h1,h2,h3,h4⟩;simp only[Bool.false_eq_true,false_or,true_or]at h1 h2 h3 h4;first|contradiction|omega)
theorem Al3 {s:List UInt8} (hl:s.length<2^63):Ae (Ad tab) 227 [.str s] (· =.bool (decide (okS s))):=by
 refine Ac rfl rfl ?_
 (conv=>whnf);repeat' (first|((first|refine kA ?_|(apply Br.mk<;>intro hc))<;>first|exact hc.elim|conv=>whnf)|refine kB ?_)
 refine Ag (fun m env s'=>∃i:Nat,m=s.length-i∧env=[(0,.str s),(3,.int .i64 i)]∧s'=⟨[],0⟩∧∀c∈s.take i,OW c=false) ?_ _ _ _ ⟨0,rfl,rfl,rfl,by simp⟩
 rintro _ _ _ ⟨i,rfl,rfl,rfl,hx⟩
 refine⟨rfl,?_⟩
 (conv=>whnf);repeat' (first|((first|refine kA ?_|(apply Br.mk<;>intro hc))<;>first|exact hc.elim|conv=>whnf)|refine kB ?_)
 all_goals first
  |exact again.mk ⟨_,by omega,i+1,rfl,rfl,rfl,Bl (by omega) hx (by unfold OW;simp;omega)⟩
  |(refine Au fun h=>?_;have:=h.2 s[i] (List.getElem_mem (by omega));unfold OW at this;simp at this;omega)
  |(rw [List.take_of_length_le (by omega)]at hx;exact Bd ⟨by omega,hx⟩)
  |(refine Au fun h=>?_;have:=h.1;omega)
set_option maxHeartbeats 1000000 in
theorem vbR {g:GV} (hg:g.ok) (h7:g.k≠7) (h8:g.k≠8) {n:Int}:Ae (Ad tab) 154 [g.av,.int .i64 n] (· =.bool (decide (VB g))):=by
 obtain⟨g1,g2,g3,g4,g5,g6,g7⟩:=hg
 unfold Ln at g4 g5
 refine Ac rfl rfl ?_
 (conv=>whnf);repeat' (first|((first|refine Aq (AaD (v:=g) g5) (fun hb=>?_) (fun hb=>?_)|refine Aq (Al2 (n:=g.n)) (fun hr=>?_) (fun hr=>?_)|refine Aq (fvR (n:=g.n) (d:=g.d)) (fun hr=>?_) (fun hr=>?_)|refine Aq (Al3 (s:=g.s) g4) (fun hr=>?_) (fun hr=>?_)|refine kA ?_|(apply Br.mk<;>intro hc))<;>first|exact hc.elim|conv=>whnf)|refine kB ?_)
 all_goals clear g7 g6
 all_goals try unfold Pq at hb
 all_goals try simp only[Bool.false_eq_true,false_or,true_or]at hb
 all_goals first
  |(refine Bd ?_;unfold VB;first|(simp_all;done)|(simp_all;omega))
  |(refine Au fun h=>hb ?_;obtain⟨h0,h⟩:=h;rcases h with h|h|h|h|h|h<;>first|(exfalso;omega)|(simp_all;done)|(simp_all;omega)|(refine ⟨?_,?_,?_,?_⟩<;>first|omega|simp_all))
  |(refine Au ?_;unfold VB;first|(simp_all;done)|(simp_all;omega))
  |trace_state
set_option maxHeartbeats 1000000 in
theorem AjM {l:List AV} {nn:Bool} (hl:l.length<2^63) (h:∀x∈l,Like Tryz.prog 42 x):Ae (Ad tab) 228 [.sl nn l] (· =.bool (decide (VPa l))):=by
 have htm:(l.length:Int).tmod 2=(l.length:Int) % 2:=Int.tmod_eq_emod_of_nonneg (by omega)
 by_cases hlen:l.length % 2=1∧l.length≤25
 ·obtain⟨hl1,hl2⟩:=hlen
  refine Ac rfl rfl ?_
  (conv=>whnf);repeat' (first|((first|refine kA ?_|(apply Br.mk<;>intro hc))<;>first|exact hc.elim|conv=>whnf)|refine kB ?_)
  refine Ag (fun m env s=>∃i:Nat,m=l.length-i∧i≤l.length∧(∀ j (hj:j<l.length),j<i→∃x:GV,l[j]=x.av∧x.k=5+(j:Int) % 2∧VB x)∧env=[(0,.sl nn l),(3,.int .i64 i)]∧s=⟨[],0⟩) ?_ _ _ _ ⟨0,rfl,by omega,fun j _ hj=>absurd hj (by omega),rfl,rfl⟩
  rintro _ _ _ ⟨i,rfl,hi,hx,rfl,rfl⟩
  refine⟨rfl,?_⟩
  by_cases hlt:i<l.length
  ·obtain⟨gx,hgx⟩:=DX h i
   obtain⟨hn,he,hok⟩:=hgx hlt
   have hno:¬(gx.k=5+(i:Int) % 2∧VB gx)→¬VPa l:=fun hh hv=>by
        obtain⟨x,e,hx2⟩:=hv.2.2 i hlt
        rw[he]at e
        rw[GV.JV e]at hh
        exact hh hx2
   have h2:(i:Int).tmod 2=(i:Int) % 2:=Int.tmod_eq_emod_of_nonneg (by omega)
   (conv=>whnf);repeat' (first|((first|(apply Af;(· exact hn))|refine Aq (vbR (g:=gx) hok (by omega) (by omega) (n:=0)) (fun hr=>?_) (fun hr=>?_)|refine kA ?_|(apply Br.mk<;>intro hc))<;>first|exact hc.elim|conv=>whnf)|refine kB ?_)
   all_goals first
        |exact again.mk ⟨_,by omega,i+1,rfl,by omega,XP hlt he (by omega) hr hx,rfl,rfl⟩
        |exact Au (hno fun hh=>by have:=hh.1;omega)
        |exact Au (hno fun hh=>hr hh.2)
        |trace_state
  ·rw[show i=l.length by omega]at hx
   (conv=>whnf);repeat' (first|((first|refine kA ?_|(apply Br.mk<;>intro hc))<;>first|exact hc.elim|conv=>whnf)|refine kB ?_)
   exact Bd ⟨hl1,hl2,fun j hj=>hx j hj hj⟩
 ·have hno:¬VPa l:=fun hv=>hlen ⟨hv.1,hv.2.1⟩
  refine Ac rfl rfl ?_
  (conv=>whnf);repeat' (first|((first|refine kA ?_|(apply Br.mk<;>intro hc))<;>first|exact hc.elim|conv=>whnf)|refine kB ?_)
  all_goals first|exact Au hno|(exfalso;omega)|trace_state
theorem v7R {g:GV} (hg:g.ok) (hk:g.k=7) {n:Int}:Ae (Ad tab) 154 [g.av,.int .i64 n] (· =.bool (decide (g.n=0∧g.d=0∧g.s=[]∧VPa g.l))):=by
 obtain⟨g1,g2,g3,g4,g5,g6,g7⟩:=hg
 unfold Ln at g4 g5
 refine Ac rfl rfl ?_
 (conv=>whnf);repeat' (first|((first|refine Aq (AaD (v:=g) g5) (fun hb=>?_) (fun hb=>?_)|refine Aq (AjM (l:=g.l) (nn:=g.nn) g5 g7) (fun hr=>?_) (fun hr=>?_)|refine kA ?_|(apply Br.mk<;>intro hc))<;>first|exact hc.elim|conv=>whnf)|refine kB ?_)
 all_goals try unfold Pq at hb
 all_goals try simp only[Bool.false_eq_true,false_or,true_or]at hb
 all_goals first
  |exact Bd ⟨hb.1,hb.2.1,hb.2.2.1,hr⟩
  |exact Bd ⟨hb.1,hb.2.1,hb.2.2,hr⟩
  |exact Au fun h=>hr h.2.2.2
  |exact Au fun h=>hb ⟨h.1,h.2.1,h.2.2.1,trivial⟩
  |exact Au fun h=>hb ⟨h.1,h.2.1,h.2.2.1⟩
  |trace_state
set_option maxHeartbeats 1000000 in
theorem AjN {g:GV} (hg:g.ok) {z:Int} (hz:1≤z∧z≤8) {m:Nat} (ih:∀{x:GV},x.ok→Ae (Ad tab) 154 [x.av,.int .i64 (z-1)] (· =.bool (decide (VV m x)))):
 Ae (Ad tab) 229 [.sl g.nn g.l,.int .i64 z] (· =.bool (decide (g.l.length≤64∧VLi m g.l))):=by
 obtain⟨g1,g2,g3,g4,g5,g6,g7⟩:=hg
 unfold Ln at g4 g5
 refine Ac rfl rfl ?_
 (conv=>whnf);repeat' (first|((first|refine kA ?_|(apply Br.mk<;>intro hc))<;>first|exact hc.elim|conv=>whnf)|refine kB ?_)
 all_goals first
  |exact Au fun h=>by have:=h.1;omega
  |(exfalso;omega)
  |skip
 have hl0:g.l.length≤64:=by omega
 refine Ag (fun mm env s=>∃i:Nat,mm=g.l.length-i∧i≤g.l.length∧(∀ j (hj:j<g.l.length),j<i→∃x:GV,g.l[j]=x.av∧VV m x)∧env=[(0,.sl g.nn g.l),(1,.int .i64 z),(5,.int .i64 i)]∧s=⟨[],0⟩) ?_ _ _ _ ⟨0,rfl,by omega,fun j _ hj=>absurd hj (by omega),rfl,rfl⟩
 rintro _ _ _ ⟨i,rfl,hi,hx,rfl,rfl⟩
 refine⟨rfl,?_⟩
 by_cases hlt:i<g.l.length
 ·obtain⟨gx,hgx⟩:=DX g7 i
  obtain⟨hn,he,hok⟩:=hgx hlt
  (conv=>whnf);repeat' (first|((first|(apply Af;(· exact hn))|refine Aq (ih hok) (fun hr=>?_) (fun hr=>?_)|refine kA ?_|(apply Br.mk<;>intro hc))<;>first|exact hc.elim|conv=>whnf)|refine kB ?_)
  all_goals first
   |exact again.mk ⟨_,by omega,i+1,rfl,by omega,AaE hlt he hr hx,rfl,rfl⟩
   |exact Au fun hh=>by
     obtain⟨x,e,hv⟩:=hh.2 i hlt
     rw[he]at e
     rw[GV.JV e]at hr
     exact hr hv
   |trace_state
 ·rw[show i=g.l.length by omega]at hx
  (conv=>whnf);repeat' (first|((first|refine kA ?_|(apply Br.mk<;>intro hc))<;>first|exact hc.elim|conv=>whnf)|refine kB ?_)
  exact Bd ⟨hl0,fun j hj=>hx j hj hj⟩
theorem v8R {g:GV} (hg:g.ok) (hk:g.k=8) {z:Int} {p:Prop} [Decidable p] (hlist:Ae (Ad tab) 229 [.sl g.nn g.l,.int .i64 z] (· =.bool (decide p))):
 Ae (Ad tab) 154 [g.av,.int .i64 z] (· =.bool (decide (g.n=0∧g.d=0∧g.s=[]∧p))):=by
 obtain⟨g1,g2,g3,g4,g5,g6,g7⟩:=hg
 unfold Ln at g4 g5
 refine Ac rfl rfl ?_
 (conv=>whnf);repeat' (first|((first|refine Aq (AaD (v:=g) g5) (fun hb=>?_) (fun hb=>?_)|refine Aq hlist (fun hr=>?_) (fun hr=>?_)|refine kA ?_|(apply Br.mk<;>intro hc))<;>first|exact hc.elim|conv=>whnf)|refine kB ?_)
 all_goals try unfold Pq at hb
 all_goals try simp only[Bool.false_eq_true,false_or,true_or]at hb
 all_goals first
  |exact Bd ⟨hb.1,hb.2.1,hb.2.2.1,hr⟩
  |exact Bd ⟨hb.1,hb.2.1,hb.2.2,hr⟩
  |exact Au fun h=>hr h.2.2.2
  |exact Au fun h=>hb ⟨h.1,h.2.1,h.2.2.1,trivial⟩
  |exact Au fun h=>hb ⟨h.1,h.2.1,h.2.2.1⟩
  |trace_state
theorem AjO {l:List AV} {nn:Bool} (hl:l.length<2^63):Ae (Ad tab) 229 [.sl nn l,.int .i64 0] (· =.bool (decide False)):=by
 refine Ac rfl rfl ?_
 (conv=>whnf);repeat' (first|((first|refine kA ?_|(apply Br.mk<;>intro hc))<;>first|exact hc.elim|conv=>whnf)|refine kB ?_)
 all_goals rfl
theorem Agt:∀(m:Nat),m≤8→∀{g:GV},g.ok→Ae (Ad tab) 154 [g.av,.int .i64 (m:Int)] (· =.bool (decide (VV m g))):=by
 intro m
 induction m with
 |zero=>
  intro _ g hg
  by_cases h7:g.k=7
  ·rw[show AV.bool (decide (VV 0 g))=_ from GY (XQ h7)]
   exact v7R hg h7
  by_cases h8:g.k=8
  ·rw[show AV.bool (decide (VV 0 g))=AV.bool (decide (g.n=0∧g.d=0∧g.s=[]∧False)) from GY ⟨fun h=>absurd h (AdF h8),fun h=>h.2.2.2.elim⟩]
   exact v8R hg h8 (AjO hg.2.2.2.2.1)
  rw[show AV.bool (decide (VV 0 g))=AV.bool (decide (VB g)) from GY (Zh h7 h8)]
  exact vbR hg h7 h8
 |succ m ih=>
  intro hm g hg
  by_cases h7:g.k=7
  ·rw[show AV.bool (decide (VV (m+1) g))=_ from GY (XQ h7)]
   exact v7R hg h7
  by_cases h8:g.k=8
  ·rw[show AV.bool (decide (VV (m+1) g))=_ from GY (Agu h8)]
   exact v8R hg h8 (AjN hg (by omega) fun{x} hx=>by
        rw[show ((m+1:Nat):Int)-1=(m:Int) by omega]
        exact ih (by omega) hx)
  rw[show AV.bool (decide (VV (m+1) g))=AV.bool (decide (VB g)) from GY (Zh h7 h8)]
  exact vbR hg h7 h8
theorem AdG {g:GV} (hg:g.ok):Ae (Ad tab) 90 [g.av] (· =.bool (decide (VV 8 g))):=by
 have h:=Agt 8 (by omega) hg
 refine Ac rfl rfl ?_
 (conv=>whnf);repeat' (first|((first|refine Aq h (fun hr=>?_) (fun hr=>?_)|refine kA ?_|(apply Br.mk<;>intro hc))<;>first|exact hc.elim|conv=>whnf)|refine kB ?_)
 all_goals first|exact Bd hr|exact Au hr
def JW (g:GV):Prop:=VV 8 g∧(g.k=2∨g.k=3)
noncomputable instance (g:GV):Decidable (JW g):=by unfold JW;infer_instance
def dn (g:GV):Int:=if g.k=2 then 1 else g.d
theorem RG {g:GV} (h:JW g):VF g.n (dn g):=by
 obtain⟨hv,hk⟩:=h
 rw[Zh (by omega) (by omega)]at hv
 obtain⟨h1,h2⟩:=hv
 unfold dn
 rcases hk with hk|hk
 ·rw[if_pos hk]
  rcases h2 with h|h|h|h|h|h<;>first|(exfalso;omega)|exact⟨by omega,by omega,h.2.1,by simp⟩
 ·rw[if_neg (by omega)]
  rcases h2 with h|h|h|h|h|h<;>first|(exfalso;omega)|exact h.2.2.1
theorem vP {g:GV} (hg:g.ok) (h:VV 8 g):Ae (Ad tab) 162 [g.av] (· =.bool true):=by have:=Wv hg;rwa [decide_eq_true h]at this
theorem vPn {g:GV} (hg:g.ok) (h:¬VV 8 g):Ae (Ad tab) 162 [g.av] (· =.bool false):=by have:=Wv hg;rwa [decide_eq_false h]at this
theorem vR {g:GV} (hg:g.ok) (h:VV 8 g):Ae (Ad tab) 90 [g.av] (· =.bool true):=by have:=AdG hg;rwa [decide_eq_true h]at this
theorem vRn {g:GV} (hg:g.ok) (h:¬VV 8 g):Ae (Ad tab) 90 [g.av] (· =.bool false):=by have:=AdG hg;rwa [decide_eq_false h]at this
theorem nP1 {g:GV} (hg:g.ok) (h:JW g):Ae (Ad tab) 236 [g.av] (· =.BD [.agg [.int .i64 g.n,.int .i64 (dn g)],.bool true]):=by
 have hv:=vP hg h.1
 rcases h.2 with hk|hk
 ·have e:dn g=1:=if_pos hk
  rw[e]
  refine Ac rfl rfl ?_
  (conv=>whnf);repeat' (first|((first|refine kE hv ?_|refine kA ?_|(apply Br.mk<;>intro hc))<;>first|exact hc.elim|conv=>whnf)|refine kB ?_)
  all_goals first|rfl
 ·have e:dn g=g.d:=if_neg (by omega)
  rw[e]
  refine Ac rfl rfl ?_
  (conv=>whnf);repeat' (first|((first|refine kE hv ?_|refine kA ?_|(apply Br.mk<;>intro hc))<;>first|exact hc.elim|conv=>whnf)|refine kB ?_)
  all_goals first|rfl
theorem nP0 {g:GV} (hg:g.ok) (h:¬JW g):Ae (Ad tab) 236 [g.av] (· =.BD [.agg [.int .i64 0,.int .i64 0],.bool false]):=by
 by_cases hk:g.k=2∨g.k=3
 ·have hv:=vPn hg (fun hv=>h ⟨hv,hk⟩)
  refine Ac rfl rfl ?_
  (conv=>whnf);repeat' (first|((first|refine kE hv ?_|refine kA ?_|(apply Br.mk<;>intro hc))<;>first|exact hc.elim|conv=>whnf)|refine kB ?_)
  all_goals first|rfl
 ·refine Ac rfl rfl ?_
  (conv=>whnf);repeat' (first|((first|refine kA ?_|(apply Br.mk<;>intro hc))<;>first|exact hc.elim|conv=>whnf)|refine kB ?_)
  all_goals first|rfl
theorem nR1 {g:GV} (hg:g.ok) (h:JW g):Ae (Ad tab) 95 [g.av] (· =.BD [.agg [.int .i64 g.n,.int .i64 (dn g)],.bool true]):=by
 have hv:=vR hg h.1
 rcases h.2 with hk|hk
 ·have e:dn g=1:=if_pos hk
  rw[e]
  refine Ac rfl rfl ?_
  (conv=>whnf);repeat' (first|((first|refine kE hv ?_|refine kA ?_|(apply Br.mk<;>intro hc))<;>first|exact hc.elim|conv=>whnf)|refine kB ?_)
  all_goals first|rfl
 ·have e:dn g=g.d:=if_neg (by omega)
  rw[e]
  refine Ac rfl rfl ?_
  (conv=>whnf);repeat' (first|((first|refine kE hv ?_|refine kA ?_|(apply Br.mk<;>intro hc))<;>first|exact hc.elim|conv=>whnf)|refine kB ?_)
  all_goals first|rfl
theorem nR0 {g:GV} (hg:g.ok) (h:¬JW g):Ae (Ad tab) 95 [g.av] (· =.BD [.agg [.int .i64 0,.int .i64 0],.bool false]):=by
 by_cases hV:VV 8 g
 ·have hv:=vR hg hV
  have hk:¬(g.k=2∨g.k=3):=fun hk=>h ⟨hV,hk⟩
  refine Ac rfl rfl ?_
  (conv=>whnf);repeat' (first|((first|refine kE hv ?_|refine kA ?_|(apply Br.mk<;>intro hc))<;>first|exact hc.elim|conv=>whnf)|refine kB ?_)
  all_goals first|rfl
 ·have hv:=vRn hg hV
  refine Ac rfl rfl ?_
  (conv=>whnf);repeat' (first|((first|refine kE hv ?_|refine kA ?_|(apply Br.mk<;>intro hc))<;>first|exact hc.elim|conv=>whnf)|refine kB ?_)
  all_goals first|rfl
theorem Nc:∀{m k:Nat} {g:GV},m≤k→VV m g→VV k g
 |m,0,g,h,hv=>by obtain rfl:m=0:=by omega
                 exact hv
 |m,k+1,g,h,hv=>by
  rcases Nat.lt_or_ge m (k+1)with h1|h1
  ·exact AaF (Nc (by omega) hv)
  ·obtain rfl:m=k+1:=by omega
   exact hv
theorem AjU:Ae (Ad tab) 91 [.bool true] (· =.int .i64 2):=⟨_,⟨20,by kernel_rfl⟩,rfl⟩
theorem AdX:Ae (Ad tab) 91 [.bool false] (· =.int .i64 0):=⟨_,⟨20,by kernel_rfl⟩,rfl⟩
theorem Aiu {a:GV} (h:VV 8 a) (h7:a.k≠7) (h8:a.k≠8):(a.k=4→a.n=0)∧(a.k≠4→a.s=[]):=by
 rw[Zh h7 h8]at h
 obtain⟨_,h⟩:=h
 rcases h with h|h|h|h|h|h<;>exact⟨fun hk=>by first|omega|exact h.2.1,fun hk=>by first|exact h.2.2.2|exact h.2.2.2.2|(exfalso;omega)⟩
def tv (p:Prop) [Decidable p]:Int:=if p then 2 else 0
theorem Ait (p:Prop) [Decidable p]:0≤tv p∧tv p≤2:=by unfold tv;split<;>omega
theorem AdT {p q:Prop} [Decidable p] [Decidable q] (h:p↔q):tv p=tv q:=by
 unfold tv
 by_cases hp:p
 ·rw[if_pos hp,if_pos (h.1 hp)]
 ·rw[if_neg hp,if_neg (fun hq=>hp (h.2 hq))]
theorem tvT {p:Prop} [Decidable p] (h:p):AV.int .i64 2=.int .i64 (tv p):=by unfold tv;rw[if_pos h]
theorem tvF {p:Prop} [Decidable p] (h:¬p):AV.int .i64 0=.int .i64 (tv p):=by unfold tv;rw[if_neg h]
theorem AdU:Ae (Ad tab) 310 [.bool true] (· =.int .i64 2):=⟨_,⟨20,by kernel_rfl⟩,rfl⟩
theorem AdV:Ae (Ad tab) 310 [.bool false] (· =.int .i64 0):=⟨_,⟨20,by kernel_rfl⟩,rfl⟩
theorem Aot {a b c d:Int}:Uy (.flat [.int,.int]) (.agg [.int .i64 a,.int .i64 b]) (.agg [.int .i64 c,.int .i64 d])=some (decide (a=c∧b=d)):=by
 have e:∀z z':Int,(z==z')=decide (z=z'):=fun z z'=>by by_cases h:z=z'<;>simp[h]
 by_cases h1:a=c<;>by_cases h2:b=d<;>simp[Uy,Jg,Dh,e,h1,h2]
theorem Nv {a b:GV} (ha:a.ok) (hb:b.ok) (va:VV 8 a) (vb:VV 8 b) (hab:a.k=b.k→a.k≠7∧a.k≠8):
 ∃e:Int,(0≤e∧e≤2)∧Ae (Ad tab) 291 [a.av,b.av] (· =.int .i64 e)∧Ae (Ad tab) 222 [a.av,b.av] (· =.int .i64 e):=by
 have r1:=vR ha va
 have r2:=vR hb vb
 by_cases h0:a.k=0∨b.k=0
 ·refine⟨1,by omega,?_,?_⟩
  ·refine Ac rfl rfl ?_
   (conv=>whnf);repeat' (first|((first|refine kA ?_|(apply Br.mk<;>intro hc))<;>first|exact hc.elim|conv=>whnf)|refine kB ?_)
   all_goals first|rfl
  ·refine Ac rfl rfl ?_
   (conv=>whnf);repeat' (first|((first|refine kA ?_|(apply Br.mk<;>intro hc))<;>first|exact hc.elim|conv=>whnf)|refine kB ?_)
   all_goals first|rfl
 by_cases hn:JW a∧JW b
 ·refine⟨tv (a.n=b.n∧dn a=dn b),Ait _,?_,?_⟩
  ·have p1:=nP1 ha hn.1
   have p2:=nP1 hb hn.2
   refine Ac rfl rfl ?_
   (conv=>whnf);repeat' (first|((first|refine kE p1 ?_|refine kE p2 ?_|refine kE AdU ?_|refine kE AdV ?_|refine Aj (congrArg (Option.map AV.bool) Aot) ?_|refine kA ?_|(apply Br.mk<;>intro hc))<;>first|exact hc.elim|conv=>whnf)|refine kB ?_)
   all_goals first|exact tvT (of_decide_eq_true (by assumption))|exact tvF (of_decide_eq_false (by assumption))
  ·have p1:=nR1 ha hn.1
   have p2:=nR1 hb hn.2
   have p3:=Amu (RG hn.1) (RG hn.2)
   have hf:=AdW (RG hn.1) (RG hn.2)
   refine Ac rfl rfl ?_
   (conv=>whnf);repeat' (first|((first|refine kE p1 ?_|refine kE p2 ?_|refine kE p3 ?_|refine kE r1 ?_|refine kE r2 ?_|refine kE AjU ?_|refine kE AdX ?_|refine kA ?_|(apply Br.mk<;>intro hc))<;>first|exact hc.elim|conv=>whnf)|refine kB ?_)
   all_goals first|exact tvT (hf.1 (by assumption))|exact tvF (fun h=>absurd (hf.2 h) (by assumption))
 by_cases hk:a.k=b.k
 ·obtain⟨h7,h8⟩:=hab hk
  have n1:¬JW a:=fun h=>hn ⟨h,vb,by have:=h.2;omega⟩
  have n2:¬JW b:=fun h=>hn ⟨⟨va,by have:=h.2;omega⟩,h⟩
  have h23:a.k≠2∧a.k≠3:=⟨fun h=>n1 ⟨va,.inl h⟩,fun h=>n1 ⟨va,.inr h⟩⟩
  obtain⟨ka1,ka2⟩:=Aiu va h7 h8
  obtain⟨kb1,kb2⟩:=Aiu vb (by omega) (by omega)
  refine⟨tv (a.n=b.n∧a.s=b.s),Ait _,?_,?_⟩
  ·have p1:=nP0 ha n1
   have p2:=nP0 hb n2
   refine Ac rfl rfl ?_
   (conv=>whnf);repeat' (first|((first|refine kE p1 ?_|refine kE p2 ?_|refine kE AdU ?_|refine kE AdV ?_|refine kA ?_|(apply Br.mk<;>intro hc))<;>first|exact hc.elim|conv=>whnf)|refine kB ?_)
   all_goals first|exact tvT ⟨by assumption,by assumption⟩|exact tvF (fun h=>absurd h.1 (by assumption))|exact tvF (fun h=>absurd h.2 (by assumption))
  ·have p1:=nR0 ha n1
   have p2:=nR0 hb n2
   by_cases h4:a.k=4
   ·rw[AdT (q:=a.s=b.s) ⟨fun h=>h.2,fun h=>⟨by rw[ka1 h4,kb1 (by omega)],h⟩⟩]
    refine Ac rfl rfl ?_
    (conv=>whnf);repeat' (first|((first|refine kE p1 ?_|refine kE p2 ?_|refine kE r1 ?_|refine kE r2 ?_|refine kE AjU ?_|refine kE AdX ?_|refine kA ?_|(apply Br.mk<;>intro hc))<;>first|exact hc.elim|conv=>whnf)|refine kB ?_)
    all_goals first|exact tvT (by assumption)|exact tvF (by assumption)
   ·rw[AdT (q:=a.n=b.n) ⟨fun h=>h.1,fun h=>⟨h,by rw[ka2 h4,kb2 (by omega)]⟩⟩]
    refine Ac rfl rfl ?_
    (conv=>whnf);repeat' (first|((first|refine kE p1 ?_|refine kE p2 ?_|refine kE r1 ?_|refine kE r2 ?_|refine kE AjU ?_|refine kE AdX ?_|refine kA ?_|(apply Br.mk<;>intro hc))<;>first|exact hc.elim|conv=>whnf)|refine kB ?_)
    all_goals first|exact tvT (by assumption)|exact tvF (by assumption)
 ·refine⟨0,by omega,?_,?_⟩
  ·obtain⟨x1,y1,b1,e1,p1⟩:∃x y t,(JW a↔t=true)∧Ae (Ad tab) 236 [a.av] (· =.BD [.agg [.int .i64 x,.int .i64 y],.bool t]):=by
        by_cases h:JW a
        ·exact⟨_,_,true,by simp[h],nP1 ha h⟩
        ·exact⟨_,_,false,by simp[h],nP0 ha h⟩
   obtain⟨x2,y2,b2,e2,p2⟩:∃x y t,(JW b↔t=true)∧Ae (Ad tab) 236 [b.av] (· =.BD [.agg [.int .i64 x,.int .i64 y],.bool t]):=by
        by_cases h:JW b
        ·exact⟨_,_,true,by simp[h],nP1 hb h⟩
        ·exact⟨_,_,false,by simp[h],nP0 hb h⟩
   rw[e1,e2]at hn
   cases b1<;>cases b2<;>(try exact absurd ⟨rfl,rfl⟩ hn)
   all_goals
        refine Ac rfl rfl ?_
        (conv=>whnf);repeat' (first|((first|refine kE p1 ?_|refine kE p2 ?_|refine kA ?_|(apply Br.mk<;>intro hc))<;>first|exact hc.elim|conv=>whnf)|refine kB ?_)
        all_goals first|rfl
  ·obtain⟨x1,y1,b1,e1,p1⟩:∃x y t,(JW a↔t=true)∧Ae (Ad tab) 95 [a.av] (· =.BD [.agg [.int .i64 x,.int .i64 y],.bool t]):=by
        by_cases h:JW a
        ·exact⟨_,_,true,by simp[h],nR1 ha h⟩
        ·exact⟨_,_,false,by simp[h],nR0 ha h⟩
   obtain⟨x2,y2,b2,e2,p2⟩:∃x y t,(JW b↔t=true)∧Ae (Ad tab) 95 [b.av] (· =.BD [.agg [.int .i64 x,.int .i64 y],.bool t]):=by
        by_cases h:JW b
        ·exact⟨_,_,true,by simp[h],nR1 hb h⟩
        ·exact⟨_,_,false,by simp[h],nR0 hb h⟩
   rw[e1,e2]at hn
   cases b1<;>cases b2<;>(try exact absurd ⟨rfl,rfl⟩ hn)
   all_goals
        refine Ac rfl rfl ?_
        (conv=>whnf);repeat' (first|((first|refine kE p1 ?_|refine kE p2 ?_|refine kE r1 ?_|refine kE r2 ?_|refine kA ?_|(apply Br.mk<;>intro hc))<;>first|exact hc.elim|conv=>whnf)|refine kB ?_)
        all_goals first|rfl
def mn (a b:Int):Int:=if a≤b then a else b
theorem Ano {a b:Int} (ha:0≤a∧a≤2) (hb:0≤b∧b≤2):0≤mn a b∧mn a b≤2:=by unfold mn;split<;>omega
theorem Afu {a:Int} (ha:0≤a∧a≤2):Ae (Ad tab) 316 [.int .i64 a] (· =.int .i64 a):=by
 refine Ac rfl rfl ?_
 (conv=>whnf);repeat' (first|((first|refine kA ?_|(apply Br.mk<;>intro hc))<;>first|exact hc.elim|conv=>whnf)|refine kB ?_)
 all_goals first|rfl|exact congrArg (AV.int .i64) (by omega)
theorem Anp {a:Int} (ha:0≤a∧a≤2):Ae (Ad tab) 295 [.int .i64 a] (· =.int .i64 a):=by
 refine Ac rfl rfl ?_
 (conv=>whnf);repeat' (first|((first|refine kA ?_|(apply Br.mk<;>intro hc))<;>first|exact hc.elim|conv=>whnf)|refine kB ?_)
 all_goals first|rfl|exact congrArg (AV.int .i64) (by omega)
theorem Apk {a b:Int} (ha:0≤a∧a≤2) (hb:0≤b∧b≤2):Ae (Ad tab) 311 [.int .i64 a,.int .i64 b] (· =.int .i64 (mn a b)):=by
 refine Ac rfl rfl ?_
 (conv=>whnf);repeat' (first|((first|refine kE (Afu ha) ?_|refine kE (Afu hb) ?_|refine kA ?_|(apply Br.mk<;>intro hc))<;>first|exact hc.elim|conv=>whnf)|refine kB ?_)
 all_goals first|rfl|exact congrArg (AV.int .i64) (by unfold mn;split<;>omega)
theorem Apl {a b:Int} (ha:0≤a∧a≤2) (hb:0≤b∧b≤2):Ae (Ad tab) 267 [.int .i64 a,.int .i64 b] (· =.int .i64 (mn a b)):=by
 refine Ac rfl rfl ?_
 (conv=>whnf);repeat' (first|((first|refine kE (Anp ha) ?_|refine kE (Anp hb) ?_|refine kA ?_|(apply Br.mk<;>intro hc))<;>first|exact hc.elim|conv=>whnf)|refine kB ?_)
 all_goals first|rfl|exact congrArg (AV.int .i64) (by unfold mn;split<;>omega)
def Aae (e:Nat→Int):Nat→Int
 |0=>2
 |i+1=>mn (Aae e i) (e i)
theorem RQ {e:Nat→Int}:∀{i:Nat},(∀ j,j<i→0≤e j∧e j≤2)→0≤Aae e i∧Aae e i≤2
 |0,_=>by unfold Aae;omega
 |i+1,h=>Ano (RQ fun j hj=>h j (by omega)) (h i (by omega))
def EqB (x y:AV) (e:Int):Prop:=(0≤e∧e≤2)∧Ae (Ad tab) 291 [x,y] (· =.int .i64 e)∧Ae (Ad tab) 222 [x,y] (· =.int .i64 e)
theorem Aaf {a b:GV} (ha:a.ok) (hb:b.ok) (va:VV 8 a) (vb:VV 8 b) (hk:a.k=b.k) (h78:a.k=7∨a.k=8) (hel:∀i (h:i<a.l.length) (h':i<b.l.length),∃e,EqB a.l[i] b.l[i] e):∃e,EqB a.av b.av e:=by
 have r1:=vR ha va
 have r2:=vR hb vb
 have n1:¬JW a:=fun h=>by have:=h.2;omega
 have n2:¬JW b:=fun h=>by have:=h.2;omega
 have p1:=nP0 ha n1
 have p2:=nP0 hb n2
 have q1:=nR0 ha n1
 have q2:=nR0 hb n2
 have la:a.l.length<2^63:=ha.2.2.2.2.1
 have lb:b.l.length<2^63:=hb.2.2.2.2.1
 by_cases hl:a.l.length=b.l.length
 case neg=>
  refine⟨0,by omega,?_,?_⟩
  ·refine Ac rfl rfl ?_
   (conv=>whnf);repeat' (first|((first|refine kE p1 ?_|refine kE p2 ?_|refine kA ?_|(apply Br.mk<;>intro hc))<;>first|exact hc.elim|conv=>whnf)|refine kB ?_)
   all_goals first|rfl
  ·refine Ac rfl rfl ?_
   (conv=>whnf);repeat' (first|((first|refine kE q1 ?_|refine kE q2 ?_|refine kE r1 ?_|refine kE r2 ?_|refine kA ?_|(apply Br.mk<;>intro hc))<;>first|exact hc.elim|conv=>whnf)|refine kB ?_)
   all_goals first|rfl
 case pos=>
  have hex:∃e:Nat→Int,∀i (h:i<a.l.length) (h':i<b.l.length),EqB a.l[i] b.l[i] (e i):=by
   refine⟨fun i=>if h:i<a.l.length∧i<b.l.length then Classical.choose (hel i h.1 h.2)else 0,fun i h h'=>?_⟩
   simp only[h,h',and_self,dif_pos]
   exact Classical.choose_spec (hel i h h')
  obtain⟨e,he⟩:=hex
  refine⟨Aae e a.l.length,RQ fun j hj=>(he j hj (by omega)).1,?_,?_⟩
  ·refine Ac rfl rfl ?_
   (conv=>whnf);repeat' (first|((first|refine kE p1 ?_|refine kE p2 ?_|refine kA ?_|(apply Br.mk<;>intro hc))<;>first|exact hc.elim|conv=>whnf)|refine kB ?_)
   all_goals
        refine Ag (fun m env s=>∃i c:Nat,m=a.l.length-i∧i≤a.l.length∧env=[(2,.ref 0 0 0 0),(3,.ref 1 1 0 0),(9,.int .i64 (Aae e i)),(76,.int .i64 a.l.length),(77,.int .i64 i)]∧s=⟨[.arr 0 5 true true [a.av],.arr 1 5 true true [b.av],.arr 2 2 true true [.agg [.int .i64 0,.int .i64 0]],.arr 3 2 true true [.agg [.int .i64 0,.int .i64 0]]],c⟩) ?_ _ _ _ ⟨0,_,rfl,by omega,rfl,rfl⟩
        rintro _ _ _ ⟨i,c,rfl,hi,rfl,rfl⟩
        refine⟨rfl,?_⟩
        by_cases hlt:i<a.l.length
        ·obtain⟨gx,hgx⟩:=DX ha.2.2.2.2.2.2 i
         obtain⟨gy,hgy⟩:=DX hb.2.2.2.2.2.2 i
         obtain⟨hn,hxe,hok⟩:=hgx hlt
         obtain⟨hn',hye,hok'⟩:=hgy (by omega)
         obtain⟨k1,k2,k3⟩:=he i hlt (by omega)
         rw[hxe,hye]at k2
         have k4:=Apk (RQ (e:=e) (i:=i) fun j hj=>(he j (by omega) (by omega)).1) k1
         (conv=>whnf);repeat' (first|((first|(apply Af;(· exact hn))|(apply Af;(· exact hn'))|refine kE k2 ?_|refine kE k4 ?_|refine kA ?_|(apply Br.mk<;>intro hc))<;>first|exact hc.elim|conv=>whnf)|refine kB ?_)
         all_goals first|exact again.mk ⟨_,by omega,i+1,_,rfl,by omega,rfl,rfl⟩
        ·obtain rfl:i=a.l.length:=by omega
         (conv=>whnf);repeat' (first|((first|refine kA ?_|(apply Br.mk<;>intro hc))<;>first|exact hc.elim|conv=>whnf)|refine kB ?_)
         all_goals first|rfl
  ·refine Ac rfl rfl ?_
   (conv=>whnf);repeat' (first|((first|refine kE q1 ?_|refine kE q2 ?_|refine kE r1 ?_|refine kE r2 ?_|refine kA ?_|(apply Br.mk<;>intro hc))<;>first|exact hc.elim|conv=>whnf)|refine kB ?_)
   all_goals
        refine Ag (fun m env s=>∃i c:Nat,m=a.l.length-i∧i≤a.l.length∧env=[(2,.ref 0 0 0 0),(3,.ref 1 1 0 0),(9,.int .i64 (Aae e i)),(10,.int .i64 i)]∧s=⟨[.arr 0 5 true true [a.av],.arr 1 5 true true [b.av],.arr 2 2 true true [.agg [.int .i64 0,.int .i64 0]],.arr 3 2 true true [.agg [.int .i64 0,.int .i64 0]]],c⟩) ?_ _ _ _ ⟨0,_,rfl,by omega,rfl,rfl⟩
        rintro _ _ _ ⟨i,c,rfl,hi,rfl,rfl⟩
        refine⟨rfl,?_⟩
        by_cases hlt:i<a.l.length
        ·obtain⟨gx,hgx⟩:=DX ha.2.2.2.2.2.2 i
         obtain⟨gy,hgy⟩:=DX hb.2.2.2.2.2.2 i
         obtain⟨hn,hxe,hok⟩:=hgx hlt
         obtain⟨hn',hye,hok'⟩:=hgy (by omega)
         obtain⟨k1,k2,k3⟩:=he i hlt (by omega)
         rw[hxe,hye]at k3
         have k4:=Apl (RQ (e:=e) (i:=i) fun j hj=>(he j (by omega) (by omega)).1) k1
         (conv=>whnf);repeat' (first|((first|(apply Af;(· exact hn))|(apply Af;(· exact hn'))|refine kE k3 ?_|refine kE k4 ?_|refine kA ?_|(apply Br.mk<;>intro hc))<;>first|exact hc.elim|conv=>whnf)|refine kB ?_)
         all_goals first|exact again.mk ⟨_,by omega,i+1,_,rfl,by omega,rfl,rfl⟩
        ·obtain rfl:i=a.l.length:=by omega
         (conv=>whnf);repeat' (first|((first|refine kA ?_|(apply Br.mk<;>intro hc))<;>first|exact hc.elim|conv=>whnf)|refine kB ?_)
         all_goals first|rfl
theorem Ak3:∀(m:Nat),m≤8→∀{a b:GV},a.ok→b.ok→VV m a→VV 8 b→∃e,EqB a.av b.av e:=by
 intro m
 induction m with
 |zero=>
  intro hm a b ha hb va vb
  by_cases hab:a.k=b.k∧(a.k=7∨a.k=8)
  ·have h7:a.k=7:=hab.2.elim id fun h=>absurd va (AdF h)
   refine Aaf ha hb (Nc hm va) vb hab.1 hab.2 fun i h h'=>?_
   obtain⟨x,e1,_,x2⟩:=((XQ h7).1 va).2.2.2.2.2 i h
   obtain⟨y,e2,_,y2⟩:=((XQ (by omega)).1 vb).2.2.2.2.2 i h'
   obtain⟨gx,hgx⟩:=DX ha.2.2.2.2.2.2 i
   obtain⟨gy,hgy⟩:=DX hb.2.2.2.2.2.2 i
   obtain⟨_,f1,f2⟩:=hgx h
   obtain⟨_,f3,f4⟩:=hgy h'
   rw[e1]at f1;rw[e2]at f3
   obtain rfl:=GV.JV f1
   obtain rfl:=GV.JV f3
   rw[e1,e2]
   have kx:=Aft x2
   exact Nv f2 f4 (Nc (m:=0) (by omega) (.inl x2)) (Nc (m:=0) (by omega) (.inl y2)) fun _=>⟨by omega,by omega⟩
  ·exact Nv ha hb (Nc hm va) vb fun h=>⟨fun h7=>hab ⟨h,.inl h7⟩,fun h8=>hab ⟨h,.inr h8⟩⟩
 |succ m ih=>
  intro hm a b ha hb va vb
  by_cases hab:a.k=b.k∧(a.k=7∨a.k=8)
  ·rcases hab.2 with h7|h8
   ·refine Aaf ha hb (Nc hm va) vb hab.1 hab.2 fun i h h'=>?_
    obtain⟨x,e1,_,x2⟩:=((XQ h7).1 va).2.2.2.2.2 i h
    obtain⟨y,e2,_,y2⟩:=((XQ (by omega)).1 vb).2.2.2.2.2 i h'
    obtain⟨gx,hgx⟩:=DX ha.2.2.2.2.2.2 i
    obtain⟨gy,hgy⟩:=DX hb.2.2.2.2.2.2 i
    obtain⟨_,f1,f2⟩:=hgx h
    obtain⟨_,f3,f4⟩:=hgy h'
    rw[e1]at f1;rw[e2]at f3
    obtain rfl:=GV.JV f1
    obtain rfl:=GV.JV f3
    rw[e1,e2]
    have kx:=Aft x2
    exact Nv f2 f4 (Nc (m:=0) (by omega) (.inl x2)) (Nc (m:=0) (by omega) (.inl y2)) fun _=>⟨by omega,by omega⟩
   ·refine Aaf ha hb (Nc hm va) vb hab.1 hab.2 fun i h h'=>?_
    obtain⟨x,e1,x2⟩:=((Agu h8).1 va).2.2.2.2 i h
    obtain⟨y,e2,y2⟩:=((Agu (m:=7) (by omega)).1 vb).2.2.2.2 i h'
    obtain⟨gx,hgx⟩:=DX ha.2.2.2.2.2.2 i
    obtain⟨gy,hgy⟩:=DX hb.2.2.2.2.2.2 i
    obtain⟨_,f1,f2⟩:=hgx h
    obtain⟨_,f3,f4⟩:=hgy h'
    rw[e1]at f1;rw[e2]at f3
    obtain rfl:=GV.JV f1
    obtain rfl:=GV.JV f3
    rw[e1,e2]
    exact ih (by omega) f2 f4 x2 (Nc (m:=7) (by omega) y2)
  ·exact Nv ha hb (Nc hm va) vb fun h=>⟨fun h7=>hab ⟨h,.inl h7⟩,fun h8=>hab ⟨h,.inr h8⟩⟩
theorem Ak4 {a b:GV} (ha:a.ok) (hb:b.ok):∃e:Int,Ae (Ad tab) 263 [a.av,b.av] (· =.int .i64 e)∧Ae (Ad tab) 222 [a.av,b.av] (· =.int .i64 e):=by
 by_cases hab:VV 8 a∧VV 8 b
 ·obtain⟨va,vb⟩:=hab
  obtain⟨e,h1,h2,h3⟩:=Ak3 8 (by omega) ha hb va vb
  have r1:=vR ha va
  have r2:=vR hb vb
  have p1:=vP ha va
  have p2:=vP hb vb
  by_cases h0:a.k=0∨b.k=0
  ·refine⟨1,?_,?_⟩
   ·refine Ac rfl rfl ?_
    (conv=>whnf);repeat' (first|((first|refine kA ?_|(apply Br.mk<;>intro hc))<;>first|exact hc.elim|conv=>whnf)|refine kB ?_)
    all_goals first|rfl
   ·refine Ac rfl rfl ?_
    (conv=>whnf);repeat' (first|((first|refine kA ?_|(apply Br.mk<;>intro hc))<;>first|exact hc.elim|conv=>whnf)|refine kB ?_)
    all_goals first|rfl
  ·refine⟨e,?_,h3⟩
   refine Ac rfl rfl ?_
   (conv=>whnf);repeat' (first|((first|refine kE p1 ?_|refine kE p2 ?_|refine kE h2 ?_|refine kA ?_|(apply Br.mk<;>intro hc))<;>first|exact hc.elim|conv=>whnf)|refine kB ?_)
   all_goals first|rfl
 ·refine⟨1,?_,?_⟩
  ·by_cases va:VV 8 a
   ·have p1:=vP ha va
    have p2:=vPn hb (fun h=>hab ⟨va,h⟩)
    refine Ac rfl rfl ?_
    (conv=>whnf);repeat' (first|((first|refine kE p1 ?_|refine kE p2 ?_|refine kA ?_|(apply Br.mk<;>intro hc))<;>first|exact hc.elim|conv=>whnf)|refine kB ?_)
    all_goals first|rfl
   ·have p1:=vPn ha va
    refine Ac rfl rfl ?_
    (conv=>whnf);repeat' (first|((first|refine kE p1 ?_|refine kA ?_|(apply Br.mk<;>intro hc))<;>first|exact hc.elim|conv=>whnf)|refine kB ?_)
    all_goals first|rfl
  ·by_cases va:VV 8 a
   ·have p1:=vR ha va
    have p2:=vRn hb (fun h=>hab ⟨va,h⟩)
    refine Ac rfl rfl ?_
    (conv=>whnf);repeat' (first|((first|refine kE p1 ?_|refine kE p2 ?_|refine kA ?_|(apply Br.mk<;>intro hc))<;>first|exact hc.elim|conv=>whnf)|refine kB ?_)
    all_goals first|rfl
   ·have p1:=vRn ha va
    refine Ac rfl rfl ?_
    (conv=>whnf);repeat' (first|((first|refine kE p1 ?_|refine kA ?_|(apply Br.mk<;>intro hc))<;>first|exact hc.elim|conv=>whnf)|refine kB ?_)
    all_goals first|rfl
def N0:GN:=⟨0,false,[],false,[]⟩
def VZ (id:Int) (n:GN):Bool:=decide (n.id=id)
def QJ (l:List GN) (id:Int):AV:=match l.find? (VZ id)with
 |some n=>.BD [n.av,.bool true]
 |none=>.BD [N0.av,.bool false]
theorem AmW {g:GG} (hl:g.nodes.length<2^63) {id:Int}:Ae (Ad tab) 81 [g.av,.int .i64 id] (· =QJ g.nodes id):=by
 refine Ac rfl rfl ?_
 (conv=>whnf);repeat' (first|((first|refine kA ?_|(apply Br.mk<;>intro hc))<;>first|exact hc.elim|conv=>whnf)|refine kB ?_)
 refine Ag (fun m env s=>∃i:Nat,m=g.nodes.length-i∧(∀ x∈g.nodes.take i,VZ id x=false)∧env=[(1,.int .i64 id),(2,.ref 0 0 0 0),(4,.ref 1 1 0 0),(6,.int .i64 i)]∧s=⟨[.arr 0 4 true true [g.av],.arr 1 3 true true [.agg [.int .i64 0,.sl false [],.sl false []]]],2⟩) ?_ _ _ _ ⟨0,rfl,by simp,rfl,rfl⟩
 rintro _ _ _ ⟨i,rfl,hx,rfl,rfl⟩
 refine⟨rfl,?_⟩
 (conv=>whnf);repeat' (first|((first|refine kA ?_|(apply Br.mk<;>intro hc))<;>first|exact hc.elim|conv=>whnf)|refine kB ?_)
 ·rw[QJ,O8 (by omega) hx (decide_eq_true hc)];rfl
 ·exact again.mk ⟨_,by omega,i+1,rfl,WT (by omega) hx (decide_eq_false hc),rfl,rfl⟩
 ·rw[BN hc]at hx
  rw[QJ,WS hx];rfl
theorem cloneS {l:List (List UInt8)} {nn:Bool} (hl:l.length≤2000) (hn:nn=false→l=[]):Ae (Ad tab) 65 [.sl nn (vs .str l)] (· =.sl nn (vs .str l)):=by
 cases nn with
 |false=>
  obtain rfl:=hn rfl
  refine Ac rfl rfl ?_
  (conv=>whnf);repeat' (first|((first|refine kA ?_|(apply Br.mk<;>intro hc))<;>first|exact hc.elim|conv=>whnf)|refine kB ?_)
  rfl
 |true=>
  refine Ac rfl rfl ?_
  (conv=>whnf);repeat' (first|((first|refine kA ?_|(apply Br.mk<;>intro hc)|refine Jy (Cj (fun _=>rfl) _) (by rw[lV];omega) ?_)<;>first|exact hc.elim|conv=>whnf)|refine kB ?_)
  refine Jy (Cj (f:=.str) (fun _=>rfl) l) (by rw[lV];omega) ?_
  (conv=>whnf);repeat' (first|((first|refine kA ?_|(apply Br.mk<;>intro hc))<;>first|exact hc.elim|conv=>whnf)|refine kB ?_)
  rw[lV,uV]
theorem Af8:Ar (Ad tab) 124 [.sl false []] ⟨[],0⟩ fun out _=>out=.ok (.sl false []):=by
 refine Ai rfl rfl ?_
 (conv=>whnf);repeat' (first|((first|refine kA ?_|(apply Br.mk<;>intro hc))<;>first|exact hc.elim|conv=>whnf)|refine kB ?_)
 rfl
theorem Ajn {l:List GP} (hl:l.length≤2000):Ar (Ad tab) 124 [.sl true (vs GP.av l)] ⟨[],0⟩ fun out s'=>∃o g,out=.ok (.own o g 0 (vs GP.av l).length)∧nth s'.σ o=some (.arr g 6 true true (vs GP.av l)):=by
 refine Ai rfl rfl ?_
 (conv=>whnf);repeat' (first|((first|refine kA ?_|(apply Br.mk<;>intro hc))<;>first|exact hc.elim|conv=>whnf)|refine kB ?_)
 refine Jy (Cj (f:=GP.av) (fun _=>rfl) l) (by rw[lV];omega) ?_
 (conv=>whnf);repeat' (first|((first|refine kA ?_|(apply Br.mk<;>intro hc))<;>first|exact hc.elim|conv=>whnf)|refine kB ?_)
 exact⟨_,_,rfl,rfl⟩
theorem Af9 {ps:List GP} {nn:Bool} (hl:ps.length≤2000) (hn:nn=false→ps=[]) (hok:∀p∈ps,p.ok) (hL:∀p∈ps,Gx 12 p.v.av):Ae (Ad tab) 312 [.sl nn (vs GP.av ps)] (· =.sl nn (vs GP.av ps)):=by
 cases nn with
 |false=>
  obtain rfl:=hn rfl
  refine Ac rfl rfl ?_
  (conv=>whnf);repeat' (first|((first|refine kA ?_|(apply Br.mk<;>intro hc))<;>first|exact hc.elim|conv=>whnf)|refine kB ?_)
  refine FW rfl Af8 ?_
  (conv=>whnf);repeat' (first|((first|refine kA ?_|(apply Br.mk<;>intro hc))<;>first|exact hc.elim|conv=>whnf)|refine kB ?_)
  refine DR ?_ rfl
  (conv=>whnf);repeat' (first|((first|refine kA ?_|(apply Br.mk<;>intro hc))<;>first|exact hc.elim|conv=>whnf)|refine kB ?_)
  rfl
 |true=>
  refine Ac rfl rfl ?_
  (conv=>whnf);repeat' (first|((first|refine kA ?_|(apply Br.mk<;>intro hc))<;>first|exact hc.elim|conv=>whnf)|refine kB ?_)
  refine RY rfl (Ajn hl) ?_
  (conv=>whnf);repeat' (first|((first|refine kA ?_|(apply Br.mk<;>intro hc))<;>first|exact hc.elim|conv=>whnf)|refine kB ?_)
  refine Ag (fun m env st=>∃i:Nat,m=ps.length-i∧env=[(3,.own 0 0 0 (vs GP.av ps).length),(8,.int .i64 (vs GP.av ps).length),(9,.int .i64 i)]∧st=⟨[.arr 0 6 true true (vs GP.av ps)],1⟩) ?_ _ _ _ ⟨0,rfl,rfl,rfl⟩
  rintro _ _ _ ⟨i,rfl,rfl,rfl⟩
  refine⟨rfl,?_⟩
  have hll:(vs GP.av ps).length=ps.length:=lV _
  have ho:∀h:i<ps.length,(ps[i]).v.ok∧Gx 12 (ps[i]).v.av:=fun h=>⟨(hok _ (List.getElem_mem h)).2,hL _ (List.getElem_mem h)⟩
  (conv=>whnf);repeat' (first|((first|refine kE (RZ 12 (g:=ps[i].v) (ho (by omega)).1 (ho (by omega)).2) ?_|(apply Cb;(· exact UU (x:=(ps[i]).av) (nVN (by omega))))|refine kA ?_|(apply Br.mk<;>intro hc))<;>first|exact hc.elim|conv=>whnf)|refine kB ?_)
  ·exact again.mk ⟨_,by omega,i+1,rfl,rfl,rfl⟩
  ·rw[AcX]
def Aal (n:GN):Prop:=n.labels.length≤2000∧(n.ln=false→n.labels=[])∧(n.pn=false→n.props=[])∧AiG n.props
theorem AlQ {g:GG} (hl:g.nodes.length<2^63) (hg:∀n∈g.nodes,Aal n) {id:Int}:Ae (Ad tab) 292 [g.av,.int .i64 id] (· =QJ g.nodes id):=by
 refine Ac rfl rfl ?_
 (conv=>whnf);repeat' (first|((first|refine kA ?_|(apply Br.mk<;>intro hc))<;>first|exact hc.elim|conv=>whnf)|refine kB ?_)
 refine Ag (fun m env s=>∃i c:Nat,m=g.nodes.length-i∧(∀ x∈g.nodes.take i,VZ id x=false)∧env=[(1,.int .i64 id),(4,.ref 1 1 0 0),(9,.sl g.nn (vs GN.av g.nodes)),(10,.int .i64 g.nodes.length),(11,.int .i64 i)]∧s=⟨[.arr 0 4 true true [g.av],.arr 1 3 true true [.agg [.int .i64 0,.sl false [],.sl false []]]],c⟩) ?_ _ _ _ ⟨0,_,rfl,by simp,rfl,rfl⟩
 rintro _ _ _ ⟨i,c,rfl,hx,rfl,rfl⟩
 refine⟨rfl,?_⟩
 have ho:∀h:i<g.nodes.length,Aal g.nodes[i]:=fun h=>hg _ (List.getElem_mem h)
 (conv=>whnf);repeat' (first|((first|refine kA ?_|(apply Br.mk<;>intro hc)|refine kE (cloneS (l:=g.nodes[i].labels) (ho (by omega)).1 (ho (by omega)).2.1) ?_|refine kE (Af9 (ps:=g.nodes[i].props) (ho (by omega)).2.2.2.1 (ho (by omega)).2.2.1 (fun p hp=>((ho (by omega)).2.2.2.2 p hp).1) (fun p hp=>((ho (by omega)).2.2.2.2 p hp).2)) ?_)<;>first|exact hc.elim|conv=>whnf)|refine kB ?_)
 ·rw[QJ,O8 (by omega) hx (decide_eq_true hc)]
  simp only
  unfold GN.av
  rw[hc];rfl
 ·exact again.mk ⟨_,by omega,i+1,_,rfl,WT (by omega) hx (decide_eq_false hc),rfl,rfl⟩
 ·rw[BN hc]at hx
  rw[QJ,WS hx];rfl
end AI
end Go.Proofs.YtjijnamhalgamaaGreatDoor
