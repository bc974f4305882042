/- Fractions compared: the program's way and the reference's. Valid values, exactly: the program's. Valid values, exactly: the reference's. Numbers among values. The null value. The program's order of a value and null. The order of values: plain. Small graphs, few strings. Properties looked up. Scripts between graphs: what they are, in plain lists. The reference's order of a value and null. The order of values: the program's walks. The order of values: the reference's walks. Graphs alike: the program's way and the reference's. The graph that an editor edits, in the store: nodes and edges with lists of their own. Looking up a key in nodes: slices.BinarySearchFunc, on memory that stays. Looking up a key in edges: slices.BinarySearchFunc, on memory that stays. Looking up a key in properties: slices.BinarySearchFunc, on memory that stays. -/
import Derived.Test.YtgmgkkbpgndaaaaGreatDoorPMah
import Derived.Test.YtgmgkkbpgndaaaaGreatDoorPMaf
import Derived.Test.YtgmgkkbpgndaaaaGreatDoorPMag
set_option linter.unusedVariables false
set_option maxRecDepth 4000
namespace Go.Proofs.YtgmgkkbpgndaaaaGreatDoor
namespace AI
theorem Ag0 {g:GV} (h:VB g):g.k≤6:=by
 obtain⟨_,h⟩:=h
 rcases h with⟨h,_⟩|⟨h,_⟩|⟨h,_⟩|⟨h,_⟩|⟨h,_⟩|⟨h,_⟩<;>omega
theorem Af5 {m:Nat} {g:GV} (h7:g.k≠7) (h8:g.k≠8):VV m g↔VB g:=by
 cases m with
 |zero=>exact⟨fun h=>h.elim id fun h=>absurd h.1 h7,.inl⟩
 |succ m=>exact⟨fun h=>h.elim id fun h=>h.elim (fun h=>absurd h.1 h7) fun h=>absurd h.1 h8,.inl⟩
theorem AiL {m:Nat} {g:GV} (hk:g.k=7):VV m g↔g.n=0∧g.d=0∧g.s=[]∧VPa g.l:=by
 have hb:¬VB g:=fun h=>by have:=Ag0 h;omega
 cases m with
 |zero=>exact⟨fun h=>h.elim (fun h=>absurd h hb) fun h=>h.2,fun h=>.inr ⟨hk,h⟩⟩
 |succ m=>exact⟨fun h=>h.elim (fun h=>absurd h hb) fun h=>h.elim (fun h=>h.2) fun h=>absurd h.1 (by omega),fun h=>.inr (.inl ⟨hk,h⟩)⟩
def VLi (m:Nat) (l:List AV):Prop:=∀i (h:i<l.length),∃x:GV,l[i]=x.av∧VV m x
theorem Akr {m:Nat} {g:GV} (hk:g.k=8):VV (m+1) g↔g.n=0∧g.d=0∧g.s=[]∧g.l.length≤64∧VLi m g.l:=by
 have hb:¬VB g:=fun h=>by have:=Ag0 h;omega
 exact⟨fun h=>h.elim (fun h=>absurd h hb) fun h=>h.elim (fun h=>absurd h.1 (by omega)) fun h=>h.2,fun h=>.inr (.inr ⟨hk,h⟩)⟩
theorem AiM {g:GV} (hk:g.k=8):¬VV 0 g:=fun h=>h.elim (fun h=>by have:=Ag0 h;omega) fun h=>by have:=h.1;omega
noncomputable instance (m:Nat) (g:GV):Decidable (VV m g):=Classical.propDecidable _
noncomputable instance (l:List AV):Decidable (VPa l):=Classical.propDecidable _
noncomputable instance (m:Nat) (l:List AV):Decidable (VLi m l):=Classical.propDecidable _
theorem Ov {p q:Prop} [Decidable p] [Decidable q] (h:p↔q):AV.bool (decide p)=AV.bool (decide q):=by
 by_cases hp:p
 ·rw[decide_eq_true hp,decide_eq_true (h.1 hp)]
 ·rw[decide_eq_false hp,decide_eq_false (mt h.2 hp)]
set_option maxHeartbeats 1000000 in
theorem vbP {g:GV} (hg:g.ok) (h7:g.k≠7) (h8:g.k≠8) {n:Int}:Af (Ad tab) 140 [g.av,.int .i64 n] (· =.bool (decide (VB g))):=by
 obtain⟨g1,g2,g3,g4,g5,g6,g7⟩:=hg
 unfold Ln at g4 g5
 refine Ac rfl rfl ?_
 (conv=>whnf);repeat' (first|(refine BM (inP (n:=g.n)) (fun hr=>?_) (fun hr=>?_)<;>conv=>whnf)|(refine BM (fvP (n:=g.n) (d:=g.d)) (fun hr=>?_) (fun hr=>?_)<;>conv=>whnf)|(refine Aa (ixP (l:=g.s)) ?_;rintro _ rfl;conv=>whnf)|(refine kA ?_;conv=>whnf)|(refine Br.mk (fun hc=>?_) fun hc=>?_<;>first|exact hc.elim|conv=>whnf)|(refine kB ?_))
 all_goals clear g7 g6
 all_goals first
  |exact AB fun h=>by have:=h.1;omega
  |(refine Bv ?_;unfold VB okS;rw[← Io];first|(simp_all;done)|(simp_all;omega))
  |(refine AB ?_;unfold VB okS;rw[← Io];first|(simp_all;done)|(simp_all;omega))
  |trace_state
theorem Adr {l:List AV} {i:Nat} (hi:i<l.length) {x:GV} (e:l[i]=x.av) (hk:x.k=5+(i:Int) % 2) (hv:VB x) (h:∀j (hj:j<l.length),j<i→∃x:GV,l[j]=x.av∧x.k=5+(j:Int) % 2∧VB x):
 ∀j (hj:j<l.length),j<i+1→∃x:GV,l[j]=x.av∧x.k=5+(j:Int) % 2∧VB x:=by
 intro j hj hji
 rcases Nat.lt_or_ge j i with h1|h1
 ·exact h j hj h1
 ·obtain rfl:j=i:=by omega
  exact⟨x,e,hk,hv⟩
set_option maxHeartbeats 1000000 in
theorem AiN {l:List AV} {nn:Bool} (hl:l.length<2^63) (h:∀x∈l,Like Tryz.prog 34 x):Af (Ad tab) 175 [.sl nn l] (· =.bool (decide (VPa l))):=by
 have htm:(l.length:Int).tmod 2=(l.length:Int) % 2:=Int.tmod_eq_emod_of_nonneg (by omega)
 by_cases hlen:l.length % 2=1∧l.length≤25
 ·obtain⟨hl1,hl2⟩:=hlen
  refine Ac rfl rfl ?_
  (conv=>whnf);repeat' (first  |(refine kA ?_;conv=>whnf)|(refine Br.mk (fun hc=>?_) fun hc=>?_<;>first|exact hc.elim|conv=>whnf)|(refine kB ?_))
  refine Ak (fun m env s=>∃i c:Nat,m=l.length-i∧i≤l.length∧(∀ j (hj:j<l.length),j<i→∃x:GV,l[j]=x.av∧x.k=5+(j:Int) % 2∧VB x)∧env=[(15,.sl nn l),(16,.int .i64 l.length),(17,.int .i64 i)]∧s=⟨[],c⟩) ?_ _ _ _ ⟨0,_,rfl,by omega,fun j _ hj=>absurd hj (by omega),rfl,rfl⟩
  rintro _ _ _ ⟨i,c,rfl,hi,hx,rfl,rfl⟩
  refine⟨rfl,?_⟩
  by_cases hlt:i<l.length
  ·obtain⟨gx,hgx⟩:=N8 h i
   obtain⟨hn,he,hok⟩:=hgx hlt
   have hno:¬(gx.k=5+(i:Int) % 2∧VB gx)→¬VPa l:=fun hh hv=>by
        obtain⟨x,e,hx2⟩:=hv.2.2 i hlt
        rw[he]at e
        rw[GV.Ads e]at hh
        exact hh hx2
   have h2:(i:Int).tmod 2=(i:Int) % 2:=Int.tmod_eq_emod_of_nonneg (by omega)
   have AgI:nth [AV.int .i64 5,AV.int .i64 6] (Int.toNat ((i:Int).tmod 2))=some (.int .i64 (5+(i:Int) % 2)):=by
        rw[h2]
        rcases Nat.mod_two_eq_zero_or_one i with hm|hm
        ·rw[show (i:Int) % 2=0 by omega];rfl
        ·rw[show (i:Int) % 2=1 by omega];rfl
   (conv=>whnf);repeat' (first|(apply Aq;(· first|exact hn|exact AgI);conv=>whnf)|(refine BM (vbP (g:=gx) hok (by omega) (by omega) (n:=0)) (fun hr=>?_) (fun hr=>?_)<;>conv=>whnf)|(refine kA ?_;conv=>whnf)|(refine Br.mk (fun hc=>?_) fun hc=>?_<;>first|exact hc.elim|conv=>whnf)|(refine kB ?_))
   all_goals first
        |exact again.mk ⟨_,by omega,i+1,_,rfl,by omega,Adr hlt he (by omega) hr hx,rfl,rfl⟩
        |exact AB (hno fun hh=>by have:=hh.1;omega)
        |exact AB (hno fun hh=>hr hh.2)
        |trace_state
  ·rw[show i=l.length by omega]at hx
   (conv=>whnf);repeat' (first  |(refine kA ?_;conv=>whnf)|(refine Br.mk (fun hc=>?_) fun hc=>?_<;>first|exact hc.elim|conv=>whnf)|(refine kB ?_))
   exact Bv ⟨hl1,hl2,fun j hj=>hx j hj hj⟩
 ·have hno:¬VPa l:=fun hv=>hlen ⟨hv.1,hv.2.1⟩
  refine Ac rfl rfl ?_
  (conv=>whnf);repeat' (first  |(refine kA ?_;conv=>whnf)|(refine Br.mk (fun hc=>?_) fun hc=>?_<;>first|exact hc.elim|conv=>whnf)|(refine kB ?_))
  all_goals first|exact AB hno|trace_state
theorem v7 {g:GV} (hg:g.ok) (hk:g.k=7) {n:Int}:Af (Ad tab) 140 [g.av,.int .i64 n] (· =.bool (decide (g.n=0∧g.d=0∧g.s=[]∧VPa g.l))):=by
 obtain⟨g1,g2,g3,g4,g5,g6,g7⟩:=hg
 unfold Ln at g4 g5
 refine Ac rfl rfl ?_
 (conv=>whnf);repeat' (first|(refine BM (AiN (l:=g.l) (nn:=g.nn) g5 g7) (fun hr=>?_) (fun hr=>?_)<;>conv=>whnf)|(refine kA ?_;conv=>whnf)|(refine Br.mk (fun hc=>?_) fun hc=>?_<;>first|exact hc.elim|conv=>whnf)|(refine kB ?_))
 all_goals first
  |exact Bv ⟨by omega,by omega,by assumption,hr⟩
  |exact AB fun h=>hr h.2.2.2
  |exact AB fun h=>by have:=h.1;omega
  |exact AB fun h=>by have:=h.2.1;omega
  |exact AB fun h=>absurd h.2.2.1 (by assumption)
  |trace_state
theorem AeW {m:Nat} {l:List AV} {i:Nat} (hi:i<l.length) {x:GV} (e:l[i]=x.av) (hv:VV m x) (h:∀j (hj:j<l.length),j<i→∃x:GV,l[j]=x.av∧VV m x):
 ∀j (hj:j<l.length),j<i+1→∃x:GV,l[j]=x.av∧VV m x:=by
 intro j hj hji
 rcases Nat.lt_or_ge j i with h1|h1
 ·exact h j hj h1
 ·obtain rfl:j=i:=by omega
  exact⟨x,e,hv⟩
set_option maxHeartbeats 1000000 in
theorem v8 {g:GV} (hg:g.ok) (hk:g.k=8) {z:Int} (hz:0≤z∧z<8) {m:Nat} (ih:∀{x:GV},x.ok→Af (Ad tab) 140 [x.av,.int .i64 (z+1)] (· =.bool (decide (VV m x)))):
 Af (Ad tab) 140 [g.av,.int .i64 z] (· =.bool (decide (g.n=0∧g.d=0∧g.s=[]∧g.l.length≤64∧VLi m g.l))):=by
 obtain⟨g1,g2,g3,g4,g5,g6,g7⟩:=hg
 unfold Ln at g4 g5
 refine Ac rfl rfl ?_
 (conv=>whnf);repeat' (first  |(refine kA ?_;conv=>whnf)|(refine Br.mk (fun hc=>?_) fun hc=>?_<;>first|exact hc.elim|conv=>whnf)|(refine kB ?_))
 all_goals first
  |exact AB fun h=>by have:=h.1;omega
  |exact AB fun h=>by have:=h.2.1;omega
  |exact AB fun h=>by have:=h.2.2.2.1;omega
  |exact AB fun h=>absurd h.2.2.1 (by assumption)
  |skip
 have hs:g.s=[]:=by assumption
 have hn0:g.n=0:=by omega
 have hd0:g.d=0:=by omega
 have hl0:g.l.length≤64:=by omega
 refine Ak (fun mm env s=>∃i c:Nat,mm=g.l.length-i∧i≤g.l.length∧(∀ j (hj:j<g.l.length),j<i→∃x:GV,g.l[j]=x.av∧VV m x)∧env=[(1,.int .i64 z),(120,.sl g.nn g.l),(121,.int .i64 g.l.length),(122,.int .i64 i)]∧s=⟨[.arr 0 5 true true [g.av]],c⟩) ?_ _ _ _ ⟨0,_,rfl,by omega,fun j _ hj=>absurd hj (by omega),rfl,rfl⟩
 rintro _ _ _ ⟨i,c,rfl,hi,hx,rfl,rfl⟩
 refine⟨rfl,?_⟩
 by_cases hlt:i<g.l.length
 ·obtain⟨gx,hgx⟩:=N8 g7 i
  obtain⟨hn,he,hok⟩:=hgx hlt
  (conv=>whnf);repeat' (first|(apply Aq;(· exact hn);conv=>whnf)|(refine BM (ih hok) (fun hr=>?_) (fun hr=>?_)<;>conv=>whnf)|(refine kA ?_;conv=>whnf)|(refine Br.mk (fun hc=>?_) fun hc=>?_<;>first|exact hc.elim|conv=>whnf)|(refine kB ?_))
  all_goals first
   |exact again.mk ⟨_,by omega,i+1,_,rfl,by omega,AeW hlt he hr hx,rfl,rfl⟩
   |exact AB fun hh=>by
     obtain⟨x,e,hv⟩:=hh.2.2.2.2 i hlt
     rw[he]at e
     rw[GV.Ads e]at hr
     exact hr hv
   |trace_state
 ·rw[show i=g.l.length by omega]at hx
  (conv=>whnf);repeat' (first  |(refine kA ?_;conv=>whnf)|(refine Br.mk (fun hc=>?_) fun hc=>?_<;>first|exact hc.elim|conv=>whnf)|(refine kB ?_))
  exact Bv ⟨hn0,hd0,hs,hl0,fun j hj=>hx j hj hj⟩
theorem Akt {g:GV} (hg:g.ok) (hk:g.k=8):Af (Ad tab) 140 [g.av,.int .i64 8] (· =.bool false):=by
 obtain⟨g1,g2,g3,g4,g5,g6,g7⟩:=hg
 unfold Ln at g4 g5
 refine Ac rfl rfl ?_
 (conv=>whnf);repeat' (first  |(refine kA ?_;conv=>whnf)|(refine Br.mk (fun hc=>?_) fun hc=>?_<;>first|exact hc.elim|conv=>whnf)|(refine kB ?_))
 all_goals rfl
theorem Ag1:∀(m:Nat),m≤8→∀{g:GV},g.ok→Af (Ad tab) 140 [g.av,.int .i64 (8-(m:Int))] (· =.bool (decide (VV m g))):=by
 intro m
 induction m with
 |zero=>
  intro _ g hg
  by_cases h7:g.k=7
  ·rw[show AV.bool (decide (VV 0 g))=_ from Ov (AiL h7)]
   exact v7 hg h7
  by_cases h8:g.k=8
  ·rw[decide_eq_false (AiM h8)]
   exact Akt hg h8
  rw[show AV.bool (decide (VV 0 g))=AV.bool (decide (VB g)) from Ov (Af5 h7 h8)]
  exact vbP hg h7 h8
 |succ m ih=>
  intro hm g hg
  by_cases h7:g.k=7
  ·rw[show AV.bool (decide (VV (m+1) g))=_ from Ov (AiL h7)]
   exact v7 hg h7
  by_cases h8:g.k=8
  ·rw[show AV.bool (decide (VV (m+1) g))=_ from Ov (Akr h8)]
   exact v8 hg h8 (by omega) fun{x} hx=>by
        rw[show (8-((m+1:Nat):Int))+1=8-(m:Int) by omega]
        exact ih (by omega) hx
  rw[show AV.bool (decide (VV (m+1) g))=AV.bool (decide (VB g)) from Ov (Af5 h7 h8)]
  exact vbP hg h7 h8
theorem AbV {g:GV} (hg:g.ok):Af (Ad tab) 106 [g.av] (· =.bool (decide (VV 8 g))):=by
 have h:=Ag1 8 (by omega) hg
 rw[show (8-((8:Nat):Int))=0 by omega]at h
 refine Ac rfl rfl ?_
 (conv=>whnf);repeat' (first|(refine BM h (fun hr=>?_) (fun hr=>?_)<;>conv=>whnf)|(refine kA ?_;conv=>whnf)|(refine Br.mk (fun hc=>?_) fun hc=>?_<;>first|exact hc.elim|conv=>whnf)|(refine kB ?_))
 all_goals first|exact Bv hr|exact AB hr
def AhZ (g:GV):Prop:=VV 8 g∧(g.k=2∨g.k=3)
noncomputable instance (g:GV):Decidable (AhZ g):=by unfold AhZ;infer_instance
def dn (g:GV):Int:=if g.k=2 then 1 else g.d
def SS:GV:=⟨0,0,0,[],false,[]⟩
theorem Yb:SS.ok:=⟨by unfold I64 SS;dsimp only;omega,by unfold I64 SS;dsimp only;omega,by unfold I64 SS;dsimp only;omega,by simp[Ln,SS],by simp[Ln,SS],fun _=>rfl,by simp[SS]⟩
def isNull (v:GV):Prop:=v.k=0∧v.n=0∧v.d=0∧v.s=[]∧v.l.length=0
instance (v:GV):Decidable (isNull v):=by unfold isNull;infer_instance
theorem Wq:isNull SS:=⟨rfl,rfl,rfl,rfl,rfl⟩
theorem U3 {v:GV} (hk:v.k=0):VV 8 v↔isNull v:=by
 rw[Af5 (by omega) (by omega)]
 unfold VB isNull
 constructor
 ·rintro⟨h1,h⟩
  rcases h with h|h|h|h|h|h<;>first|exact⟨hk,h.2.1,h.2.2.1,h.2.2.2,h1⟩|(exfalso;omega)
 ·rintro⟨_,h1,h2,h3,h4⟩
  exact⟨h4,.inl ⟨hk,h1,h2,h3⟩⟩
def QJ (k:Int):Int:=if k=3 then 2 else if k=7 then 9 else k
theorem U4 {v:GV}:Af (Ad tab) 200 [v.av] (· =.int .i64 (QJ v.k)):=by
 refine Ac rfl rfl ?_
 (conv=>whnf);repeat' (first  |(refine kA ?_;conv=>whnf)|(refine Br.mk (fun hc=>?_) fun hc=>?_<;>first|exact hc.elim|conv=>whnf)|(refine kB ?_))
 all_goals first|(unfold QJ;rw[if_pos (by assumption)];rfl)|(unfold QJ;rw[if_neg (by assumption),if_pos (by assumption)];rfl)|(unfold QJ;rw[if_neg (by assumption),if_neg (by assumption)];rfl)
theorem AhH {k:Int}:QJ k=0↔k=0:=by unfold QJ;split<;>(try split)<;>omega
theorem AhI:Af (Ad tab) 156 [.str [],.str []] (· =.int .i64 0):=⟨_,⟨20,by kernel_rfl⟩,rfl⟩
theorem or3 {nn:Bool}:Af (Ad tab) 178 [.sl nn [.int .i64 0,.int .i64 0,.int .i64 0]] (· =.int .i64 0):=by
 cases nn
 ·exact⟨_,⟨20,by kernel_rfl⟩,rfl⟩
 ·exact⟨_,⟨20,by kernel_rfl⟩,rfl⟩
theorem AhJ {nn:Bool} {f:Nat}:Af (Ad tab) 179 [.sl nn [],.sl false [],.fn f []] (· =.int .i64 0):=by
 refine Ac rfl rfl ?_
 (conv=>whnf);repeat' (first  |(refine kA ?_;conv=>whnf)|(refine Br.mk (fun hc=>?_) fun hc=>?_<;>first|exact hc.elim|conv=>whnf)|(refine kB ?_))
 refine Ak (fun m env s=>m=0∧env=[(0,.sl nn []),(1,.sl false []),(2,.fn f []),(11,.sl nn []),(12,.int .i64 0),(13,.int .i64 0)]∧s=⟨[],0⟩) ?_ _ _ _ ⟨rfl,rfl,rfl⟩
 rintro _ _ _ ⟨rfl,rfl,rfl⟩
 refine⟨rfl,?_⟩
 (conv=>whnf);repeat' (first  |(refine kA ?_;conv=>whnf)|(refine Br.mk (fun hc=>?_) fun hc=>?_<;>first|exact hc.elim|conv=>whnf)|(refine kB ?_))
 all_goals first|rfl|(exfalso;simp_all)
theorem Af6 {v:GV} (h:isNull v):Af (Ad tab) 177 [v.av,SS.av] (· =.int .i64 0):=by
 obtain⟨k,n,d,s,nn,l⟩:=v
 obtain⟨h1,h2,h3,h4,h5⟩:=h
 dsimp only at h1 h2 h3 h4 h5
 subst h1 h2 h3 h4
 obtain rfl:l=[]:=List.eq_nil_of_length_eq_zero h5
 have hc1:Af (Ad tab) 200 [GV.av ⟨0,0,0,[],nn,[]⟩] (· =.int .i64 0):=U4 (v:=⟨0,0,0,[],nn,[]⟩)
 have hc2:Af (Ad tab) 200 [SS.av] (· =.int .i64 0):=U4 (v:=SS)
 have hc3:Af (Ad tab) 78 [.int .i64 0,.int .i64 0] (· =.int .i64 0):=compare
 refine Ac rfl rfl ?_
 (conv=>whnf);repeat' (first|((first|refine Aa hc1 ?_|refine Aa hc2 ?_|refine Aa hc3 ?_|refine Aa AhI ?_|refine Aa AhJ ?_|refine Aa or3 ?_);rintro _ rfl;conv=>whnf)|(refine kA ?_;conv=>whnf)|(refine Br.mk (fun hc=>?_) fun hc=>?_<;>first|exact hc.elim|conv=>whnf)|(refine kB ?_))
 all_goals first|rfl|(exfalso;simp_all)
theorem AdV {v:GV} (h:v.k≠0):Af (Ad tab) 177 [v.av,SS.av] (fun w=>∃z,w=.int .i64 z∧z≠0):=by
 have hc2:Af (Ad tab) 200 [SS.av] (· =.int .i64 0):=U4 (v:=SS)
 obtain⟨z,hz,hz0⟩:∃z,KF (QJ v.k) 0=z∧z≠0:=⟨_,rfl,fun h0=>h (AhH.1 (GK.1 h0))⟩
 have hc3:Af (Ad tab) 78 [.int .i64 (QJ v.k),.int .i64 0] (· =.int .i64 z):=hz▸compare
 refine Ac rfl rfl ?_
 (conv=>whnf);repeat' (first|((first|refine Aa (U4 (v:=v)) ?_|refine Aa hc2 ?_|refine Aa hc3 ?_);rintro _ rfl;conv=>whnf)|(refine kA ?_;conv=>whnf)|(refine Br.mk (fun hc=>?_) fun hc=>?_<;>first|exact hc.elim|conv=>whnf)|(refine kB ?_))
 all_goals first|exact⟨_,rfl,hz0⟩|(exfalso;omega)
theorem Zc {v:GV} (hv:v.ok):Af (Ad tab) 146 [v.av,SS.av] (fun w=>∃z,w=.int .i64 z∧(z=0↔isNull v)):=by
 have hq:Af (Ad tab) 106 [SS.av] (· =.bool true):=by
  have:=AbV Yb;rwa [decide_eq_true ((U3 rfl).2 Wq)]at this
 have hp:=AbV hv
 by_cases hVV:VV 8 v
 ·rw[decide_eq_true hVV]at hp
  by_cases hk:v.k=0
  ·have hn:=(U3 hk).1 hVV
   refine Ac rfl rfl ?_
   (conv=>whnf);repeat' (first|((first|refine Aa hp ?_|refine Aa hq ?_|refine Aa (Af6 hn) ?_);rintro _ rfl;conv=>whnf)|(refine kA ?_;conv=>whnf)|(refine Br.mk (fun hc=>?_) fun hc=>?_<;>first|exact hc.elim|conv=>whnf)|(refine kB ?_))
   all_goals first|exact⟨_,rfl,fun _=>hn,fun _=>rfl⟩
  ·refine Ac rfl rfl ?_
   (conv=>whnf);repeat' (first|((first|refine Aa hp ?_|refine Aa hq ?_);rintro _ rfl;conv=>whnf)|(refine Aa (AdV hk) ?_;rintro _ ⟨z,rfl,hz⟩;conv=>whnf)|(refine kA ?_;conv=>whnf)|(refine Br.mk (fun hc=>?_) fun hc=>?_<;>first|exact hc.elim|conv=>whnf)|(refine kB ?_))
   all_goals first|exact⟨_,rfl,fun h=>absurd h hz,fun h=>absurd h.1 hk⟩
 ·rw[decide_eq_false hVV]at hp
  have hn:¬isNull v:=fun h=>hVV ((U3 h.1).2 h)
  refine Ac rfl rfl ?_
  (conv=>whnf);repeat' (first|((first|refine Aa hp ?_|refine Aa hq ?_);rintro _ rfl;conv=>whnf)|(refine kA ?_;conv=>whnf)|(refine Br.mk (fun hc=>?_) fun hc=>?_<;>first|exact hc.elim|conv=>whnf)|(refine kB ?_))
  all_goals first|exact⟨_,rfl,fun h=>absurd h (by decide),fun h=>absurd h hn⟩
section
open Go.Sort
def AdG:AV→GV
 | .agg [.int _ k,.int _ n,.int _ d,.str s,.sl nn l]=>⟨k,n,d,s,nn,l⟩
 |_=>⟨0,0,0,[],false,[]⟩
def KE (c:AV→AV→Int):List AV→List AV→Int
 |[],[]=>0
 |[],_::_=>-1
 |_::_,[]=>1
 |a::x,b::y=>SY (c a b) (KE c x y)
theorem QI {c:AV→AV→Int} (hc:PC c):∀x y,KE c y x=-KE c x y
 |[],[]=>rfl
 |[],_::_=>rfl
 |_::_,[]=>rfl
 |a::x,b::y=>by
  have h1:=hc.anti a b
  have h2:=QI hc x y
  simp only[KE,SY]
  split<;>split<;>omega
theorem Ph {c:AV→AV→Int} (hc:PC c):∀x y z,KE c x y≤0→KE c y z≤0→KE c x z≤0
 |[],_,[],_,_=>Int.le_refl 0
 |[],_,_::_,_,_=>by show(-1:Int)≤0;omega
 |_::_,[],_,h,_=>absurd h (by show¬(1:Int)≤0;omega)
 |_::_,_::_,[],_,h=>absurd h (by show¬(1:Int)≤0;omega)
 |a::x,b::y,d::z,h1,h2=>by
  have ih:=Ph hc x y z
  have a1:=hc.trans a b d
  have a2:=hc.trans b d a
  have a3:=hc.trans d a b
  have b1:=hc.anti a b
  have b2:=hc.anti b d
  have b3:=hc.anti a d
  simp only[KE,SY]at*
  split at h1<;>split at h2<;>split<;>omega
theorem PC.lists {c:AV→AV→Int} (hc:PC c):PC (KE c):=⟨QI hc,Ph hc⟩
def pd (g:GV):Int:=if dn g≤0 then 1 else dn g
def Ahm (a b:GV):Int:=sgn (a.n*pd b-b.n*pd a)
def Ahn:Nat→GV→GV→Int
 |0,_,_=>0
 |m+1,a,b=>SY (KF (QJ a.k) (QJ b.k)) (if QJ a.k=2 then Ahm a b else SY (cS a.s b.s) (SY (KF a.n b.n) (KE (fun x y=>Ahn m (AdG x) (AdG y)) a.l b.l)))
theorem PC.two {α:Type} {d e:α→α→Int} {p:α→Prop} [DecidablePred p] (hd:PC d) (he:PC e):PC fun x y=>if p x then if p y then d x y else -1 else if p y then 1 else e x y where
 anti x y:=by
  have h2:=hd.anti x y
  have h3:=he.anti x y
  by_cases hx:p x<;>by_cases hy:p y<;>simp only[hx,hy,if_true,if_false]<;>first|assumption|rfl
 trans x y z h1 h2:=by
  have d1:=hd.trans x y z
  have e1:=he.trans x y z
  by_cases hx:p x<;>by_cases hy:p y<;>by_cases hz:p z<;>simp only[hx,hy,hz,if_true,if_false]at* <;>first|exact d1 h1 h2|exact e1 h1 h2|omega
noncomputable def Aho:Nat→GV→GV→Int
 |0,_,_=>0
 |m+1,a,b=>if VV 8 a then if VV 8 b then Ahn (m+1) a b else -1 else if VV 8 b then 1 else
   SY (KF a.k b.k) (SY (KF a.n b.n) (SY (KF a.d b.d) (SY (cS a.s b.s) (KE (fun x y=>Aho m (AdG x) (AdG y)) a.l b.l))))
end
theorem weigh {ps:List GP} {nn:Bool} (hl:Ln ps) (hp:∀p∈ps,p.ok) {left:Int} (h1:-9223372036854775808≤left) (h2:left≤2000):
 Af (Ad tab) 43 [.sl nn (vs GP.av ps),.int .i64 left] (fun v=>∃r,v=.int .i64 r∧-9223372036854775808≤r∧r≤2000∧(0≤r→r+ps.length≤left∧∀p∈ps,p.key.length≤101000∧X5 12 p.v.av)):=by
 unfold Ln at hl
 refine Ac rfl rfl ?_
 (conv=>whnf);repeat' (first|(refine kA ?_;conv=>whnf)|(refine Br.mk (fun hc=>?_) fun hc=>?_<;>first|exact hc.elim|conv=>whnf)  |(refine kB ?_))
 refine Ak (fun m env s=>∃(i:Nat) (cur:Int),m=ps.length-i∧env=[(0,.sl nn (vs GP.av ps)),(1,.int .i64 cur),(5,.int .i64 i)]∧s=⟨[],0⟩∧
  -9223372036854775808≤cur∧cur≤2000∧(0≤cur→cur+i≤left∧∀p∈ps.take i,p.key.length≤101000∧X5 12 p.v.av)) ?_ _ _ _ ⟨0,_,rfl,rfl,rfl,by omega,by omega,fun h=>⟨by omega,by simp⟩⟩
 rintro _ _ _ ⟨i,cur,rfl,rfl,rfl,b1,b2,hx⟩
 refine⟨rfl,?_⟩
 have hat:∀(h:i<ps.length),(ps[i]).ok:=fun h=>hp _ (List.getElem_mem _)
 have hk:∀(h:i<ps.length),(ps[i]).key.length<2^63:=fun h=>(hat h).1
 (conv=>whnf);repeat' (first|(refine kA ?_;conv=>whnf)|(refine Br.mk (fun hc=>?_) fun hc=>?_<;>first|exact hc.elim|conv=>whnf)|(refine TS (hk (by omega)) ?_;conv=>whnf)|(have hwr:=hk (by omega);apply Ec;(· exact wrap_i64 (by omega) (by omega));clear hwr;conv=>whnf)|(refine kB ?_))
 ·refine Aa (wei 12 (by omega) (hat (by omega)).2 (by have:=hk (by omega);omega) (by omega)) ?_
  rintro _ ⟨r,rfl,r1,r2,r3⟩
  (conv=>whnf);repeat' (first|(refine kA ?_;conv=>whnf)|(refine Br.mk (fun hc=>?_) fun hc=>?_<;>first|exact hc.elim|conv=>whnf)  |(refine kB ?_))
  exact again.mk ⟨_,by omega,i+1,r,rfl,rfl,rfl,by omega,by omega,fun h=>⟨by have:=hx (by omega);have:=r3 h;omega,BF (by omega) (hx (by omega)).2 ⟨by have:=r3 h;omega,(r3 h).2⟩⟩⟩
 ·exact⟨_,rfl,by omega,by omega,fun h=>absurd h (by omega)⟩
 ·refine⟨_,rfl,by omega,by omega,fun h=>?_⟩
  obtain⟨x1,x2⟩:=hx h
  rw[CW hc]at x2
  exact⟨by omega,x2⟩
def SmP (ps:List GP):Prop:=ps.length≤2000∧∀p∈ps,p.key.length≤101000∧X5 12 p.v.av
def SmN (n:GN):Prop:=n.labels.length≤2000∧(∀ s∈n.labels,s.length≤101000)∧SmP n.props
def SmE (e:GE):Prop:=e.ty.length≤101000∧SmP e.props
def SmG (g:GG) (n e:Int):Prop:=g.nodes.length≤n∧g.edges.length≤e∧(∀ n∈g.nodes,SmN n)∧∀e∈g.edges,SmE e
theorem small {g:GG} (hg:g.ok) {n e:Int}:Af (Ad tab) 25 [g.av,.int .i64 n,.int .i64 e] (fun v=>∃b,v=.bool b∧(b=true→SmG g n e)):=by
 obtain⟨g1,g2,g3,g4,g5,g6,g7,g8⟩:=hg
 unfold Ln at g1 g4
 refine Ac rfl rfl ?_
 (conv=>whnf);repeat' (first|(refine kA ?_;conv=>whnf)|(refine Br.mk (fun hc=>?_) fun hc=>?_<;>first|exact hc.elim|conv=>whnf)  |(refine kB ?_))
 ·exact⟨_,rfl,fun h=>by cases h⟩
 ·exact⟨_,rfl,fun h=>by cases h⟩
 refine Ak (fun m env s=>∃(i c:Nat) (left:Int),m=g.nodes.length-i∧env=[(3,.ref 0 0 0 0),(7,.int .i64 left),(8,.int .i64 i)]∧s=⟨[.arr 0 4 true true [g.av]],c⟩∧-9223372036854775808≤left∧left≤2000∧(0≤left→∀n∈g.nodes.take i,SmN n)) ?_ _ _ _ ⟨0,1,2000,rfl,rfl,rfl,by omega,by omega,fun _=>by simp⟩
 rintro _ _ _ ⟨i,c,left,rfl,rfl,rfl,b1,b2,hx⟩
 refine⟨rfl,?_⟩
 have hat:∀h:i<g.nodes.length,(g.nodes[i]).ok:=fun h=>g3 _ (List.getElem_mem _)
 have hk:∀h:i<g.nodes.length,(g.nodes[i]).labels.length<2^63:=fun h=>(hat h).2.1
 (conv=>whnf);repeat' (first|(refine kA ?_;conv=>whnf)|(refine Br.mk (fun hc=>?_) fun hc=>?_<;>first|exact hc.elim|conv=>whnf)|(have hwr:=hk (by omega);apply Ec;(· exact wrap_i64 (by omega) (by omega));clear hwr;conv=>whnf)|(refine kB ?_))
 rotate_left
 ·have hN:0≤left→∀n∈g.nodes,SmN n:=fun h=>absurd h (by omega)
  refine Ak (fun m env s=>∃(i c:Nat) (left:Int),m=g.edges.length-i∧env=[(3,.ref 0 0 0 0),(7,.int .i64 left),(11,.int .i64 i)]∧s=⟨[.arr 0 4 true true [g.av]],c⟩∧-9223372036854775808≤left∧left≤2000∧(0≤left→(∀ n∈g.nodes,SmN n)∧∀n∈g.edges.take i,SmE n)) ?_ _ _ _ ⟨0,_,left,rfl,rfl,rfl,by omega,by omega,fun h=>⟨hN h,by simp⟩⟩
  clear hN hx hat hk b1 b2 hc
  rintro _ _ _ ⟨i,c,left,rfl,rfl,rfl,b1,b2,hx⟩
  refine⟨rfl,?_⟩
  have hat:∀h:i<g.edges.length,(g.edges[i]).ok:=fun h=>g6 _ (List.getElem_mem _)
  have hk:∀h:i<g.edges.length,(g.edges[i]).ty.length<2^63:=fun h=>(hat h).2.2.2.1
  (conv=>whnf);repeat' (first|(refine kA ?_;conv=>whnf)|(refine Br.mk (fun hc=>?_) fun hc=>?_<;>first|exact hc.elim|conv=>whnf)|(refine TS (hk (by omega)) ?_;conv=>whnf)|(have hwr:=hk (by omega);apply Ec;(· exact wrap_i64 (by omega) (by omega));clear hwr;conv=>whnf)|(refine kB ?_))
  ·refine Aa (weigh (hat (by omega)).2.2.2.2.1 (hat (by omega)).2.2.2.2.2.2 (by have:=hk (by omega);omega) (by omega)) ?_
   rintro _ ⟨r,rfl,r1,r2,r3⟩
   (conv=>whnf);repeat' (first|(refine kA ?_;conv=>whnf)|(refine Br.mk (fun hc=>?_) fun hc=>?_<;>first|exact hc.elim|conv=>whnf)  |(refine kB ?_))
   have hk1:=hk (by omega)
   exact again.mk ⟨_,by omega,i+1,_,r,rfl,rfl,rfl,by omega,by omega,fun h=>⟨(hx (by omega)).1,BF (by omega) (hx (by omega)).2 ⟨by have:=r3 h;omega,by have:=r3 h;omega,(r3 h).2⟩⟩⟩
  all_goals first
   |exact⟨_,rfl,fun h=>absurd h Bool.false_ne_true⟩
   |(refine ⟨_,rfl,fun h=>?_⟩
     rename_i hc1
     obtain⟨x1,x2⟩:=hx hc
     rw[CW hc1]at x2
     exact⟨by omega,by omega,x1,x2⟩)
 ·have hN:0≤left→∀n∈g.nodes,SmN n:=by rw[CW hc]at hx;exact hx
  refine Ak (fun m env s=>∃(i c:Nat) (left:Int),m=g.edges.length-i∧env=[(3,.ref 0 0 0 0),(7,.int .i64 left),(11,.int .i64 i)]∧s=⟨[.arr 0 4 true true [g.av]],c⟩∧-9223372036854775808≤left∧left≤2000∧(0≤left→(∀ n∈g.nodes,SmN n)∧∀n∈g.edges.take i,SmE n)) ?_ _ _ _ ⟨0,_,left,rfl,rfl,rfl,by omega,by omega,fun h=>⟨hN h,by simp⟩⟩
  clear hN hx hat hk b1 b2 hc
  rintro _ _ _ ⟨i,c,left,rfl,rfl,rfl,b1,b2,hx⟩
  refine⟨rfl,?_⟩
  have hat:∀h:i<g.edges.length,(g.edges[i]).ok:=fun h=>g6 _ (List.getElem_mem _)
  have hk:∀h:i<g.edges.length,(g.edges[i]).ty.length<2^63:=fun h=>(hat h).2.2.2.1
  (conv=>whnf);repeat' (first|(refine kA ?_;conv=>whnf)|(refine Br.mk (fun hc=>?_) fun hc=>?_<;>first|exact hc.elim|conv=>whnf)|(refine TS (hk (by omega)) ?_;conv=>whnf)|(have hwr:=hk (by omega);apply Ec;(· exact wrap_i64 (by omega) (by omega));clear hwr;conv=>whnf)|(refine kB ?_))
  ·refine Aa (weigh (hat (by omega)).2.2.2.2.1 (hat (by omega)).2.2.2.2.2.2 (by have:=hk (by omega);omega) (by omega)) ?_
   rintro _ ⟨r,rfl,r1,r2,r3⟩
   (conv=>whnf);repeat' (first|(refine kA ?_;conv=>whnf)|(refine Br.mk (fun hc=>?_) fun hc=>?_<;>first|exact hc.elim|conv=>whnf)  |(refine kB ?_))
   have hk1:=hk (by omega)
   exact again.mk ⟨_,by omega,i+1,_,r,rfl,rfl,rfl,by omega,by omega,fun h=>⟨(hx (by omega)).1,BF (by omega) (hx (by omega)).2 ⟨by have:=r3 h;omega,by have:=r3 h;omega,(r3 h).2⟩⟩⟩
  all_goals first
   |exact⟨_,rfl,fun h=>absurd h Bool.false_ne_true⟩
   |(refine ⟨_,rfl,fun h=>?_⟩
     rename_i hc1
     obtain⟨x1,x2⟩:=hx hc
     rw[CW hc1]at x2
     exact⟨by omega,by omega,x1,x2⟩)
 refine Aa (weigh (hat (by omega)).2.2.2.2.1 (hat (by omega)).2.2.2.2.2.2 (by have:=hk (by omega);omega) (by omega)) ?_
 rintro _ ⟨r,rfl,r1,r2,r3⟩
 (conv=>whnf);repeat' (first|(refine kA ?_;conv=>whnf)|(refine Br.mk (fun hc=>?_) fun hc=>?_<;>first|exact hc.elim|conv=>whnf)  |(refine kB ?_))
 refine Ak (fun m env s=>∃(j:Nat) (l2:Int),m=(g.nodes[i]).labels.length-j∧env=[(3,.ref 0 0 0 0),(7,.int .i64 l2),(8,.int .i64 i),(9,.ref 1 c 0 0),(10,.int .i64 j)]∧s=⟨[.arr 0 4 true true [g.av],.arr c 3 true true [(g.nodes[i]).av]],c+1⟩∧-9223372036854775808≤l2∧l2≤2000∧(0≤l2→0≤r∧∀s∈(g.nodes[i]).labels.take j,s.length≤101000)) ?_ _ _ _ ⟨0,r,rfl,rfl,rfl,by omega,by omega,fun h=>⟨h,by simp⟩⟩
 rintro _ _ _ ⟨j,l2,rfl,rfl,rfl,d1,d2,hy⟩
 refine⟨rfl,?_⟩
 have hlb:∀h:j<(g.nodes[i]).labels.length,((g.nodes[i]).labels[j]).length<2^63:=fun h=>(hat (by omega)).2.2.2.1 _ (List.getElem_mem _)
 have hk1:=hk (by omega)
 (conv=>whnf);repeat' (first|(refine kA ?_;conv=>whnf)|(refine Br.mk (fun hc=>?_) fun hc=>?_<;>first|exact hc.elim|conv=>whnf)|(refine TS (hlb (by omega)) ?_;conv=>whnf)|(have hwr:=hlb (by omega);apply Ec;(· exact wrap_i64 (by omega) (by omega));clear hwr;conv=>whnf)|(refine kB ?_))
 ·have:=hlb (by omega)
  exact again.mk ⟨_,by omega,j+1,_,rfl,rfl,rfl,by omega,by omega,fun h=>⟨(hy (by omega)).1,BF (by omega) (hy (by omega)).2 (by omega)⟩⟩
 ·exact again.mk ⟨_,by omega,i+1,_,l2,rfl,rfl,rfl,by omega,by omega,fun h=>absurd h (by omega)⟩
 ·refine again.mk ⟨_,by omega,i+1,_,l2,rfl,rfl,rfl,by omega,by omega,fun h=>?_⟩
  obtain⟨y1,y2⟩:=hy h
  rw[CW hc]at y2
  have:=r3 y1
  exact BF (by omega) (hx (by omega)) ⟨by omega,y2,by omega,this.2⟩
def cl (b:Bool) (x:AV):AV:=bif b then .agg [x]else x
def Y2 (k:Int):Int:=if k=0 then 0 else if k=1 then 1 else if k=2∨k=3 then 2 else if k=4 then 3 else if k=5 then 4 else if k=6 then 5 else if k=8 then 6 else 7
theorem AiJ {k:Int}:Y2 k=0↔k=0:=by
 unfold Y2
 constructor
 ·intro h
  repeat' split at h
  all_goals first|assumption|(exfalso;omega)
 ·intro h;rw[if_pos h]
theorem Vz {k:Int}:Af (Ad tab) 166 [.int .i64 k] (· =.int .i64 (Y2 k)):=by
 refine Ac rfl rfl ?_
 (conv=>whnf);repeat' (first  |(refine kA ?_;conv=>whnf)|(refine Br.mk (fun hc=>?_) fun hc=>?_<;>first|exact hc.elim|conv=>whnf)|(refine kB ?_))
 all_goals first
  |rfl
  |(unfold Y2;repeat' split
    all_goals first|rfl|(exfalso;omega))
theorem AeU {v:GV} (hv:v.ok) (hk:v.k=0) {n:Int}:Af (Ad tab) 169 [v.av,.int .i64 n] (· =.bool (decide (isNull v))):=by
 have hl:=hv.2.2.2.2.1
 unfold Ln at hl
 refine Ac rfl rfl ?_
 (conv=>whnf);repeat' (first|(refine BM (Afd (v:=v) (n:=false) (d:=false) (s:=false) (l:=false) hl) (fun hb=>?_) (fun hb=>?_)<;>conv=>whnf)|(refine kA ?_;conv=>whnf)|(refine Br.mk (fun hc=>?_) fun hc=>?_<;>first|exact hc.elim|conv=>whnf)|(refine kB ?_))
 ·unfold Pm at hb
  exact Bv ⟨hk,hb.1.resolve_left (by decide),hb.2.1.resolve_left (by decide),hb.2.2.1.resolve_left (by decide),hb.2.2.2.resolve_left (by decide)⟩
 ·unfold Pm at hb
  exact AB fun h=>hb ⟨.inr h.2.1,.inr h.2.2.1,.inr h.2.2.2.1,.inr h.2.2.2.2⟩
theorem ZY {v:GV} (hv:v.ok):Af (Ad tab) 138 [v.av] (fun w=>∃b,w=.bool b∧(isNull v→b=true)∧(b=true→v.k=0→isNull v)):=by
 by_cases hk:v.k=0
 ·refine Ac rfl rfl ?_
  (conv=>whnf);repeat' (first|(refine BM (AeU hv hk) (fun hb=>?_) (fun hb=>?_)<;>conv=>whnf)|(refine kA ?_;conv=>whnf)|(refine Br.mk (fun hc=>?_) fun hc=>?_<;>first|exact hc.elim|conv=>whnf)|(refine kB ?_))
  ·exact⟨_,rfl,fun _=>rfl,fun _ _=>hb⟩
  ·exact⟨_,rfl,fun h=>absurd h hb,fun h=>Bool.noConfusion h⟩
 ·obtain⟨_,⟨b,rfl⟩,h⟩:=(Valid hv).He
  refine Ac rfl rfl ?_
  (conv=>whnf);repeat' (first|(refine Aa (valid (n:=8) (by omega) hv) ?_;rintro _ ⟨b,rfl⟩;conv=>whnf)|(refine kA ?_;conv=>whnf)|(refine Br.mk (fun hc=>?_) fun hc=>?_<;>first|exact hc.elim|conv=>whnf)|(refine kB ?_))
  all_goals exact⟨_,rfl,fun h=>absurd h.1 hk,fun _ h=>absurd h hk⟩
theorem AiK {a b:Int}:Af (Ad tab) 165 [.int .i64 a,.int .i64 b] (fun v=>∃z,v=.int .i64 z∧(z=0↔a=b)):=by
 refine Ac rfl rfl ?_
 (conv=>whnf);repeat' (first  |(refine kA ?_;conv=>whnf)|(refine Br.mk (fun hc=>?_) fun hc=>?_<;>first|exact hc.elim|conv=>whnf)|(refine kB ?_))
 all_goals exact⟨_,rfl,by omega⟩
theorem AeV {v:GV} (h:isNull v):Af (Ad tab) 164 [v.av,SS.av] (· =.int .i64 0):=by
 obtain⟨k,n,d,s,nn,l⟩:=v
 obtain⟨h1,h2,h3,h4,h5⟩:=h
 dsimp only at h1 h2 h3 h4 h5
 subst h1 h2 h3 h4
 obtain rfl:l=[]:=List.eq_nil_of_length_eq_zero h5
 have hl:Af (Ad tab) 187 [.sl nn [],.sl false []] (· =.int .i64 0):=by
  refine Ac rfl rfl ?_
  (conv=>whnf);repeat' (first  |(refine kA ?_;conv=>whnf)|(refine Br.mk (fun hc=>?_) fun hc=>?_<;>first|exact hc.elim|conv=>whnf)|(refine kB ?_))
  refine Ak (fun m env s=>m=0∧env=[(0,.sl nn []),(1,.sl false []),(5,.int .i64 0)]∧s=⟨[],0⟩) ?_ _ _ _ ⟨rfl,rfl,rfl⟩
  rintro _ _ _ ⟨rfl,rfl,rfl⟩
  refine⟨rfl,?_⟩
  (conv=>whnf);repeat' (first|(refine Aa Ae5 ?_;rintro _ rfl;conv=>whnf)|(refine kA ?_;conv=>whnf)|(refine Br.mk (fun hc=>?_) fun hc=>?_<;>first|exact hc.elim|conv=>whnf)|(refine kB ?_))
  all_goals rfl
 refine Ac rfl rfl ?_
 (conv=>whnf);repeat' (first|((first|refine Aa Ae5 ?_|refine Aa Ahf ?_|refine Aa hl ?_);rintro _ rfl;conv=>whnf)|(refine kA ?_;conv=>whnf)|(refine Br.mk (fun hc=>?_) fun hc=>?_<;>first|exact hc.elim|conv=>whnf)|(refine kB ?_))
 all_goals rfl
theorem Z4 {g:GV} (hg:g.ok):Af (Ad tab) 167 [g.av] (fun v=>∃n d b,v=.Cc [.agg [.int .i64 n,.int .i64 d],.bool b]∧(b=true→g.k=2∨g.k=3)):=by
 refine Ac rfl rfl ?_
 (conv=>whnf);repeat' (first|(refine Aa (Valid hg) ?_;rintro _ ⟨b,rfl⟩;conv=>whnf)|(refine kA ?_;conv=>whnf)|(refine Br.mk (fun hc=>?_) fun hc=>?_<;>first|exact hc.elim|conv=>whnf)|(refine kB ?_))
 all_goals first|exact⟨_,_,_,rfl,fun h=>Bool.noConfusion h⟩|exact⟨_,_,_,rfl,fun _=>by omega⟩
theorem Akp:Af (Ad tab) 163 [.bool false] (· =.int .i64 0):=by
 refine Ac rfl rfl ?_
 (conv=>whnf);repeat' (first  |(refine kA ?_;conv=>whnf)|(refine Br.mk (fun hc=>?_) fun hc=>?_<;>first|exact hc.elim|conv=>whnf)|(refine kB ?_))
 rfl
theorem Aeh {v:GV} (hv:v.ok):Af (Ad tab) 137 [v.av,SS.av] (fun w=>∃z,w=.int .i64 z∧(z=0↔isNull v)):=by
 obtain⟨_,⟨b,rfl,v1,v2⟩,hV⟩:=(ZY hv).He
 obtain⟨_,⟨b0,rfl,w1,_⟩,hV0⟩:=(ZY Yb).He
 obtain rfl:=w1 Wq
 obtain⟨_,⟨n,d,b2,rfl,h2⟩,hN⟩:=(Z4 hv).He
 obtain⟨_,⟨n0,d0,b3,rfl,h3⟩,hN0⟩:=(Z4 Yb).He
 obtain⟨_,⟨z,rfl,hz⟩,hI⟩:=(AiK (a:=Y2 v.k) (b:=Y2 SS.k)).He
 have h0:Y2 SS.k=0:=rfl
 have hzk:z=0↔v.k=0:=by rw[hz,h0];exact AiJ
 cases b with
 |false=>
  have hnn:¬isNull v:=fun h=>by have:=v1 h;cases this
  refine Ac rfl rfl ?_
  (conv=>whnf);repeat' (first|((first|refine Aa hV ?_|refine Aa hV0 ?_|refine Aa Akp ?_);rintro _ rfl;conv=>whnf)|(refine kA ?_;conv=>whnf)|(refine Br.mk (fun hc=>?_) fun hc=>?_<;>first|exact hc.elim|conv=>whnf)|(refine kB ?_))
  all_goals exact⟨_,rfl,fun h=>absurd h (by decide),fun h=>absurd h hnn⟩
 |true=>
  by_cases hk:v.k=0
  ·have hnl:=v2 rfl hk
   have hz0:=hzk.2 hk
   have hb2:b2=false:=by cases b2 with
        |false=>rfl
        |true=>have:=h2 rfl;omega
   subst hb2
   refine Ac rfl rfl ?_
   (conv=>whnf);repeat' (first|((first|refine Aa hV ?_|refine Aa hV0 ?_|refine Aa (Vz (k:=v.k)) ?_|refine Aa (Vz (k:=SS.k)) ?_|refine Aa hI ?_|refine Aa hN ?_|refine Aa hN0 ?_|refine Aa (AeV hnl) ?_);rintro _ rfl;conv=>whnf)|(refine kA ?_;conv=>whnf)|(refine Br.mk (fun hc=>?_) fun hc=>?_<;>first|exact hc.elim|conv=>whnf)|(refine kB ?_))
   all_goals exact⟨_,rfl,fun _=>hnl,fun _=>rfl⟩
  ·have hz0:=mt hzk.1 hk
   refine Ac rfl rfl ?_
   (conv=>whnf);repeat' (first|((first|refine Aa hV ?_|refine Aa hV0 ?_|refine Aa (Vz (k:=v.k)) ?_|refine Aa (Vz (k:=SS.k)) ?_|refine Aa hI ?_);rintro _ rfl;conv=>whnf)|(refine kA ?_;conv=>whnf)|(refine Br.mk (fun hc=>?_) fun hc=>?_<;>first|exact hc.elim|conv=>whnf)|(refine kB ?_))
   all_goals exact⟨_,rfl,fun h=>absurd h hz0,fun h=>absurd h.1 hk⟩
section
open Go.Sort
end
section
open Go.Sort
end
def AcP {α:Type} (R:α→α→Prop) (l m:List α):Prop:=l.length=m.length∧∀k (h:k<l.length) (h':k<m.length),R l[k] m[k]
noncomputable instance {α:Type} (R:α→α→Prop) (l m:List α):Decidable (AcP R l m):=Classical.propDecidable _
section
variable {α:Type} {R:α→α→Prop} {l m:List α} {i:Nat}
end
def SP (x y:GP):Prop:=x.key=y.key∧Aho 12 x.v y.v=0
def SN (x y:GN):Prop:=x.id=y.id∧x.labels=y.labels∧AcP SP x.props y.props
def SE (x y:GE):Prop:=x.id=y.id∧x.fr=y.fr∧x.to=y.to∧x.ty=y.ty∧AcP SP x.props y.props
def SG (a b:GG):Prop:=AcP SN a.nodes b.nodes∧AcP SE a.edges b.edges
noncomputable instance (x y:GP):Decidable (SP x y):=Classical.propDecidable _
noncomputable instance (x y:GN):Decidable (SN x y):=Classical.propDecidable _
noncomputable instance (x y:GE):Decidable (SE x y):=Classical.propDecidable _
noncomputable instance (x y:GG):Decidable (SG x y):=Classical.propDecidable _
theorem Nu {α:Type} {l r:List α} {i:Nat} (h:i<l.length):nth (l++r) i=nth l i:=by
 rw[AX,AX,List.getElem?_append_left h]
theorem KG {α:Type} {l:List α} {x:α}:nth (l++[x]) l.length=some x:=by
 rw[AX,List.getElem?_append_right (Nat.le_refl _)];simp
theorem Gp {α:Type} {l:List α} {i:Nat} {x y:α} (h:nth l i=some y):nth (l.set i x) i=some x:=by
 rw[AX,List.getElem?_set_self (BZ h)]
theorem MI {α:Type} {l:List α} {i j:Nat} {x:α} (h:i≠j):nth (l.set i x) j=nth l j:=by
 rw[AX,AX,List.getElem?_set_ne h]
def Rd (σ:List Obj) (D:Nat) (x y:AV):Prop:=∀m,D≤m→snap σ m x=some y
def Jo (σ:List Obj) (D:Nat) (xs ys:List AV):Prop:=∀m,D≤m→Fq σ m xs=some ys
theorem Rd.mono {σ:List Obj} {D D':Nat} {x y:AV} (h:Rd σ D x y) (hd:D≤D'):Rd σ D' x y:=fun m hm=>h m (by omega)
theorem Jo.mono {σ:List Obj} {D D':Nat} {x y:List AV} (h:Jo σ D x y) (hd:D≤D'):Jo σ D' x y:=fun m hm=>h m (by omega)
theorem Jo.nil {σ:List Obj}:Jo σ 0 [] []:=fun m _=>by cases m<;>rfl
theorem Jo.cons {σ:List Obj} {D:Nat} {x y:AV} {xs ys:List AV} (h:Rd σ D x y) (k:Jo σ D xs ys):Jo σ (D+1) (x::xs) (y::ys):=fun m hm=>by
 obtain⟨m,rfl⟩:∃m',m=m'+1:=⟨m-1,by omega⟩
 simp only[Fq,h m (by omega),k m (by omega)]
theorem Jo.map {α:Type} {σ:List Obj} {D:Nat} {f g:α→AV}:∀{l:List α},(∀ e∈l,Rd σ D (f e) (g e))→Jo σ (D+l.length) (vs f l) (vs g l)
 |[],_=>Jo.nil.mono (by omega)
 |e::l,h=>(Jo.cons ((h e (by simp)).mono (D':=D+l.length) (by omega)) (Jo.map fun x hx=>h x (by simp[hx]))).mono (by simp;omega)
theorem Rd.agg {σ:List Obj} {D:Nat} {xs ys:List AV} (h:Jo σ D xs ys):Rd σ (D+1) (.agg xs) (.agg ys):=fun m hm=>by
 obtain⟨m,rfl⟩:∃m',m=m'+1:=⟨m-1,by omega⟩
 simp only[snap,h m (by omega),Option.map_some]
theorem Rd.int {σ:List Obj} {k:IntKind} {z:Int}:Rd σ 1 (.int k z) (.int k z):=fun m hm=>by
 obtain⟨m,rfl⟩:∃m',m=m'+1:=⟨m-1,by omega⟩
 rfl
theorem Rd.str {σ:List Obj} {z:List UInt8}:Rd σ 1 (.str z) (.str z):=fun m hm=>by
 obtain⟨m,rfl⟩:∃m',m=m'+1:=⟨m-1,by omega⟩
 rfl
def Hd {α:Type} (f:α→AV) (es:Nat) (σ:List Obj) (v:AV) (b:Bool) (l:List α) (c:Bool):Prop:=
 (b=false∧l=[]∧(v=.sl false []∨∃o g es',v=.own o g 0 0∧nth σ o=some (.arr g es' false true [])))∨
 (b=true∧∃o g,v=.own o g 0 l.length∧nth σ o=some (.arr g es true c (vs f l)))
theorem Hd.lt {α:Type} {f:α→AV} {es:Nat} {σ:List Obj} {v:AV} {b c:Bool} {l:List α} (h:Hd f es σ v b l c):∀o∈v.obj,o<σ.length:=by
 intro o ho
 rcases h with⟨_,_,rfl|⟨o',g,es',rfl,h⟩⟩|⟨_,o',g,rfl,h⟩
 ·simp[AV.obj]at ho
 ·simp only[AV.obj,List.mem_singleton]at ho;subst ho;exact BZ h
 ·simp only[AV.obj,List.mem_singleton]at ho;subst ho;exact BZ h
theorem Hd.obj {α:Type} {f:α→AV} {es:Nat} {σ:List Obj} {v:AV} {b c:Bool} {l:List α} (h:Hd f es σ v b l c) {o:Nat} (ho:o∈v.obj):∃g es' nn c' xs,nth σ o=some (.arr g es' nn c' xs)∧(nn=true→es'=es):=by
 rcases h with⟨_,_,rfl|⟨o',g,es',rfl,h⟩⟩|⟨_,o',g,rfl,h⟩
 ·simp[AV.obj]at ho
 ·simp only[AV.obj,List.mem_singleton]at ho;subst ho;exact⟨_,_,_,_,_,h,by simp⟩
 ·simp only[AV.obj,List.mem_singleton]at ho;subst ho;exact⟨_,_,_,_,_,h,fun _=>rfl⟩
theorem Hd.keep {α:Type} {f:α→AV} {es:Nat} {σ σ':List Obj} {v:AV} {b c:Bool} {l:List α} (h:Hd f es σ v b l c) (hk:∀o∈v.obj,nth σ' o=nth σ o):Hd f es σ' v b l c:=by
 rcases h with⟨h1,h2,rfl|⟨o',g,es',rfl,h⟩⟩|⟨h1,o',g,rfl,h⟩
 ·exact .inl ⟨h1,h2,.inl rfl⟩
 ·exact .inl ⟨h1,h2,.inr ⟨o',g,es',rfl,by rw[hk o' (by simp[AV.obj]),h]⟩⟩
 ·exact .inr ⟨h1,o',g,rfl,by rw[hk o' (by simp[AV.obj]),h]⟩
theorem Hd.sn {α:Type} {f:α→AV} {es:Nat} {σ:List Obj} {v:AV} {b:Bool} {l:List α} (h:Hd f es σ v b l true):Rd σ 1 v (.sl b (vs f l)):=fun m hm=>by
 obtain⟨m,rfl⟩:∃m',m=m'+1:=⟨m-1,by omega⟩
 rcases h with⟨rfl,rfl,rfl|⟨o',g,es',rfl,h⟩⟩|⟨rfl,o',g,rfl,h⟩
 ·rfl
 ·simp[snap,h,sub,vs]
 ·have:sub (vs f l) 0 l.length=vs f l:=uV
  simp[snap,h,this]
theorem Hd.one {α:Type} {f:α→AV} {es:Nat} {σ:List Obj} {v:AV} {b c:Bool} {l:List α} (h:Hd f es σ v b l c):v.cells.length=1∧v.storable=true:=by
 rcases h with⟨_,_,rfl|⟨o',g,es',rfl,h⟩⟩|⟨_,o',g,rfl,h⟩<;>exact⟨rfl,rfl⟩
theorem Hd.bool {α:Type} {f:α→AV} {es:Nat} {σ:List Obj} {v:AV} {b c:Bool} {l:List α} (h:Hd f es σ v b l c):b=false→l=[]:=by
 rcases h with⟨_,h,_⟩|⟨h,_⟩
 ·exact fun _=>h
 ·intro h';rw[h']at h;cases h
theorem Hd.closed {α:Type} {f:α→AV} {es:Nat} {σ:List Obj} {v:AV} {b c:Bool} {l:List α} (h:Hd f es σ v b l c) (hc:v.closed=true):v=.sl false []∧b=false∧l=[]:=by
 rcases h with⟨h1,h2,rfl|⟨o',g,es',rfl,h⟩⟩|⟨_,o',g,rfl,h⟩
 ·exact⟨rfl,h1,h2⟩
 ·cases hc
 ·cases hc
structure EN where
 n:GN
 lv:AV
 pv:AV
def EN.av (e:EN):AV:=.agg [.int .i64 e.n.id,e.lv,e.pv]
def EN.objs (e:EN):List Nat:=e.lv.obj++e.pv.obj
def EN.Ok (σ:List Obj) (e:EN):Prop:=Hd .str 1 σ e.lv e.n.ln e.n.labels true∧Hd GP.av 6 σ e.pv e.n.pn e.n.props true
structure EE where
 e:GE
 pv:AV
def EE.av (e:EE):AV:=.agg [.int .i64 e.e.id,.int .i64 e.e.fr,.int .i64 e.e.to,.str e.e.ty,e.pv]
def EE.objs (e:EE):List Nat:=e.pv.obj
def EE.Ok (σ:List Obj) (e:EE):Prop:=Hd GP.av 6 σ e.pv e.e.pn e.e.props true
def BG (N:List EN) (E:List EE):List Nat:=N.flatMap EN.objs++E.flatMap EE.objs
structure Ed (σ:List Obj) (d gd:Nat) (vN vE:AV) (nb eb:Bool) (N:List EN) (E:List EE) (x y:Int):Prop where
 box:nth σ d=some (.arr gd 4 true false [.agg [vN,vE,.int .i64 x,.int .i64 y]])
 hn:∃c,Hd EN.av 3 σ vN nb N c∧(c=true→∀e∈N,e.av.closed=true)
 he:∃c,Hd EE.av 5 σ vE eb E c∧(c=true→∀e∈E,e.av.closed=true)
 hN:∀e∈N,e.Ok σ
 hE:∀e∈E,e.Ok σ
 nd:(d::(vN.obj++(vE.obj++BG N E))).Nodup
 oN:vN≠.sl false []
 oE:vE≠.sl false []
def Jk (nb eb:Bool) (N:List EN) (E:List EE) (x y:Int):GG:=⟨nb,N.map EN.n,eb,E.map EE.e,x,y⟩
theorem EN.sn {σ:List Obj} {e:EN} (h:e.Ok σ):Rd σ 5 e.av e.n.av:=
 Rd.agg (Jo.cons (Rd.int.mono (by omega)) (Jo.cons (h.1.sn.mono (by omega)) (Jo.cons (h.2.sn.mono (D':=1) (by omega)) (Jo.nil.mono (D':=1) (by omega)))))
theorem EE.sn {σ:List Obj} {e:EE} (h:e.Ok σ):Rd σ 7 e.av e.e.av:=
 Rd.agg (Jo.cons (Rd.int.mono (by omega)) (Jo.cons (Rd.int.mono (by omega)) (Jo.cons (Rd.int.mono (by omega)) (Jo.cons (Rd.str.mono (by omega)) (Jo.cons (h.sn.mono (D':=1) (by omega)) (Jo.nil.mono (D':=1) (by omega)))))))
theorem Hd.snE {α:Type} {f g:α→AV} {es D:Nat} {σ:List Obj} {v:AV} {b c:Bool} {l:List α} (h:Hd f es σ v b l c) (hs:∀e∈l,Rd σ D (f e) (g e)) (hc:c=true→∀e∈l,f e=g e):Rd σ (D+l.length+1) v (.sl b (vs g l)):=fun m hm=>by
 obtain⟨m,rfl⟩:∃m',m=m'+1:=⟨m-1,by omega⟩
 rcases h with⟨rfl,rfl,rfl|⟨o',g,es',rfl,h⟩⟩|⟨rfl,o',g',rfl,h⟩
 ·rfl
 ·simp[snap,h,sub,vs]
 ·have e1:sub (vs f l) 0 l.length=vs f l:=uV
  cases c with
  |false=>
   have:=Jo.map hs m (by omega)
   simp[snap,h,e1,this]
  |true=>
   have e2:vs f l=vs g l:=List.map_congr_left (hc rfl)
   simp[snap,h,e2,show sub (vs g l) 0 l.length=vs g l from uV]
theorem EN.O7 {σ:List Obj} {e:EN} (h:e.Ok σ) (hc:e.av.closed=true):e.av=e.n.av:=by
 simp only[EN.av,AV.closed,DI,Bool.and_eq_true,Bool.and_true]at hc
 obtain⟨a1,a2,a3⟩:=h.1.closed hc.2.1
 obtain⟨b1,b2,b3⟩:=h.2.closed hc.2.2
 simp[EN.av,GN.av,a1,a2,a3,b1,b2,b3,vs]
theorem EE.O7 {σ:List Obj} {e:EE} (h:e.Ok σ) (hc:e.av.closed=true):e.av=e.e.av:=by
 simp only[EE.av,AV.closed,DI,Bool.and_eq_true,Bool.and_true]at hc
 obtain⟨b1,b2,b3⟩:=h.closed hc.2.2.2.2
 simp[EE.av,GE.av,b1,b2,b3,vs]
section
variable {σ σ':List Obj} {d gd:Nat} {vN vE:AV} {nb eb:Bool} {N:List EN} {E:List EE} {x y:Int}
theorem Ed.snN (h:Ed σ d gd vN vE nb eb N E x y):Rd σ (5+N.length+1) vN (.sl nb (vs GN.av (N.map EN.n))):=by
 obtain⟨c,h1,h2⟩:=h.hn
 have:=h1.snE (g:=fun e=>e.n.av) (D:=5) (fun e he=>EN.sn (h.hN e he)) (fun hc e he=>EN.O7 (h.hN e he) (h2 hc e he))
 simpa[vs,Function.comp_def]using this
theorem Ed.snE (h:Ed σ d gd vN vE nb eb N E x y):Rd σ (7+E.length+1) vE (.sl eb (vs GE.av (E.map EE.e))):=by
 obtain⟨c,h1,h2⟩:=h.he
 have:=h1.snE (g:=fun e=>e.e.av) (D:=7) (fun e he=>EE.sn (h.hE e he)) (fun hc e he=>EE.O7 (h.hE e he) (h2 hc e he))
 simpa[vs,Function.comp_def]using this
theorem Ed.snL (h:Ed σ d gd vN vE nb eb N E x y):Jo σ (20+N.length+E.length) [vN,vE,.int .i64 x,.int .i64 y] [.sl nb (vs GN.av (N.map EN.n)),.sl eb (vs GE.av (E.map EE.e)),.int .i64 x,.int .i64 y]:=
 (Jo.cons (h.snN.mono (D':=N.length+E.length+15) (by omega)) (Jo.cons (h.snE.mono (D':=N.length+E.length+14) (by omega)) (Jo.cons (Rd.int.mono (D':=N.length+E.length+13) (by omega)) (Jo.cons (Rd.int.mono (D':=N.length+E.length+12) (by omega)) (Jo.nil.mono (by omega)))))).mono (by omega)
theorem Ed.snG (h:Ed σ d gd vN vE nb eb N E x y):Rd σ (21+N.length+E.length) (.agg [vN,vE,.int .i64 x,.int .i64 y]) (Jk nb eb N E x y).av:=(Rd.agg h.snL).mono (by omega)
theorem Ed.Pq (h:Ed σ d gd vN vE nb eb N E x y):Rd σ (21+N.length+E.length) (.ref d gd 0 0) (.Ci (Jk nb eb N E x y).av.cells):=fun m hm=>by
 obtain⟨m,rfl⟩:∃m',m=m'+1:=⟨m-1,by omega⟩
 have:=h.snL m (by omega)
 simp[snap,h.box,nth,AV.cells,this,Jk,GG.av]
end
theorem Zz {a b:Int} (h:KF a b<0):BU a b=true:=by simpa[BU]using NQ.1 h
theorem ZB {a b:Int} (h:¬KF a b<0):BU a b=false:=by simpa[BU]using mt NQ.2 h
theorem Akj {n:GN} {x:Int}:Af (Ad tab) 147 [n.av,.int .i64 x] (· =.int .i64 (KF n.id x)):=by
 refine Ac rfl rfl ?_
 (conv=>whnf);repeat' (first|(refine kA ?_;conv=>whnf)|(refine Br.mk (fun hc=>?_) fun hc=>?_<;>first|exact hc.elim|conv=>whnf)|(refine Aa compare ?_;rintro _ rfl;conv=>whnf)|(refine kB ?_))
 rfl
theorem bsN {l:List GN} {nn:Bool} {x:Int} (hl:l.length<2^62) (hi:Inc BU GN.id l):Af (Ad tab) 76 [.sl nn (vs GN.av l),.int .i64 x,.fn 147 []] (fun v=>∃(i:Nat) (b:Bool),v=.Cc [.int .i64 i,.bool b]∧AtK BU GN.id x l i∧(b=true↔∃y∈l,GN.id y=x)):=by
 have fin:∀i:Nat,AtK BU GN.id x l i→((∃ y∈l,GN.id y=x)↔∃h:i<l.length,GN.id l[i]=x):=by
  intro i h
  constructor
  ·intro hf
   obtain⟨h1,h2,_⟩:=h.found Aj hi hf
   exact⟨h1,h2⟩
  ·rintro⟨h1,h2⟩
   exact⟨_,List.getElem_mem h1,h2⟩
 refine Ac rfl rfl ?_
 (conv=>whnf);repeat' (first|(refine kA ?_;conv=>whnf)|(refine Br.mk (fun hc=>?_) fun hc=>?_<;>first|exact hc.elim|conv=>whnf)  |(refine kB ?_))
 refine Ak (fun m env s=>∃(i j:Nat),m=j-i∧i≤j∧j≤l.length∧env=[(0,.sl nn (vs GN.av l)),(1,.int .i64 x),(2,.fn 147 []),(8,.int .i64 l.length),(9,.int .i64 i),(10,.int .i64 j)]∧s=⟨[],0⟩∧
  (∀ k (h:k<l.length),k<i→BU (GN.id l[k]) x=true)∧(∀ k (h:k<l.length),j≤k→BU (GN.id l[k]) x=false)) ?_ _ _ _ ⟨0,l.length,rfl,by omega,by omega,by simp,rfl,fun k _ h=>absurd h (by omega),fun k h1 h=>absurd h (by omega)⟩
 rintro _ _ _ ⟨i,j,rfl,hij,hj,rfl,rfl,h1,h2⟩
 refine⟨rfl,?_⟩
 have lo:∀{q:Nat} (hq:q<l.length),BU (GN.id l[q]) x=true→∀k (h:k<l.length),k<q+1→BU (GN.id l[k]) x=true:=fun{q} hq hm k hk hlt=>by
  rcases Nat.lt_or_ge k q with h|h
  ·exact(Aj).tr _ _ _ (hi.get h hq) hm
  ·obtain rfl:k=q:=by omega
   exact hm
 have up:∀{q:Nat} (hq:q<l.length),BU (GN.id l[q]) x=false→∀k (h:k<l.length),q≤k→BU (GN.id l[k]) x=false:=fun{q} hq hm k hk hle=>by
  rcases Nat.lt_or_ge q k with h|h
  ·cases h3:BU (GN.id l[k]) x
   ·rfl
   ·have:=(Aj).tr _ _ _ (hi.get h hk) h3
    rw[hm]at this;cases this
  ·obtain rfl:k=q:=by omega
   exact hm
 (conv=>whnf);repeat' (first|(refine Wp (i+j) (by omega) (by omega) ?_;conv=>whnf)|(apply F9;(· exact AbU _);conv=>whnf)|(refine Aa Akj ?_;rintro _ rfl;conv=>whnf)|(refine kA ?_;conv=>whnf)|(refine Br.mk (fun hc=>?_) fun hc=>?_<;>first|exact hc.elim|conv=>whnf)|(refine kB ?_))
 all_goals first
  |exact again.mk ⟨_,by omega,(i+j) / 2+1,j,rfl,by omega,hj,rfl,rfl,lo (by omega) (Zz hc),h2⟩
  |exact again.mk ⟨_,by omega,i,(i+j) / 2,rfl,by omega,by omega,rfl,rfl,h1,up (by omega) (ZB hc)⟩
  |skip
 all_goals
  obtain rfl:i=j:=by omega
  have ha:AtK BU GN.id x l i:=⟨by omega,h1,h2⟩
  have hf:=fin i ha
  first
   |exact⟨i,_,rfl,ha,fun _=>hf.2 ⟨by omega,GK.1 hc⟩,fun _=>rfl⟩
   |exact⟨i,_,rfl,ha,fun h=>(by cases h),fun h=>(by obtain⟨_,e⟩:=hf.1 h;exact absurd (GK.2 e) hc)⟩
   |exact⟨i,_,rfl,ha,fun h=>(by cases h),fun h=>by obtain⟨e,_⟩:=hf.1 h;omega⟩
theorem AjO {n:GE} {x:Int}:Af (Ad tab) 160 [n.av,.int .i64 x] (· =.int .i64 (KF n.id x)):=by
 refine Ac rfl rfl ?_
 (conv=>whnf);repeat' (first|(refine kA ?_;conv=>whnf)|(refine Br.mk (fun hc=>?_) fun hc=>?_<;>first|exact hc.elim|conv=>whnf)|(refine Aa compare ?_;rintro _ rfl;conv=>whnf)|(refine kB ?_))
 rfl
theorem bsE {l:List GE} {nn:Bool} {x:Int} (hl:l.length<2^62) (hi:Inc BU GE.id l):Af (Ad tab) 159 [.sl nn (vs GE.av l),.int .i64 x,.fn 160 []] (fun v=>∃(i:Nat) (b:Bool),v=.Cc [.int .i64 i,.bool b]∧AtK BU GE.id x l i∧(b=true↔∃y∈l,GE.id y=x)):=by
 have fin:∀i:Nat,AtK BU GE.id x l i→((∃ y∈l,GE.id y=x)↔∃h:i<l.length,GE.id l[i]=x):=by
  intro i h
  constructor
  ·intro hf
   obtain⟨h1,h2,_⟩:=h.found Aj hi hf
   exact⟨h1,h2⟩
  ·rintro⟨h1,h2⟩
   exact⟨_,List.getElem_mem h1,h2⟩
 refine Ac rfl rfl ?_
 (conv=>whnf);repeat' (first|(refine kA ?_;conv=>whnf)|(refine Br.mk (fun hc=>?_) fun hc=>?_<;>first|exact hc.elim|conv=>whnf)  |(refine kB ?_))
 refine Ak (fun m env s=>∃(i j:Nat),m=j-i∧i≤j∧j≤l.length∧env=[(0,.sl nn (vs GE.av l)),(1,.int .i64 x),(2,.fn 160 []),(8,.int .i64 l.length),(9,.int .i64 i),(10,.int .i64 j)]∧s=⟨[],0⟩∧
  (∀ k (h:k<l.length),k<i→BU (GE.id l[k]) x=true)∧(∀ k (h:k<l.length),j≤k→BU (GE.id l[k]) x=false)) ?_ _ _ _ ⟨0,l.length,rfl,by omega,by omega,by simp,rfl,fun k _ h=>absurd h (by omega),fun k h1 h=>absurd h (by omega)⟩
 rintro _ _ _ ⟨i,j,rfl,hij,hj,rfl,rfl,h1,h2⟩
 refine⟨rfl,?_⟩
 have lo:∀{q:Nat} (hq:q<l.length),BU (GE.id l[q]) x=true→∀k (h:k<l.length),k<q+1→BU (GE.id l[k]) x=true:=fun{q} hq hm k hk hlt=>by
  rcases Nat.lt_or_ge k q with h|h
  ·exact(Aj).tr _ _ _ (hi.get h hq) hm
  ·obtain rfl:k=q:=by omega
   exact hm
 have up:∀{q:Nat} (hq:q<l.length),BU (GE.id l[q]) x=false→∀k (h:k<l.length),q≤k→BU (GE.id l[k]) x=false:=fun{q} hq hm k hk hle=>by
  rcases Nat.lt_or_ge q k with h|h
  ·cases h3:BU (GE.id l[k]) x
   ·rfl
   ·have:=(Aj).tr _ _ _ (hi.get h hk) h3
    rw[hm]at this;cases this
  ·obtain rfl:k=q:=by omega
   exact hm
 (conv=>whnf);repeat' (first|(refine Wp (i+j) (by omega) (by omega) ?_;conv=>whnf)|(apply F9;(· exact AbU _);conv=>whnf)|(refine Aa AjO ?_;rintro _ rfl;conv=>whnf)|(refine kA ?_;conv=>whnf)|(refine Br.mk (fun hc=>?_) fun hc=>?_<;>first|exact hc.elim|conv=>whnf)|(refine kB ?_))
 all_goals first
  |exact again.mk ⟨_,by omega,(i+j) / 2+1,j,rfl,by omega,hj,rfl,rfl,lo (by omega) (Zz hc),h2⟩
  |exact again.mk ⟨_,by omega,i,(i+j) / 2,rfl,by omega,by omega,rfl,rfl,h1,up (by omega) (ZB hc)⟩
  |skip
 all_goals
  obtain rfl:i=j:=by omega
  have ha:AtK BU GE.id x l i:=⟨by omega,h1,h2⟩
  have hf:=fin i ha
  first
   |exact⟨i,_,rfl,ha,fun _=>hf.2 ⟨by omega,GK.1 hc⟩,fun _=>rfl⟩
   |exact⟨i,_,rfl,ha,fun h=>(by cases h),fun h=>(by obtain⟨_,e⟩:=hf.1 h;exact absurd (GK.2 e) hc)⟩
   |exact⟨i,_,rfl,ha,fun h=>(by cases h),fun h=>by obtain⟨e,_⟩:=hf.1 h;omega⟩
theorem Ah:MH Op.bytesLess where
 LX:=fun x=>by rw[Qd];simp
 tr:=fun x y z h1 h2=>by rw[Qd]at *;simp only[decide_eq_true_eq]at *;exact List.lt_trans h1 h2
 tot:=fun x y h1 h2=>XT h1 h2
theorem AhE {a b:List UInt8} (h:cS a b<0):Op.bytesLess a b=true:=by
 unfold cS at h
 split at h
 ·assumption
 ·split at h<;>omega
theorem Af2 {a b:List UInt8} (h:¬cS a b<0):Op.bytesLess a b=false:=by
 cases h1:Op.bytesLess a b
 ·rfl
 ·exact absurd (by unfold cS;rw[if_pos h1];omega) h
theorem Ajx {n:GP} {x:List UInt8}:Af (Ad tab) 155 [n.av,.str x] (· =.int .i64 (cS n.key x)):=by
 refine Ac rfl rfl ?_
 (conv=>whnf);repeat' (first|(refine kA ?_;conv=>whnf)|(refine Br.mk (fun hc=>?_) fun hc=>?_<;>first|exact hc.elim|conv=>whnf)|(refine Aa Aa9 ?_;rintro _ rfl;conv=>whnf)|(refine kB ?_))
 rfl
theorem bsP {l:List GP} {nn:Bool} {x:(List UInt8)} (hl:l.length<2^62) (hi:Inc Op.bytesLess GP.key l):Af (Ad tab) 154 [.sl nn (vs GP.av l),.str x,.fn 155 []] (fun v=>∃(i:Nat) (b:Bool),v=.Cc [.int .i64 i,.bool b]∧AtK Op.bytesLess GP.key x l i∧(b=true↔∃y∈l,GP.key y=x)):=by
 have fin:∀i:Nat,AtK Op.bytesLess GP.key x l i→((∃ y∈l,GP.key y=x)↔∃h:i<l.length,GP.key l[i]=x):=by
  intro i h
  constructor
  ·intro hf
   obtain⟨h1,h2,_⟩:=h.found Ah hi hf
   exact⟨h1,h2⟩
  ·rintro⟨h1,h2⟩
   exact⟨_,List.getElem_mem h1,h2⟩
 refine Ac rfl rfl ?_
 (conv=>whnf);repeat' (first|(refine kA ?_;conv=>whnf)|(refine Br.mk (fun hc=>?_) fun hc=>?_<;>first|exact hc.elim|conv=>whnf)  |(refine kB ?_))
 refine Ak (fun m env s=>∃(i j:Nat),m=j-i∧i≤j∧j≤l.length∧env=[(0,.sl nn (vs GP.av l)),(1,.str x),(2,.fn 155 []),(8,.int .i64 l.length),(9,.int .i64 i),(10,.int .i64 j)]∧s=⟨[],0⟩∧
  (∀ k (h:k<l.length),k<i→Op.bytesLess (GP.key l[k]) x=true)∧(∀ k (h:k<l.length),j≤k→Op.bytesLess (GP.key l[k]) x=false)) ?_ _ _ _ ⟨0,l.length,rfl,by omega,by omega,by simp,rfl,fun k _ h=>absurd h (by omega),fun k h1 h=>absurd h (by omega)⟩
 rintro _ _ _ ⟨i,j,rfl,hij,hj,rfl,rfl,h1,h2⟩
 refine⟨rfl,?_⟩
 have lo:∀{q:Nat} (hq:q<l.length),Op.bytesLess (GP.key l[q]) x=true→∀k (h:k<l.length),k<q+1→Op.bytesLess (GP.key l[k]) x=true:=fun{q} hq hm k hk hlt=>by
  rcases Nat.lt_or_ge k q with h|h
  ·exact(Ah).tr _ _ _ (hi.get h hq) hm
  ·obtain rfl:k=q:=by omega
   exact hm
 have up:∀{q:Nat} (hq:q<l.length),Op.bytesLess (GP.key l[q]) x=false→∀k (h:k<l.length),q≤k→Op.bytesLess (GP.key l[k]) x=false:=fun{q} hq hm k hk hle=>by
  rcases Nat.lt_or_ge q k with h|h
  ·cases h3:Op.bytesLess (GP.key l[k]) x
   ·rfl
   ·have:=(Ah).tr _ _ _ (hi.get h hk) h3
    rw[hm]at this;cases this
  ·obtain rfl:k=q:=by omega
   exact hm
 (conv=>whnf);repeat' (first|(refine Wp (i+j) (by omega) (by omega) ?_;conv=>whnf)|(apply F9;(· exact AbU _);conv=>whnf)|(refine Aa Ajx ?_;rintro _ rfl;conv=>whnf)|(refine kA ?_;conv=>whnf)|(refine Br.mk (fun hc=>?_) fun hc=>?_<;>first|exact hc.elim|conv=>whnf)|(refine kB ?_))
 all_goals first
  |exact again.mk ⟨_,by omega,(i+j) / 2+1,j,rfl,by omega,hj,rfl,rfl,lo (by omega) (AhE hc),h2⟩
  |exact again.mk ⟨_,by omega,i,(i+j) / 2,rfl,by omega,by omega,rfl,rfl,h1,up (by omega) (Af2 hc)⟩
  |skip
 all_goals
  obtain rfl:i=j:=by omega
  have ha:AtK Op.bytesLess GP.key x l i:=⟨by omega,h1,h2⟩
  have hf:=fin i ha
  first
   |exact⟨i,_,rfl,ha,fun _=>hf.2 ⟨by omega,UG.1 hc⟩,fun _=>rfl⟩
   |exact⟨i,_,rfl,ha,fun h=>(by cases h),fun h=>(by obtain⟨_,e⟩:=hf.1 h;exact absurd (UG.2 e) hc)⟩
   |exact⟨i,_,rfl,ha,fun h=>(by cases h),fun h=>by obtain⟨e,_⟩:=hf.1 h;omega⟩
end AI
end Go.Proofs.YtgmgkkbpgndaaaaGreatDoor
