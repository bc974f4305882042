/- Valid values, exactly: the program's. The reference's bare values and strings. Valid values, exactly: the reference's. Numbers among values. The null value. The program's order of a value and null. The order of values: plain. Names in a list, increasing strings, labels and properties. What is wrong with labels and properties. Looking for a node among increasing ids. -/
import Derived.Test.YthnehejdkajjhaaGreatDoorKMae
import Derived.Test.YthnehejdkajjhaaGreatDoorKMaf
import Derived.Test.YthnehejdkajjhaaGreatDoorBMaa
set_option linter.unusedVariables false
set_option maxRecDepth 4000
namespace Go.Proofs.YthnehejdkajjhaaGreatDoor
namespace AI
theorem ApT {g:GV} (h:VB g):g.k≤6:=by
 obtain⟨_,h⟩:=h
 rcases h with⟨h,_⟩|⟨h,_⟩|⟨h,_⟩|⟨h,_⟩|⟨h,_⟩|⟨h,_⟩<;>omega
theorem XO {m:Nat} {g:GV} (h7:g.k≠7) (h8:g.k≠8):VV m g↔VB g:=by
 cases m with
 |zero=>exact⟨fun h=>h.elim id fun h=>absurd h.1 h7,.inl⟩
 |succ m=>exact⟨fun h=>h.elim id fun h=>h.elim (fun h=>absurd h.1 h7) fun h=>absurd h.1 h8,.inl⟩
theorem Ae5 {m:Nat} {g:GV} (hk:g.k=7):VV m g↔g.n=0∧g.d=0∧g.s=[]∧VPa g.l:=by
 have hb:¬VB g:=fun h=>by have:=ApT h;omega
 cases m with
 |zero=>exact⟨fun h=>h.elim (fun h=>absurd h hb) fun h=>h.2,fun h=>.inr ⟨hk,h⟩⟩
 |succ m=>exact⟨fun h=>h.elim (fun h=>absurd h hb) fun h=>h.elim (fun h=>h.2) fun h=>absurd h.1 (by omega),fun h=>.inr (.inl ⟨hk,h⟩)⟩
def VLi (m:Nat) (l:List AV):Prop:=∀i (h:i<l.length),∃x:GV,l[i]=x.av∧VV m x
theorem Aj7 {m:Nat} {g:GV} (hk:g.k=8):VV (m+1) g↔g.n=0∧g.d=0∧g.s=[]∧g.l.length≤64∧VLi m g.l:=by
 have hb:¬VB g:=fun h=>by have:=ApT h;omega
 exact⟨fun h=>h.elim (fun h=>absurd h hb) fun h=>h.elim (fun h=>absurd h.1 (by omega)) fun h=>h.2,fun h=>.inr (.inr ⟨hk,h⟩)⟩
theorem AmH {g:GV} (hk:g.k=8):¬VV 0 g:=fun h=>h.elim (fun h=>by have:=ApT h;omega) fun h=>by have:=h.1;omega
noncomputable instance (m:Nat) (g:GV):Decidable (VV m g):=Classical.propDecidable _
noncomputable instance (l:List AV):Decidable (VPa l):=Classical.propDecidable _
noncomputable instance (m:Nat) (l:List AV):Decidable (VLi m l):=Classical.propDecidable _
theorem Iy {p q:Prop} [Decidable p] [Decidable q] (h:p↔q):AV.bool (decide p)=AV.bool (decide q):=by
 by_cases hp:p
 ·rw[decide_eq_true hp,decide_eq_true (h.1 hp)]
 ·rw[decide_eq_false hp,decide_eq_false (mt h.2 hp)]
set_option maxHeartbeats 1000000 in
theorem vbP {g:GV} (hg:g.ok) (h7:g.k≠7) (h8:g.k≠8) {n:Int}:Ag (Ac tab) 249 [g.av,.int .i64 n] (· =.bool (decide (VB g))):=by
 obtain⟨g1,g2,g3,g4,g5,g6,g7⟩:=hg
 unfold Ln at g4 g5
 refine Ad rfl rfl ?_
 (conv=>whnf);repeat' (first|(refine Bo (inP (n:=g.n)) (fun hr=>?_) (fun hr=>?_)<;>conv=>whnf)|(refine Bo (fvP (n:=g.n) (d:=g.d)) (fun hr=>?_) (fun hr=>?_)<;>conv=>whnf)|(refine Aa (ixP (l:=g.s)) ?_;rintro _ rfl;conv=>whnf)|refine kA ?_;conv=>whnf|(apply Br.mk<;>intro hc<;>first|exact hc.elim|conv=>whnf)|refine kB ?_)
 all_goals clear g7 g6
 all_goals first
  |exact Ar fun h=>by have:=h.1;omega
  |(refine Bh ?_;unfold VB okS;rw[← JX];first|(simp_all;done)|(simp_all;omega))
  |(refine Ar ?_;unfold VB okS;rw[← JX];first|(simp_all;done)|(simp_all;omega))
  |trace_state
theorem Abf {l:List AV} {i:Nat} (hi:i<l.length) {x:GV} (e:l[i]=x.av) (hk:x.k=5+(i:Int) % 2) (hv:VB x) (h:∀j (hj:j<l.length),j<i→∃x:GV,l[j]=x.av∧x.k=5+(j:Int) % 2∧VB x):
 ∀j (hj:j<l.length),j<i+1→∃x:GV,l[j]=x.av∧x.k=5+(j:Int) % 2∧VB x:=by
 intro j hj hji
 rcases Nat.lt_or_ge j i with h1|h1
 ·exact h j hj h1
 ·obtain rfl:j=i:=by omega
  exact⟨x,e,hk,hv⟩
set_option maxHeartbeats 1000000 in
theorem Atl {l:List AV} {nn:Bool} (hl:l.length<2^63) (h:∀x∈l,Like Tryz.prog 51 x):Ag (Ac tab) 280 [.sl nn l] (· =.bool (decide (VPa l))):=by
 have htm:(l.length:Int).tmod 2=(l.length:Int) % 2:=Int.tmod_eq_emod_of_nonneg (by omega)
 by_cases hlen:l.length % 2=1∧l.length≤25
 ·obtain⟨hl1,hl2⟩:=hlen
  refine Ad rfl rfl ?_
  (conv=>whnf);repeat' (first  |refine kA ?_;conv=>whnf|(apply Br.mk<;>intro hc<;>first|exact hc.elim|conv=>whnf)|refine kB ?_)
  refine Af (fun m env s=>∃i c:Nat,m=l.length-i∧i≤l.length∧(∀ j (hj:j<l.length),j<i→∃x:GV,l[j]=x.av∧x.k=5+(j:Int) % 2∧VB x)∧env=[(15,.sl nn l),(16,.int .i64 l.length),(17,.int .i64 i)]∧s=⟨[],c⟩) ?_ _ _ _ ⟨0,_,rfl,by omega,fun j _ hj=>absurd hj (by omega),rfl,rfl⟩
  rintro _ _ _ ⟨i,c,rfl,hi,hx,rfl,rfl⟩
  refine⟨rfl,?_⟩
  by_cases hlt:i<l.length
  ·obtain⟨gx,hgx⟩:=Nz h i
   obtain⟨hn,he,hok⟩:=hgx hlt
   have hno:¬(gx.k=5+(i:Int) % 2∧VB gx)→¬VPa l:=fun hh hv=>by
        obtain⟨x,e,hx2⟩:=hv.2.2 i hlt
        rw[he]at e
        rw[GV.TS e]at hh
        exact hh hx2
   have h2:(i:Int).tmod 2=(i:Int) % 2:=Int.tmod_eq_emod_of_nonneg (by omega)
   have AnJ:nth [AV.int .i64 5,AV.int .i64 6] (Int.toNat ((i:Int).tmod 2))=some (.int .i64 (5+(i:Int) % 2)):=by
        rw[h2]
        rcases Nat.mod_two_eq_zero_or_one i with hm|hm
        ·rw[show (i:Int) % 2=0 by omega];rfl
        ·rw[show (i:Int) % 2=1 by omega];rfl
   (conv=>whnf);repeat' (first|(apply Au;(· first|exact hn|exact AnJ);conv=>whnf)|(refine Bo (vbP (g:=gx) hok (by omega) (by omega) (n:=0)) (fun hr=>?_) (fun hr=>?_)<;>conv=>whnf)|refine kA ?_;conv=>whnf|(apply Br.mk<;>intro hc<;>first|exact hc.elim|conv=>whnf)|refine kB ?_)
   all_goals first
        |exact again.mk ⟨_,by omega,i+1,_,rfl,by omega,Abf hlt he (by omega) hr hx,rfl,rfl⟩
        |exact Ar (hno fun hh=>by have:=hh.1;omega)
        |exact Ar (hno fun hh=>hr hh.2)
        |trace_state
  ·rw[show i=l.length by omega]at hx
   (conv=>whnf);repeat' (first  |refine kA ?_;conv=>whnf|(apply Br.mk<;>intro hc<;>first|exact hc.elim|conv=>whnf)|refine kB ?_)
   exact Bh ⟨hl1,hl2,fun j hj=>hx j hj hj⟩
 ·have hno:¬VPa l:=fun hv=>hlen ⟨hv.1,hv.2.1⟩
  refine Ad rfl rfl ?_
  (conv=>whnf);repeat' (first  |refine kA ?_;conv=>whnf|(apply Br.mk<;>intro hc<;>first|exact hc.elim|conv=>whnf)|refine kB ?_)
  all_goals first|exact Ar hno|trace_state
theorem v7 {g:GV} (hg:g.ok) (hk:g.k=7) {n:Int}:Ag (Ac tab) 249 [g.av,.int .i64 n] (· =.bool (decide (g.n=0∧g.d=0∧g.s=[]∧VPa g.l))):=by
 obtain⟨g1,g2,g3,g4,g5,g6,g7⟩:=hg
 unfold Ln at g4 g5
 refine Ad rfl rfl ?_
 (conv=>whnf);repeat' (first|(refine Bo (Atl (l:=g.l) (nn:=g.nn) g5 g7) (fun hr=>?_) (fun hr=>?_)<;>conv=>whnf)|refine kA ?_;conv=>whnf|(apply Br.mk<;>intro hc<;>first|exact hc.elim|conv=>whnf)|refine kB ?_)
 all_goals first
  |exact Bh ⟨by omega,by omega,by assumption,hr⟩
  |exact Ar fun h=>hr h.2.2.2
  |exact Ar fun h=>by have:=h.1;omega
  |exact Ar fun h=>by have:=h.2.1;omega
  |exact Ar fun h=>absurd h.2.2.1 (by assumption)
  |trace_state
theorem Ad0 {m:Nat} {l:List AV} {i:Nat} (hi:i<l.length) {x:GV} (e:l[i]=x.av) (hv:VV m x) (h:∀j (hj:j<l.length),j<i→∃x:GV,l[j]=x.av∧VV m x):
 ∀j (hj:j<l.length),j<i+1→∃x:GV,l[j]=x.av∧VV m x:=by
 intro j hj hji
 rcases Nat.lt_or_ge j i with h1|h1
 ·exact h j hj h1
 ·obtain rfl:j=i:=by omega
  exact⟨x,e,hv⟩
set_option maxHeartbeats 1000000 in
theorem v8 {g:GV} (hg:g.ok) (hk:g.k=8) {z:Int} (hz:0≤z∧z<8) {m:Nat} (ih:∀{x:GV},x.ok→Ag (Ac tab) 249 [x.av,.int .i64 (z+1)] (· =.bool (decide (VV m x)))):
 Ag (Ac tab) 249 [g.av,.int .i64 z] (· =.bool (decide (g.n=0∧g.d=0∧g.s=[]∧g.l.length≤64∧VLi m g.l))):=by
 obtain⟨g1,g2,g3,g4,g5,g6,g7⟩:=hg
 unfold Ln at g4 g5
 refine Ad rfl rfl ?_
 (conv=>whnf);repeat' (first  |refine kA ?_;conv=>whnf|(apply Br.mk<;>intro hc<;>first|exact hc.elim|conv=>whnf)|refine kB ?_)
 all_goals first
  |exact Ar fun h=>by have:=h.1;omega
  |exact Ar fun h=>by have:=h.2.1;omega
  |exact Ar fun h=>by have:=h.2.2.2.1;omega
  |exact Ar fun h=>absurd h.2.2.1 (by assumption)
  |skip
 have hs:g.s=[]:=by assumption
 have hn0:g.n=0:=by omega
 have hd0:g.d=0:=by omega
 have hl0:g.l.length≤64:=by omega
 refine Af (fun mm env s=>∃i c:Nat,mm=g.l.length-i∧i≤g.l.length∧(∀ j (hj:j<g.l.length),j<i→∃x:GV,g.l[j]=x.av∧VV m x)∧env=[(1,.int .i64 z),(120,.sl g.nn g.l),(121,.int .i64 g.l.length),(122,.int .i64 i)]∧s=⟨[.arr 0 5 true true [g.av]],c⟩) ?_ _ _ _ ⟨0,_,rfl,by omega,fun j _ hj=>absurd hj (by omega),rfl,rfl⟩
 rintro _ _ _ ⟨i,c,rfl,hi,hx,rfl,rfl⟩
 refine⟨rfl,?_⟩
 by_cases hlt:i<g.l.length
 ·obtain⟨gx,hgx⟩:=Nz g7 i
  obtain⟨hn,he,hok⟩:=hgx hlt
  (conv=>whnf);repeat' (first|(apply Au;(· exact hn);conv=>whnf)|(refine Bo (ih hok) (fun hr=>?_) (fun hr=>?_)<;>conv=>whnf)|refine kA ?_;conv=>whnf|(apply Br.mk<;>intro hc<;>first|exact hc.elim|conv=>whnf)|refine kB ?_)
  all_goals first
   |exact again.mk ⟨_,by omega,i+1,_,rfl,by omega,Ad0 hlt he hr hx,rfl,rfl⟩
   |exact Ar fun hh=>by
     obtain⟨x,e,hv⟩:=hh.2.2.2.2 i hlt
     rw[he]at e
     rw[GV.TS e]at hr
     exact hr hv
   |trace_state
 ·rw[show i=g.l.length by omega]at hx
  (conv=>whnf);repeat' (first  |refine kA ?_;conv=>whnf|(apply Br.mk<;>intro hc<;>first|exact hc.elim|conv=>whnf)|refine kB ?_)
  exact Bh ⟨hn0,hd0,hs,hl0,fun j hj=>hx j hj hj⟩
theorem AvV {g:GV} (hg:g.ok) (hk:g.k=8):Ag (Ac tab) 249 [g.av,.int .i64 8] (· =.bool false):=by
 obtain⟨g1,g2,g3,g4,g5,g6,g7⟩:=hg
 unfold Ln at g4 g5
 refine Ad rfl rfl ?_
 (conv=>whnf);repeat' (first  |refine kA ?_;conv=>whnf|(apply Br.mk<;>intro hc<;>first|exact hc.elim|conv=>whnf)|refine kB ?_)
 all_goals rfl
theorem ApU:∀(m:Nat),m≤8→∀{g:GV},g.ok→Ag (Ac tab) 249 [g.av,.int .i64 (8-(m:Int))] (· =.bool (decide (VV m g))):=by
 intro m
 induction m with
 |zero=>
  intro _ g hg
  by_cases h7:g.k=7
  ·rw[show AV.bool (decide (VV 0 g))=_ from Iy (Ae5 h7)]
   exact v7 hg h7
  by_cases h8:g.k=8
  ·rw[decide_eq_false (AmH h8)]
   exact AvV hg h8
  rw[show AV.bool (decide (VV 0 g))=AV.bool (decide (VB g)) from Iy (XO h7 h8)]
  exact vbP hg h7 h8
 |succ m ih=>
  intro hm g hg
  by_cases h7:g.k=7
  ·rw[show AV.bool (decide (VV (m+1) g))=_ from Iy (Ae5 h7)]
   exact v7 hg h7
  by_cases h8:g.k=8
  ·rw[show AV.bool (decide (VV (m+1) g))=_ from Iy (Aj7 h8)]
   exact v8 hg h8 (by omega) fun{x} hx=>by
        rw[show (8-((m+1:Nat):Int))+1=8-(m:Int) by omega]
        exact ih (by omega) hx
  rw[show AV.bool (decide (VV (m+1) g))=AV.bool (decide (VB g)) from Iy (XO h7 h8)]
  exact vbP hg h7 h8
theorem ZT {g:GV} (hg:g.ok):Ag (Ac tab) 191 [g.av] (· =.bool (decide (VV 8 g))):=by
 have h:=ApU 8 (by omega) hg
 rw[show (8-((8:Nat):Int))=0 by omega]at h
 refine Ad rfl rfl ?_
 (conv=>whnf);repeat' (first|(refine Bo h (fun hr=>?_) (fun hr=>?_)<;>conv=>whnf)|refine kA ?_;conv=>whnf|(apply Br.mk<;>intro hc<;>first|exact hc.elim|conv=>whnf)|refine kB ?_)
 all_goals first|exact Bh hr|exact Ar hr
def OD (v:GV) (n d s l:Bool):Prop:=(n=true∨v.n=0)∧(d=true∨v.d=0)∧(s=true∨v.s=[])∧(l=true∨v.l.length=0)
instance (v:GV) (n d s l:Bool):Decidable (OD v n d s l):=by unfold OD;infer_instance
theorem Aa4 {v:GV} {n d s l:Bool} (hl:v.l.length<2^63):Ag (Ac tab) 256 [v.av,.bool n,.bool d,.bool s,.bool l] (· =.bool (decide (OD v n d s l))):=by
 cases n<;>cases d<;>cases s<;>cases l
 all_goals
  refine Ad rfl rfl ?_
  (conv=>whnf);repeat' (first|refine kA ?_;conv=>whnf|(apply Br.mk<;>intro hc<;>first|exact hc.elim|conv=>whnf)  |refine kB ?_)
 all_goals first
  |(refine Bh ?_;unfold OD;refine⟨?_,?_,?_,?_⟩<;>first|(left;rfl)|(right;first|assumption|omega))
  |(refine Ar ?_;unfold OD;rintro⟨h1,h2,h3,h4⟩;simp only[Bool.false_eq_true,false_or,true_or]at h1 h2 h3 h4;first|contradiction|omega)
theorem Arc {s:List UInt8} (hl:s.length<2^63):Ag (Ac tab) 258 [.str s] (· =.bool (decide (okS s))):=by
 refine Ad rfl rfl ?_
 (conv=>whnf);repeat' (first|refine kA ?_;conv=>whnf|(apply Br.mk<;>intro hc<;>first|exact hc.elim|conv=>whnf)  |refine kB ?_)
 refine Af (fun m env s'=>∃i:Nat,m=s.length-i∧env=[(0,.str s),(3,.int .i64 i)]∧s'=⟨[],0⟩∧∀c∈s.take i,Sr c=false) ?_ _ _ _ ⟨0,rfl,rfl,rfl,by simp⟩
 rintro _ _ _ ⟨i,rfl,rfl,rfl,hx⟩
 refine⟨rfl,?_⟩
 (conv=>whnf);repeat' (first|refine kA ?_;conv=>whnf|(apply Br.mk<;>intro hc<;>first|exact hc.elim|conv=>whnf)  |refine kB ?_)
 all_goals first
  |exact again.mk ⟨_,by omega,i+1,rfl,rfl,rfl,Cb (by omega) hx (by unfold Sr;simp;omega)⟩
  |(refine Ar fun h=>?_;have:=h.2 s[i] (List.getElem_mem (by omega));unfold Sr at this;simp at this;omega)
  |(rw [List.take_of_length_le (by omega)]at hx;exact Bh ⟨by omega,hx⟩)
  |(refine Ar fun h=>?_;have:=h.1;omega)
set_option maxHeartbeats 1000000 in
theorem vbR {g:GV} (hg:g.ok) (h7:g.k≠7) (h8:g.k≠8) {n:Int}:Ag (Ac tab) 209 [g.av,.int .i64 n] (· =.bool (decide (VB g))):=by
 obtain⟨g1,g2,g3,g4,g5,g6,g7⟩:=hg
 unfold Ln at g4 g5
 refine Ad rfl rfl ?_
 (conv=>whnf);repeat' (first|(refine Bo (Aa4 (v:=g) g5) (fun hb=>?_) (fun hb=>?_)<;>conv=>whnf)|(refine Bo (Arb (n:=g.n)) (fun hr=>?_) (fun hr=>?_)<;>conv=>whnf)|(refine Bo (fvR (n:=g.n) (d:=g.d)) (fun hr=>?_) (fun hr=>?_)<;>conv=>whnf)|(refine Bo (Arc (s:=g.s) g4) (fun hr=>?_) (fun hr=>?_)<;>conv=>whnf)|refine kA ?_;conv=>whnf|(apply Br.mk<;>intro hc<;>first|exact hc.elim|conv=>whnf)|refine kB ?_)
 all_goals clear g7 g6
 all_goals try unfold OD at hb
 all_goals try simp only[Bool.false_eq_true,false_or,true_or]at hb
 all_goals first
  |(refine Bh ?_;unfold VB;first|(simp_all;done)|(simp_all;omega))
  |(refine Ar fun h=>hb ?_;obtain⟨h0,h⟩:=h;rcases h with h|h|h|h|h|h<;>first|(exfalso;omega)|(simp_all;done)|(simp_all;omega)|(refine ⟨?_,?_,?_,?_⟩<;>first|omega|simp_all))
  |(refine Ar ?_;unfold VB;first|(simp_all;done)|(simp_all;omega))
  |trace_state
set_option maxHeartbeats 1000000 in
theorem Aoe {l:List AV} {nn:Bool} (hl:l.length<2^63) (h:∀x∈l,Like Tryz.prog 51 x):Ag (Ac tab) 259 [.sl nn l] (· =.bool (decide (VPa l))):=by
 have htm:(l.length:Int).tmod 2=(l.length:Int) % 2:=Int.tmod_eq_emod_of_nonneg (by omega)
 by_cases hlen:l.length % 2=1∧l.length≤25
 ·obtain⟨hl1,hl2⟩:=hlen
  refine Ad rfl rfl ?_
  (conv=>whnf);repeat' (first  |refine kA ?_;conv=>whnf|(apply Br.mk<;>intro hc<;>first|exact hc.elim|conv=>whnf)|refine kB ?_)
  refine Af (fun m env s=>∃i:Nat,m=l.length-i∧i≤l.length∧(∀ j (hj:j<l.length),j<i→∃x:GV,l[j]=x.av∧x.k=5+(j:Int) % 2∧VB x)∧env=[(0,.sl nn l),(3,.int .i64 i)]∧s=⟨[],0⟩) ?_ _ _ _ ⟨0,rfl,by omega,fun j _ hj=>absurd hj (by omega),rfl,rfl⟩
  rintro _ _ _ ⟨i,rfl,hi,hx,rfl,rfl⟩
  refine⟨rfl,?_⟩
  by_cases hlt:i<l.length
  ·obtain⟨gx,hgx⟩:=Nz h i
   obtain⟨hn,he,hok⟩:=hgx hlt
   have hno:¬(gx.k=5+(i:Int) % 2∧VB gx)→¬VPa l:=fun hh hv=>by
        obtain⟨x,e,hx2⟩:=hv.2.2 i hlt
        rw[he]at e
        rw[GV.TS e]at hh
        exact hh hx2
   have h2:(i:Int).tmod 2=(i:Int) % 2:=Int.tmod_eq_emod_of_nonneg (by omega)
   (conv=>whnf);repeat' (first|(apply Au;(· exact hn);conv=>whnf)|(refine Bo (vbR (g:=gx) hok (by omega) (by omega) (n:=0)) (fun hr=>?_) (fun hr=>?_)<;>conv=>whnf)|refine kA ?_;conv=>whnf|(apply Br.mk<;>intro hc<;>first|exact hc.elim|conv=>whnf)|refine kB ?_)
   all_goals first
        |exact again.mk ⟨_,by omega,i+1,rfl,by omega,Abf hlt he (by omega) hr hx,rfl,rfl⟩
        |exact Ar (hno fun hh=>by have:=hh.1;omega)
        |exact Ar (hno fun hh=>hr hh.2)
        |trace_state
  ·rw[show i=l.length by omega]at hx
   (conv=>whnf);repeat' (first  |refine kA ?_;conv=>whnf|(apply Br.mk<;>intro hc<;>first|exact hc.elim|conv=>whnf)|refine kB ?_)
   exact Bh ⟨hl1,hl2,fun j hj=>hx j hj hj⟩
 ·have hno:¬VPa l:=fun hv=>hlen ⟨hv.1,hv.2.1⟩
  refine Ad rfl rfl ?_
  (conv=>whnf);repeat' (first  |refine kA ?_;conv=>whnf|(apply Br.mk<;>intro hc<;>first|exact hc.elim|conv=>whnf)|refine kB ?_)
  all_goals first|exact Ar hno|(exfalso;omega)|trace_state
theorem v7R {g:GV} (hg:g.ok) (hk:g.k=7) {n:Int}:Ag (Ac tab) 209 [g.av,.int .i64 n] (· =.bool (decide (g.n=0∧g.d=0∧g.s=[]∧VPa g.l))):=by
 obtain⟨g1,g2,g3,g4,g5,g6,g7⟩:=hg
 unfold Ln at g4 g5
 refine Ad rfl rfl ?_
 (conv=>whnf);repeat' (first|(refine Bo (Aa4 (v:=g) g5) (fun hb=>?_) (fun hb=>?_)<;>conv=>whnf)|(refine Bo (Aoe (l:=g.l) (nn:=g.nn) g5 g7) (fun hr=>?_) (fun hr=>?_)<;>conv=>whnf)|refine kA ?_;conv=>whnf|(apply Br.mk<;>intro hc<;>first|exact hc.elim|conv=>whnf)|refine kB ?_)
 all_goals try unfold OD at hb
 all_goals try simp only[Bool.false_eq_true,false_or,true_or]at hb
 all_goals first
  |exact Bh ⟨hb.1,hb.2.1,hb.2.2.1,hr⟩
  |exact Bh ⟨hb.1,hb.2.1,hb.2.2,hr⟩
  |exact Ar fun h=>hr h.2.2.2
  |exact Ar fun h=>hb ⟨h.1,h.2.1,h.2.2.1,trivial⟩
  |exact Ar fun h=>hb ⟨h.1,h.2.1,h.2.2.1⟩
  |trace_state
set_option maxHeartbeats 1000000 in
theorem Aof {g:GV} (hg:g.ok) {z:Int} (hz:1≤z∧z≤8) {m:Nat} (ih:∀{x:GV},x.ok→Ag (Ac tab) 209 [x.av,.int .i64 (z-1)] (· =.bool (decide (VV m x)))):
 Ag (Ac tab) 260 [.sl g.nn g.l,.int .i64 z] (· =.bool (decide (g.l.length≤64∧VLi m g.l))):=by
 obtain⟨g1,g2,g3,g4,g5,g6,g7⟩:=hg
 unfold Ln at g4 g5
 refine Ad rfl rfl ?_
 (conv=>whnf);repeat' (first  |refine kA ?_;conv=>whnf|(apply Br.mk<;>intro hc<;>first|exact hc.elim|conv=>whnf)|refine kB ?_)
 all_goals first
  |exact Ar fun h=>by have:=h.1;omega
  |(exfalso;omega)
  |skip
 have hl0:g.l.length≤64:=by omega
 refine Af (fun mm env s=>∃i:Nat,mm=g.l.length-i∧i≤g.l.length∧(∀ j (hj:j<g.l.length),j<i→∃x:GV,g.l[j]=x.av∧VV m x)∧env=[(0,.sl g.nn g.l),(1,.int .i64 z),(5,.int .i64 i)]∧s=⟨[],0⟩) ?_ _ _ _ ⟨0,rfl,by omega,fun j _ hj=>absurd hj (by omega),rfl,rfl⟩
 rintro _ _ _ ⟨i,rfl,hi,hx,rfl,rfl⟩
 refine⟨rfl,?_⟩
 by_cases hlt:i<g.l.length
 ·obtain⟨gx,hgx⟩:=Nz g7 i
  obtain⟨hn,he,hok⟩:=hgx hlt
  (conv=>whnf);repeat' (first|(apply Au;(· exact hn);conv=>whnf)|(refine Bo (ih hok) (fun hr=>?_) (fun hr=>?_)<;>conv=>whnf)|refine kA ?_;conv=>whnf|(apply Br.mk<;>intro hc<;>first|exact hc.elim|conv=>whnf)|refine kB ?_)
  all_goals first
   |exact again.mk ⟨_,by omega,i+1,rfl,by omega,Ad0 hlt he hr hx,rfl,rfl⟩
   |exact Ar fun hh=>by
     obtain⟨x,e,hv⟩:=hh.2 i hlt
     rw[he]at e
     rw[GV.TS e]at hr
     exact hr hv
   |trace_state
 ·rw[show i=g.l.length by omega]at hx
  (conv=>whnf);repeat' (first  |refine kA ?_;conv=>whnf|(apply Br.mk<;>intro hc<;>first|exact hc.elim|conv=>whnf)|refine kB ?_)
  exact Bh ⟨hl0,fun j hj=>hx j hj hj⟩
theorem v8R {g:GV} (hg:g.ok) (hk:g.k=8) {z:Int} {p:Prop} [Decidable p] (hlist:Ag (Ac tab) 260 [.sl g.nn g.l,.int .i64 z] (· =.bool (decide p))):
 Ag (Ac tab) 209 [g.av,.int .i64 z] (· =.bool (decide (g.n=0∧g.d=0∧g.s=[]∧p))):=by
 obtain⟨g1,g2,g3,g4,g5,g6,g7⟩:=hg
 unfold Ln at g4 g5
 refine Ad rfl rfl ?_
 (conv=>whnf);repeat' (first|(refine Bo (Aa4 (v:=g) g5) (fun hb=>?_) (fun hb=>?_)<;>conv=>whnf)|(refine Bo hlist (fun hr=>?_) (fun hr=>?_)<;>conv=>whnf)|refine kA ?_;conv=>whnf|(apply Br.mk<;>intro hc<;>first|exact hc.elim|conv=>whnf)|refine kB ?_)
 all_goals try unfold OD at hb
 all_goals try simp only[Bool.false_eq_true,false_or,true_or]at hb
 all_goals first
  |exact Bh ⟨hb.1,hb.2.1,hb.2.2.1,hr⟩
  |exact Bh ⟨hb.1,hb.2.1,hb.2.2,hr⟩
  |exact Ar fun h=>hr h.2.2.2
  |exact Ar fun h=>hb ⟨h.1,h.2.1,h.2.2.1,trivial⟩
  |exact Ar fun h=>hb ⟨h.1,h.2.1,h.2.2.1⟩
  |trace_state
theorem Aog {l:List AV} {nn:Bool} (hl:l.length<2^63):Ag (Ac tab) 260 [.sl nn l,.int .i64 0] (· =.bool (decide False)):=by
 refine Ad rfl rfl ?_
 (conv=>whnf);repeat' (first  |refine kA ?_;conv=>whnf|(apply Br.mk<;>intro hc<;>first|exact hc.elim|conv=>whnf)|refine kB ?_)
 all_goals rfl
theorem AkH:∀(m:Nat),m≤8→∀{g:GV},g.ok→Ag (Ac tab) 209 [g.av,.int .i64 (m:Int)] (· =.bool (decide (VV m g))):=by
 intro m
 induction m with
 |zero=>
  intro _ g hg
  by_cases h7:g.k=7
  ·rw[show AV.bool (decide (VV 0 g))=_ from Iy (Ae5 h7)]
   exact v7R hg h7
  by_cases h8:g.k=8
  ·rw[show AV.bool (decide (VV 0 g))=AV.bool (decide (g.n=0∧g.d=0∧g.s=[]∧False)) from Iy ⟨fun h=>absurd h (AmH h8),fun h=>h.2.2.2.elim⟩]
   exact v8R hg h8 (Aog hg.2.2.2.2.1)
  rw[show AV.bool (decide (VV 0 g))=AV.bool (decide (VB g)) from Iy (XO h7 h8)]
  exact vbR hg h7 h8
 |succ m ih=>
  intro hm g hg
  by_cases h7:g.k=7
  ·rw[show AV.bool (decide (VV (m+1) g))=_ from Iy (Ae5 h7)]
   exact v7R hg h7
  by_cases h8:g.k=8
  ·rw[show AV.bool (decide (VV (m+1) g))=_ from Iy (Aj7 h8)]
   exact v8R hg h8 (Aof hg (by omega) fun{x} hx=>by
        rw[show ((m+1:Nat):Int)-1=(m:Int) by omega]
        exact ih (by omega) hx)
  rw[show AV.bool (decide (VV (m+1) g))=AV.bool (decide (VB g)) from Iy (XO h7 h8)]
  exact vbR hg h7 h8
theorem Ahb {g:GV} (hg:g.ok):Ag (Ac tab) 153 [g.av] (· =.bool (decide (VV 8 g))):=by
 have h:=AkH 8 (by omega) hg
 refine Ad rfl rfl ?_
 (conv=>whnf);repeat' (first|(refine Bo h (fun hr=>?_) (fun hr=>?_)<;>conv=>whnf)|refine kA ?_;conv=>whnf|(apply Br.mk<;>intro hc<;>first|exact hc.elim|conv=>whnf)|refine kB ?_)
 all_goals first|exact Bh hr|exact Ar hr
def TA (g:GV):Prop:=VV 8 g∧(g.k=2∨g.k=3)
noncomputable instance (g:GV):Decidable (TA g):=by unfold TA;infer_instance
def dn (g:GV):Int:=if g.k=2 then 1 else g.d
theorem Q7 {g:GV} (h:TA g):VF g.n (dn g):=by
 obtain⟨hv,hk⟩:=h
 rw[XO (by omega) (by omega)]at hv
 obtain⟨h1,h2⟩:=hv
 unfold dn
 rcases hk with hk|hk
 ·rw[if_pos hk]
  rcases h2 with h|h|h|h|h|h<;>first|(exfalso;omega)|exact⟨by omega,by omega,h.2.1,by simp⟩
 ·rw[if_neg (by omega)]
  rcases h2 with h|h|h|h|h|h<;>first|(exfalso;omega)|exact h.2.2.1
theorem vP {g:GV} (hg:g.ok) (h:VV 8 g):Ag (Ac tab) 191 [g.av] (· =.bool true):=by have:=ZT hg;rwa [decide_eq_true h]at this
theorem vPn {g:GV} (hg:g.ok) (h:¬VV 8 g):Ag (Ac tab) 191 [g.av] (· =.bool false):=by have:=ZT hg;rwa [decide_eq_false h]at this
theorem vR {g:GV} (hg:g.ok) (h:VV 8 g):Ag (Ac tab) 153 [g.av] (· =.bool true):=by have:=Ahb hg;rwa [decide_eq_true h]at this
theorem vRn {g:GV} (hg:g.ok) (h:¬VV 8 g):Ag (Ac tab) 153 [g.av] (· =.bool false):=by have:=Ahb hg;rwa [decide_eq_false h]at this
theorem nP1 {g:GV} (hg:g.ok) (h:TA g):Ag (Ac tab) 274 [g.av] (· =.BG [.agg [.int .i64 g.n,.int .i64 (dn g)],.bool true]):=by
 have hv:=vP hg h.1
 rcases h.2 with hk|hk
 ·have e:dn g=1:=if_pos hk
  rw[e]
  refine Ad rfl rfl ?_
  (conv=>whnf);repeat' (first|(refine Aa hv ?_;rintro _ rfl;conv=>whnf)|refine kA ?_;conv=>whnf|(apply Br.mk<;>intro hc<;>first|exact hc.elim|conv=>whnf)|refine kB ?_)
  all_goals first|rfl
 ·have e:dn g=g.d:=if_neg (by omega)
  rw[e]
  refine Ad rfl rfl ?_
  (conv=>whnf);repeat' (first|(refine Aa hv ?_;rintro _ rfl;conv=>whnf)|refine kA ?_;conv=>whnf|(apply Br.mk<;>intro hc<;>first|exact hc.elim|conv=>whnf)|refine kB ?_)
  all_goals first|rfl
theorem nR1 {g:GV} (hg:g.ok) (h:TA g):Ag (Ac tab) 158 [g.av] (· =.BG [.agg [.int .i64 g.n,.int .i64 (dn g)],.bool true]):=by
 have hv:=vR hg h.1
 rcases h.2 with hk|hk
 ·have e:dn g=1:=if_pos hk
  rw[e]
  refine Ad rfl rfl ?_
  (conv=>whnf);repeat' (first|(refine Aa hv ?_;rintro _ rfl;conv=>whnf)|refine kA ?_;conv=>whnf|(apply Br.mk<;>intro hc<;>first|exact hc.elim|conv=>whnf)|refine kB ?_)
  all_goals first|rfl
 ·have e:dn g=g.d:=if_neg (by omega)
  rw[e]
  refine Ad rfl rfl ?_
  (conv=>whnf);repeat' (first|(refine Aa hv ?_;rintro _ rfl;conv=>whnf)|refine kA ?_;conv=>whnf|(apply Br.mk<;>intro hc<;>first|exact hc.elim|conv=>whnf)|refine kB ?_)
  all_goals first|rfl
theorem nR0 {g:GV} (hg:g.ok) (h:¬TA g):Ag (Ac tab) 158 [g.av] (· =.BG [.agg [.int .i64 0,.int .i64 0],.bool false]):=by
 by_cases hV:VV 8 g
 ·have hv:=vR hg hV
  have hk:¬(g.k=2∨g.k=3):=fun hk=>h ⟨hV,hk⟩
  refine Ad rfl rfl ?_
  (conv=>whnf);repeat' (first|(refine Aa hv ?_;rintro _ rfl;conv=>whnf)|refine kA ?_;conv=>whnf|(apply Br.mk<;>intro hc<;>first|exact hc.elim|conv=>whnf)|refine kB ?_)
  all_goals first|rfl
 ·have hv:=vRn hg hV
  refine Ad rfl rfl ?_
  (conv=>whnf);repeat' (first|(refine Aa hv ?_;rintro _ rfl;conv=>whnf)|refine kA ?_;conv=>whnf|(apply Br.mk<;>intro hc<;>first|exact hc.elim|conv=>whnf)|refine kB ?_)
  all_goals first|rfl
theorem Ahr:∀{m k:Nat} {g:GV},m≤k→VV m g→VV k g
 |m,0,g,h,hv=>by obtain rfl:m=0:=by omega
                 exact hv
 |m,k+1,g,h,hv=>by
  rcases Nat.lt_or_ge m (k+1)with h1|h1
  ·exact Aef (Ahr (by omega) hv)
  ·obtain rfl:m=k+1:=by omega
   exact hv
theorem Aqx:Ag (Ac tab) 154 [.bool true] (· =.int .i64 2):=⟨_,⟨20,by kernel_rfl⟩,rfl⟩
theorem Amm:Ag (Ac tab) 154 [.bool false] (· =.int .i64 0):=⟨_,⟨20,by kernel_rfl⟩,rfl⟩
theorem Aqv {a:GV} (h:VV 8 a) (h7:a.k≠7) (h8:a.k≠8):(a.k=4→a.n=0)∧(a.k≠4→a.s=[]):=by
 rw[XO h7 h8]at h
 obtain⟨_,h⟩:=h
 rcases h with h|h|h|h|h|h<;>exact⟨fun hk=>by first|omega|exact h.2.1,fun hk=>by first|exact h.2.2.2|exact h.2.2.2.2|(exfalso;omega)⟩
def XK:GV:=⟨0,0,0,[],false,[]⟩
theorem AcA:XK.ok:=⟨by unfold I64 XK;dsimp only;omega,by unfold I64 XK;dsimp only;omega,by unfold I64 XK;dsimp only;omega,by simp[Ln,XK],by simp[Ln,XK],fun _=>rfl,by simp[XK]⟩
def isNull (v:GV):Prop:=v.k=0∧v.n=0∧v.d=0∧v.s=[]∧v.l.length=0
instance (v:GV):Decidable (isNull v):=by unfold isNull;infer_instance
theorem Aa5:isNull XK:=⟨rfl,rfl,rfl,rfl,rfl⟩
theorem ZX {v:GV} (hk:v.k=0):VV 8 v↔isNull v:=by
 rw[XO (by omega) (by omega)]
 unfold VB isNull
 constructor
 ·rintro⟨h1,h⟩
  rcases h with h|h|h|h|h|h<;>first|exact⟨hk,h.2.1,h.2.2.1,h.2.2.2,h1⟩|(exfalso;omega)
 ·rintro⟨_,h1,h2,h3,h4⟩
  exact⟨h4,.inl ⟨hk,h1,h2,h3⟩⟩
def EY (k:Int):Int:=if k=3 then 2 else if k=7 then 9 else k
theorem TU {v:GV}:Ag (Ac tab) 273 [v.av] (· =.int .i64 (EY v.k)):=by
 refine Ad rfl rfl ?_
 (conv=>whnf);repeat' (first  |refine kA ?_;conv=>whnf|(apply Br.mk<;>intro hc<;>first|exact hc.elim|conv=>whnf)|refine kB ?_)
 all_goals first|(unfold EY;rw[if_pos (by assumption)];rfl)|(unfold EY;rw[if_neg (by assumption),if_pos (by assumption)];rfl)|(unfold EY;rw[if_neg (by assumption),if_neg (by assumption)];rfl)
theorem ArP {k:Int}:EY k=0↔k=0:=by unfold EY;split<;>(try split)<;>omega
theorem ArQ:Ag (Ac tab) 202 [.str [],.str []] (· =.int .i64 0):=⟨_,⟨20,by kernel_rfl⟩,rfl⟩
theorem or3 {nn:Bool}:Ag (Ac tab) 244 [.sl nn [.int .i64 0,.int .i64 0,.int .i64 0]] (· =.int .i64 0):=by
 cases nn
 ·exact⟨_,⟨20,by kernel_rfl⟩,rfl⟩
 ·exact⟨_,⟨20,by kernel_rfl⟩,rfl⟩
theorem ArR {nn:Bool} {f:Nat}:Ag (Ac tab) 245 [.sl nn [],.sl false [],.fn f []] (· =.int .i64 0):=by
 refine Ad rfl rfl ?_
 (conv=>whnf);repeat' (first  |refine kA ?_;conv=>whnf|(apply Br.mk<;>intro hc<;>first|exact hc.elim|conv=>whnf)|refine kB ?_)
 refine Af (fun m env s=>m=0∧env=[(0,.sl nn []),(1,.sl false []),(2,.fn f []),(11,.sl nn []),(12,.int .i64 0),(13,.int .i64 0)]∧s=⟨[],0⟩) ?_ _ _ _ ⟨rfl,rfl,rfl⟩
 rintro _ _ _ ⟨rfl,rfl,rfl⟩
 refine⟨rfl,?_⟩
 (conv=>whnf);repeat' (first  |refine kA ?_;conv=>whnf|(apply Br.mk<;>intro hc<;>first|exact hc.elim|conv=>whnf)|refine kB ?_)
 all_goals first|rfl|(exfalso;simp_all)
theorem AoL {v:GV} (h:isNull v):Ag (Ac tab) 243 [v.av,XK.av] (· =.int .i64 0):=by
 obtain⟨k,n,d,s,nn,l⟩:=v
 obtain⟨h1,h2,h3,h4,h5⟩:=h
 dsimp only at h1 h2 h3 h4 h5
 subst h1 h2 h3 h4
 obtain rfl:l=[]:=List.eq_nil_of_length_eq_zero h5
 have hc1:Ag (Ac tab) 273 [GV.av ⟨0,0,0,[],nn,[]⟩] (· =.int .i64 0):=TU (v:=⟨0,0,0,[],nn,[]⟩)
 have hc2:Ag (Ac tab) 273 [XK.av] (· =.int .i64 0):=TU (v:=XK)
 have hc3:Ag (Ac tab) 135 [.int .i64 0,.int .i64 0] (· =.int .i64 0):=compare
 refine Ad rfl rfl ?_
 (conv=>whnf);repeat' (first|((first|refine Aa hc1 ?_|refine Aa hc2 ?_|refine Aa hc3 ?_|refine Aa ArQ ?_|refine Aa ArR ?_|refine Aa or3 ?_);rintro _ rfl;conv=>whnf)|refine kA ?_;conv=>whnf|(apply Br.mk<;>intro hc<;>first|exact hc.elim|conv=>whnf)|refine kB ?_)
 all_goals first|rfl|(exfalso;simp_all)
theorem Alc {v:GV} (h:v.k≠0):Ag (Ac tab) 243 [v.av,XK.av] (fun w=>∃z,w=.int .i64 z∧z≠0):=by
 have hc2:Ag (Ac tab) 273 [XK.av] (· =.int .i64 0):=TU (v:=XK)
 obtain⟨z,hz,hz0⟩:∃z,Dq (EY v.k) 0=z∧z≠0:=⟨_,rfl,fun h0=>h (ArP.1 (D6.1 h0))⟩
 have hc3:Ag (Ac tab) 135 [.int .i64 (EY v.k),.int .i64 0] (· =.int .i64 z):=hz▸compare
 refine Ad rfl rfl ?_
 (conv=>whnf);repeat' (first|((first|refine Aa (TU (v:=v)) ?_|refine Aa hc2 ?_|refine Aa hc3 ?_);rintro _ rfl;conv=>whnf)|refine kA ?_;conv=>whnf|(apply Br.mk<;>intro hc<;>first|exact hc.elim|conv=>whnf)|refine kB ?_)
 all_goals first|exact⟨_,rfl,hz0⟩|(exfalso;omega)
theorem AdY {v:GV} (hv:v.ok):Ag (Ac tab) 184 [v.av,XK.av] (fun w=>∃z,w=.int .i64 z∧(z=0↔isNull v)):=by
 have hq:Ag (Ac tab) 191 [XK.av] (· =.bool true):=by
  have:=ZT AcA;rwa [decide_eq_true ((ZX rfl).2 Aa5)]at this
 have hp:=ZT hv
 by_cases hVV:VV 8 v
 ·rw[decide_eq_true hVV]at hp
  by_cases hk:v.k=0
  ·have hn:=(ZX hk).1 hVV
   refine Ad rfl rfl ?_
   (conv=>whnf);repeat' (first|((first|refine Aa hp ?_|refine Aa hq ?_|refine Aa (AoL hn) ?_);rintro _ rfl;conv=>whnf)|refine kA ?_;conv=>whnf|(apply Br.mk<;>intro hc<;>first|exact hc.elim|conv=>whnf)|refine kB ?_)
   all_goals first|exact⟨_,rfl,fun _=>hn,fun _=>rfl⟩
  ·refine Ad rfl rfl ?_
   (conv=>whnf);repeat' (first|((first|refine Aa hp ?_|refine Aa hq ?_);rintro _ rfl;conv=>whnf)|(refine Aa (Alc hk) ?_;rintro _ ⟨z,rfl,hz⟩;conv=>whnf)|refine kA ?_;conv=>whnf|(apply Br.mk<;>intro hc<;>first|exact hc.elim|conv=>whnf)|refine kB ?_)
   all_goals first|exact⟨_,rfl,fun h=>absurd h hz,fun h=>absurd h.1 hk⟩
 ·rw[decide_eq_false hVV]at hp
  have hn:¬isNull v:=fun h=>hVV ((ZX h.1).2 h)
  refine Ad rfl rfl ?_
  (conv=>whnf);repeat' (first|((first|refine Aa hp ?_|refine Aa hq ?_);rintro _ rfl;conv=>whnf)|refine kA ?_;conv=>whnf|(apply Br.mk<;>intro hc<;>first|exact hc.elim|conv=>whnf)|refine kB ?_)
  all_goals first|exact⟨_,rfl,fun h=>absurd h (by decide),fun h=>absurd h hn⟩
section
open Go.Sort
def JO:AV→GV
 | .agg [.int _ k,.int _ n,.int _ d,.str s,.sl nn l]=>⟨k,n,d,s,nn,l⟩
 |_=>⟨0,0,0,[],false,[]⟩
theorem AdP (g:GV):JO g.av=g:=rfl
def dep:Nat→GV→Prop
 |0,_=>False
 |m+1,v=>∀x∈v.l,∃g:GV,x=g.av∧g.ok∧dep m g
def Eu (c:AV→AV→Int):List AV→List AV→Int
 |[],[]=>0
 |[],_::_=>-1
 |_::_,[]=>1
 |a::x,b::y=>Eh (c a b) (Eu c x y)
theorem XH {c:AV→AV→Int} (hc:PC c):∀x y,Eu c y x=-Eu c x y
 |[],[]=>rfl
 |[],_::_=>rfl
 |_::_,[]=>rfl
 |a::x,b::y=>by
  have h1:=hc.anti a b
  have h2:=XH hc x y
  simp only[Eu,Eh]
  split<;>split<;>omega
theorem UR {c:AV→AV→Int} (hc:PC c):∀x y z,Eu c x y≤0→Eu c y z≤0→Eu c x z≤0
 |[],_,[],_,_=>Int.le_refl 0
 |[],_,_::_,_,_=>by show(-1:Int)≤0;omega
 |_::_,[],_,h,_=>absurd h (by show¬(1:Int)≤0;omega)
 |_::_,_::_,[],_,h=>absurd h (by show¬(1:Int)≤0;omega)
 |a::x,b::y,d::z,h1,h2=>by
  have ih:=UR hc x y z
  have a1:=hc.trans a b d
  have a2:=hc.trans b d a
  have a3:=hc.trans d a b
  have b1:=hc.anti a b
  have b2:=hc.anti b d
  have b3:=hc.anti a d
  simp only[Eu,Eh]at*
  split at h1<;>split at h2<;>split<;>omega
theorem PC.lists {c:AV→AV→Int} (hc:PC c):PC (Eu c):=⟨XH hc,UR hc⟩
theorem VT {c:AV→AV→Int} {x y:List AV} {i:Nat} (hx:i<x.length) (hy:i<y.length):Eu c (x.drop i) (y.drop i)=Eh (c x[i] y[i]) (Eu c (x.drop (i+1)) (y.drop (i+1))):=by
 rw[List.drop_eq_getElem_cons hx,List.drop_eq_getElem_cons hy,Eu]
theorem PC.Atj {α:Type} {c d e:α→α→Int} {p:α→Prop} [DecidablePred p] (hc:PC c) (hd:PC d) (he:PC e) (hp:∀x y,c x y=0→(p x↔p y)):PC fun x y=>Eh (c x y) (if p x then d x y else e x y) where
 anti x y:=by
  have h1:=hc.anti x y
  have h2:=hd.anti x y
  have h3:=he.anti x y
  have h4:=hp x y
  unfold Eh
  by_cases h0:c x y=0
  ·rw[if_pos (by omega),if_pos h0]
   by_cases hx:p x
   ·rw[if_pos hx,if_pos ((h4 h0).1 hx)];exact h2
   ·rw[if_neg hx,if_neg (fun h=>hx ((h4 h0).2 h))];exact h3
  ·rw[if_neg (by omega),if_neg h0];exact h1
 trans x y z h1 h2:=by
  have a0:=hc.trans z y x
  have a1:=hc.trans x y z
  have a2:=hc.trans y z x
  have a3:=hc.trans z x y
  have b1:=hc.anti x y
  have b2:=hc.anti y z
  have b3:=hc.anti x z
  have d1:=hd.trans x y z
  have e1:=he.trans x y z
  have p1:=hp x y
  have p2:=hp y z
  unfold Eh at*
  by_cases h0:c x y=0
  ·rw[if_pos h0]at h1
   by_cases h00:c y z=0
   ·rw[if_pos h00]at h2
    rw[if_pos (by omega)]
    by_cases hx:p x
    ·rw[if_pos hx]at h1 ⊢
     rw[if_pos ((p1 h0).1 hx)]at h2
     exact d1 h1 h2
    ·rw[if_neg hx]at h1 ⊢
     rw[if_neg (fun h=>hx ((p1 h0).2 h))]at h2
     exact e1 h1 h2
   ·rw[if_neg h00]at h2
    rw[if_neg (by omega)]
    omega
  ·rw[if_neg h0]at h1
   by_cases h00:c y z=0
   ·rw[if_neg (by omega)]
    omega
   ·rw[if_neg h00]at h2
    rw[if_neg (by omega)]
    omega
def pd (g:GV):Int:=if dn g≤0 then 1 else dn g
theorem AdB (g:GV):0<pd g:=by unfold pd;split<;>omega
def VW (a b:GV):Int:=P9 (a.n*pd b-b.n*pd a)
theorem AjJ {a b:GV}:VW a b≤0↔a.n*pd b≤b.n*pd a:=by
 unfold VW P9;split
 ·omega
 ·split<;>omega
theorem Ama:PC VW where
 anti x y:=by unfold VW P9;repeat' split
              all_goals omega
 trans x y z h1 h2:=by
  rw[AjJ]at*
  have p1:=AdB x
  have p2:=AdB y
  have p3:=AdB z
  have e1:x.n*pd y*pd z≤y.n*pd x*pd z:=Int.mul_le_mul_of_nonneg_right h1 (by omega)
  have e2:y.n*pd z*pd x≤z.n*pd y*pd x:=Int.mul_le_mul_of_nonneg_right h2 (by omega)
  have e3:x.n*pd z*pd y≤z.n*pd x*pd y:=by
   rw[Int.mul_right_comm x.n,Int.mul_right_comm z.n]
   rw[Int.mul_right_comm y.n]at e2
   omega
  exact Int.le_of_mul_le_mul_right e3 p2
def Tz:Nat→GV→GV→Int
 |0,_,_=>0
 |m+1,a,b=>Eh (Dq (EY a.k) (EY b.k)) (if EY a.k=2 then VW a b else Eh (cS a.s b.s) (Eh (Dq a.n b.n) (Eu (fun x y=>Tz m (JO x) (JO y)) a.l b.l)))
theorem AeU {α:Type}:PC fun _ _:α=>0:=⟨fun _ _=>rfl,fun _ _ _ _ _=>Int.le_refl 0⟩
theorem AeV:∀m,PC (Tz m)
 |0=>AeU
 |m+1=>PC.Atj (p:=fun a:GV=>EY a.k=2) (Xv.on fun a:GV=>EY a.k) Ama ((Adq.on GV.s).lex ((Xv.on GV.n).lex (((AeV m).on JO).lists.on GV.l))) fun x y h=>by
  have h:Dq (EY x.k) (EY y.k)=0:=h
  rw[D6]at h
  show EY x.k=2↔EY y.k=2
  rw[h]
theorem PC.two {α:Type} {d e:α→α→Int} {p:α→Prop} [DecidablePred p] (hd:PC d) (he:PC e):PC fun x y=>if p x then if p y then d x y else -1 else if p y then 1 else e x y where
 anti x y:=by
  have h2:=hd.anti x y
  have h3:=he.anti x y
  by_cases hx:p x<;>by_cases hy:p y<;>simp only[hx,hy,if_true,if_false]<;>first|assumption|rfl
 trans x y z h1 h2:=by
  have d1:=hd.trans x y z
  have e1:=he.trans x y z
  by_cases hx:p x<;>by_cases hy:p y<;>by_cases hz:p z<;>simp only[hx,hy,hz,if_true,if_false]at* <;>first|exact d1 h1 h2|exact e1 h1 h2|omega
noncomputable def EL:Nat→GV→GV→Int
 |0,_,_=>0
 |m+1,a,b=>if VV 8 a then if VV 8 b then Tz (m+1) a b else -1 else if VV 8 b then 1 else
   Eh (Dq a.k b.k) (Eh (Dq a.n b.n) (Eh (Dq a.d b.d) (Eh (cS a.s b.s) (Eu (fun x y=>EL m (JO x) (JO y)) a.l b.l))))
theorem PU:∀m,PC (EL m)
 |0=>AeU
 |m+1=>PC.two (p:=fun a=>VV 8 a) (AeV (m+1)) ((Xv.on GV.k).lex ((Xv.on GV.n).lex ((Xv.on GV.d).lex ((Adq.on GV.s).lex (((PU m).on JO).lists.on GV.l)))))
end
def allNames (l:List (List UInt8)):Prop:=∀s∈l,isName s
noncomputable instance (l:List (List UInt8)):Decidable (allNames l):=Classical.propDecidable _
def rises (l:List (List UInt8)):Prop:=∀j (h:j+1<l.length),(Op.bytesLess l[j+1] l[j]||l[j+1]==l[j])=false
noncomputable instance (l:List (List UInt8)):Decidable (rises l):=Classical.propDecidable _
theorem unn {s:List UInt8} (hl:s.length<2^63):Ag (Ac tab) 130 [.str s] (· =.bool (decide (¬ isName s))):=by
 refine Ad rfl rfl ?_
 (conv=>whnf);repeat' (first|refine kA ?_;conv=>whnf|(apply Br.mk<;>intro hc<;>first|exact hc.elim|conv=>whnf)|(refine Bo (name1 hl) (fun hr=>?_) (fun hr=>?_)<;>conv=>whnf)|refine kB ?_)
 ·exact Ar (fun h=>h hr)
 ·exact Bh hr
theorem Ar1 {l:List (List UInt8)} {nn:Bool} (hl:l.length<2^63) (hs:∀s∈l,s.length<2^63):Ag (Ac tab) 190 [.sl nn (vs .str l),.fn 130 []] (fun v=>∃z,v=.int .i64 z∧(0≤z↔¬allNames l)):=by
 refine Ad rfl rfl ?_
 (conv=>whnf);repeat' (first|refine kA ?_;conv=>whnf|(apply Br.mk<;>intro hc<;>first|exact hc.elim|conv=>whnf)  |refine kB ?_)
 refine Af (fun m env s=>∃i:Nat,m=l.length-i∧env=[(0,.sl nn (vs .str l)),(1,.fn 130 []),(7,.int .i64 l.length),(8,.int .i64 i)]∧s=⟨[],0⟩∧∀s∈l.take i,isName s) ?_ _ _ _ ⟨0,rfl,by simp,rfl,by simp⟩
 rintro _ _ _ ⟨i,rfl,rfl,rfl,hx⟩
 refine⟨rfl,?_⟩
 (conv=>whnf);repeat' (first|refine kA ?_;conv=>whnf|(apply Br.mk<;>intro hc<;>first|exact hc.elim|conv=>whnf)|(refine Bo (unn (hs _ (List.getElem_mem (by omega)))) (fun hr=>?_) (fun hr=>?_)<;>conv=>whnf)|refine kB ?_)
 ·exact⟨_,rfl,fun _ h=>hr (h _ (List.getElem_mem _)),fun _=>by omega⟩
 ·exact again.mk ⟨_,by omega,i+1,rfl,rfl,rfl,Cb (by omega) hx (Decidable.of_not_not hr)⟩
 ·rw[CQ hc]at hx;exact⟨_,rfl,fun h=>absurd h (by omega),fun h=>absurd hx h⟩
theorem Ah9 {l:List (List UInt8)} {nn:Bool} (hl:l.length<2^63) (hs:∀s∈l,s.length<2^63):Ag (Ac tab) 129 [.sl nn (vs .str l),.fn 130 []] (· =.bool (decide (¬ allNames l))):=by
 refine Ad rfl rfl ?_
 (conv=>whnf);repeat' (first|refine kA ?_;conv=>whnf|(apply Br.mk<;>intro hc<;>first|exact hc.elim|conv=>whnf)  |refine kB ?_)
 refine Aa (Ar1 hl hs) ?_
 rintro _ ⟨z,rfl,hz⟩
 (conv=>whnf);repeat' (first|refine kA ?_;conv=>whnf|(apply Br.mk<;>intro hc<;>first|exact hc.elim|conv=>whnf)  |refine kB ?_)
 ·exact Bh (hz.1 hc)
 ·exact Ar (mt hz.2 hc)
theorem Aho {l:List (List UInt8)} {nn:Bool} (hl:l.length<2^63) (hs:∀s∈l,s.length<2^63):Ag (Ac tab) 176 [.sl nn (vs .str l)] (· =.bool (decide (allNames l))):=by
 refine Ad rfl rfl ?_
 (conv=>whnf);repeat' (first|refine kA ?_;conv=>whnf|(apply Br.mk<;>intro hc<;>first|exact hc.elim|conv=>whnf)  |refine kB ?_)
 refine Af (fun m env s=>∃i:Nat,m=l.length-i∧env=[(0,.sl nn (vs .str l)),(3,.int .i64 i)]∧s=⟨[],0⟩∧∀s∈l.take i,isName s) ?_ _ _ _ ⟨0,rfl,rfl,rfl,by simp⟩
 rintro _ _ _ ⟨i,rfl,rfl,rfl,hx⟩
 refine⟨rfl,?_⟩
 (conv=>whnf);repeat' (first|refine kA ?_;conv=>whnf|(apply Br.mk<;>intro hc<;>first|exact hc.elim|conv=>whnf)|(refine Bo (name2 (hs _ (List.getElem_mem (by omega)))) (fun hr=>?_) (fun hr=>?_)<;>conv=>whnf)|refine kB ?_)
 ·exact again.mk ⟨_,by omega,i+1,rfl,rfl,rfl,Cb (by omega) hx hr⟩
 ·exact Ar fun h=>hr (h _ (List.getElem_mem _))
 ·rw[CQ hc]at hx;exact Bh hx
theorem Aia {l:List (List UInt8)} {nn:Bool} (hl:l.length<2^63):Ag (Ac tab) 131 [.sl nn (vs .str l)] (· =.bool (decide (rises l))):=by
 refine Ad rfl rfl ?_
 (conv=>whnf);repeat' (first|refine kA ?_;conv=>whnf|(apply Br.mk<;>intro hc<;>first|exact hc.elim|conv=>whnf)  |refine kB ?_)
 refine Af (fun m env s=>∃i:Nat,m=l.length-i∧env=[(0,.sl nn (vs .str l)),(3,.int .i64 (i+1:Nat))]∧s=⟨[],0⟩∧∀j (h:j+1<l.length),j<i→(Op.bytesLess l[j+1] l[j]||l[j+1]==l[j])=false) ?_ _ _ _ ⟨0,rfl,rfl,rfl,fun j _ h=>absurd h (by omega)⟩
 rintro _ _ _ ⟨i,rfl,rfl,rfl,hx⟩
 refine⟨rfl,?_⟩
 (conv=>whnf);repeat' (first|refine kA ?_;conv=>whnf|(apply Br.mk<;>intro hc<;>first|exact hc.elim|conv=>whnf)|(apply Au;(· exact nVz i (by omega) (by omega));conv=>whnf)|refine kB ?_)
 ·exact Ar fun h=>by simp only[show (((i+1:Nat):Int)-1).toNat=i by omega]at hc;rw[h i (by omega)]at hc;cases hc
 ·simp only[show (((i+1:Nat):Int)-1).toNat=i by omega]at hc
  exact again.mk ⟨_,by omega,i+1,rfl,rfl,rfl,fun j h hj=>by
   by_cases e:j=i
   ·subst e;simpa using hc
   ·exact hx j h (by omega)⟩
 ·exact Bh fun j h=>hx j h (by omega)
theorem Ahp {l:List (List UInt8)} {nn:Bool} (hl:l.length<2^63):Ag (Ac tab) 177 [.sl nn (vs .str l)] (· =.bool (decide (rises l))):=by
 refine Ad rfl rfl ?_
 (conv=>whnf);repeat' (first|refine kA ?_;conv=>whnf|(apply Br.mk<;>intro hc<;>first|exact hc.elim|conv=>whnf)  |refine kB ?_)
 refine Af (fun m env s=>∃i:Nat,m=l.length-i∧env=[(0,.sl nn (vs .str l)),(3,.int .i64 (i+1:Nat))]∧s=⟨[],0⟩∧∀j (h:j+1<l.length),j<i→(Op.bytesLess l[j+1] l[j]||l[j+1]==l[j])=false) ?_ _ _ _ ⟨0,rfl,rfl,rfl,fun j _ h=>absurd h (by omega)⟩
 rintro _ _ _ ⟨i,rfl,rfl,rfl,hx⟩
 refine⟨rfl,?_⟩
 (conv=>whnf);repeat' (first|refine kA ?_;conv=>whnf|(apply Br.mk<;>intro hc<;>first|exact hc.elim|conv=>whnf)|(apply Au;(· exact nVz i (by omega) (by omega));conv=>whnf)|refine kB ?_)
 ·exact Ar fun h=>by simp only[show (((i+1:Nat):Int)-1).toNat=i by omega]at hc;rw[h i (by omega)]at hc;cases hc
 ·simp only[show (((i+1:Nat):Int)-1).toNat=i by omega]at hc
  exact again.mk ⟨_,by omega,i+1,rfl,rfl,rfl,fun j h hj=>by
   by_cases e:j=i
   ·subst e;simpa using hc
   ·exact hx j h (by omega)⟩
 ·exact Bh fun j h=>hx j h (by omega)
theorem AvY {g len:Nat} {nn cl:Bool} {l:List (List UInt8)} {x:List UInt8} {bytes:Nat} {K:Nat→Bool→Bool→List AV→Prop} (hl:len=l.length) (hr:(l.length+1)*bytes≤2 ^ 46) (h:K (len+1) true cl (vs .str (l++[x]))):
 La g g 1 1 len nn cl true (vs .str l) [.str x] bytes K:=by
 subst hl
 refine⟨⟨rfl,rfl,by simp,AbZ rfl,hr⟩,?_⟩
 rw[AdU,Bool.and_true]
 simpa using h
def keysOf (P:List GP):List (List UInt8):=P.map GP.key
@[simp] theorem Df (P:List GP):(keysOf P).length=P.length:=by simp[keysOf]
theorem Yx {P:List GP} (hp:∀p∈P,p.ok):∀s∈keysOf P,s.length<2^63:=by
 intro s h
 obtain⟨p,h1,rfl⟩:=List.mem_map.1 h
 exact(hp p h1).1
theorem Uw {P:List GP} {i:Nat} (h:i<P.length):keysOf (P.take i)++[(P[i]).key]=keysOf (P.take (i+1)):=by
 rw[List.take_succ_eq_append_getElem h];unfold keysOf;rw[List.map_append];rfl
def allPlain (P:List GP):Prop:=∀p∈P,DW p.v
noncomputable instance (P:List GP):Decidable (allPlain P):=Classical.propDecidable _
noncomputable def DV (L:List (List UInt8)) (P:List GP):Int:=
 if 8<L.length∨16<P.length then 4 else if¬(allNames L∧allNames (keysOf P))then 6 else if¬(rises L∧rises (keysOf P))then 26 else if¬allPlain P then 8 else 0
theorem PD {L:List (List UInt8)} {P:List GP} (h:8<L.length∨16<P.length):AV.int .i64 4=AV.int .i64 (DV L P):=by rw[DV,if_pos h]
theorem PE {L:List (List UInt8)} {P:List GP} (h:¬(8<L.length∨16<P.length)) (h1:¬(allNames L∧allNames (keysOf P))):AV.int .i64 6=AV.int .i64 (DV L P):=by rw[DV,if_neg h,if_pos h1]
theorem Md {L:List (List UInt8)} {P:List GP} (h:¬(8<L.length∨16<P.length)) (h1:allNames L∧allNames (keysOf P)) (h2:¬(rises L∧rises (keysOf P))):AV.int .i64 26=AV.int .i64 (DV L P):=by rw[DV,if_neg h,if_neg (not_not_intro h1),if_pos h2]
theorem Vh {L:List (List UInt8)} {P:List GP} (h:¬(8<L.length∨16<P.length)) (h1:allNames L∧allNames (keysOf P)) (h2:rises L∧rises (keysOf P)) (h3:¬allPlain P):AV.int .i64 8=AV.int .i64 (DV L P):=by rw[DV,if_neg h,if_neg (not_not_intro h1),if_neg (not_not_intro h2),if_pos h3]
theorem Ad3 {L:List (List UInt8)} {P:List GP} (h:¬(8<L.length∨16<P.length)) (h1:allNames L∧allNames (keysOf P)) (h2:rises L∧rises (keysOf P)) (h3:allPlain P):AV.int .i64 0=AV.int .i64 (DV L P):=by rw[DV,if_neg h,if_neg (not_not_intro h1),if_neg (not_not_intro h2),if_neg (not_not_intro h3)]
theorem AhR {L:List (List UInt8)} {P:List GP} {ln pn:Bool} (hL:L.length<2^63) (hs:∀s∈L,s.length<2^63) (hP:P.length<2^63) (hp:∀p∈P,p.ok):Ag (Ac tab) 76 [.sl ln (vs .str L),.sl pn (vs GP.av P)] (· =.int .i64 (DV L P)):=by
 have hk:=Yx hp
 refine Ad rfl rfl ?_
 (conv=>whnf);repeat' (first|refine kA ?_;conv=>whnf|(apply Br.mk<;>intro hc<;>first|exact hc.elim|conv=>whnf)  |refine kB ?_)
 ·exact PD (by omega)
 ·exact PD (by omega)
 have h16:¬(8<L.length∨16<P.length):=by omega
 refine Af (fun m env s=>∃(i g:Nat),m=P.length-i∧i≤P.length∧env=[(0,.sl ln (vs .str L)),(1,.sl pn (vs GP.av P)),(5,.own 0 g 0 i),(18,.sl pn (vs GP.av P)),(19,.int .i64 P.length),(20,.int .i64 i)]∧∃nn c,s=⟨[.arr g 1 nn true (vs .str (keysOf (P.take i)))],c⟩) ?_ _ _ _ ⟨0,0,rfl,by omega,rfl,_,_,rfl⟩
 rintro _ _ _ ⟨i,g,rfl,hi,rfl,nn,c,rfl⟩
 refine⟨rfl,?_⟩
 (conv=>whnf);repeat' (first|refine kA ?_;conv=>whnf|(apply Br.mk<;>intro hc<;>first|exact hc.elim|conv=>whnf)  |refine kB ?_)
 ·refine AvY (by simp;omega) (by simp;omega) ?_
  (conv=>whnf);repeat' (first|refine kA ?_;conv=>whnf|(apply Br.mk<;>intro hc<;>first|exact hc.elim|conv=>whnf)  |refine kB ?_)
  rw[Uw (by omega)]
  exact again.mk ⟨_,by omega,i+1,_,rfl,by omega,rfl,_,_,rfl⟩
 ·rw[CQ hc]
  obtain rfl:i=P.length:=by omega
  have hu:sub (vs AV.str (keysOf P)) 0 P.length=vs .str (keysOf P):=by rw[← Df P];exact uV
  have hkl:(keysOf P).length<2^63:=by rw[Df];exact hP
  (conv=>whnf);repeat' (first|(refine Bo (Ah9 hL hs) (fun h1=>?_) (fun h1=>?_)<;>conv=>whnf)|(rw [hu];refine Bo (Ah9 hkl hk) (fun h2=>?_) (fun h2=>?_)<;>conv=>whnf)|(refine Bo (Aia hL) (fun h3=>?_) (fun h3=>?_)<;>conv=>whnf)|(rw [hu];refine Bo (Aia hkl) (fun h4=>?_) (fun h4=>?_)<;>conv=>whnf)|refine kA ?_;conv=>whnf|(apply Br.mk<;>intro hc<;>first|exact hc.elim|conv=>whnf)|refine kB ?_)
  ·exact PE h16 fun h=>h1 h.1
  ·exact PE h16 fun h=>h2 h.2
  ·refine Af (fun m env s=>∃(i:Nat),m=P.length-i∧env=[(44,.sl pn (vs GP.av P)),(45,.int .i64 P.length),(46,.int .i64 i)]∧(∃ c,s=⟨[.arr g 1 nn true (vs .str (keysOf P))],c⟩)∧∀p∈P.take i,DW p.v) ?_ _ _ _ ⟨0,rfl,rfl,⟨_,rfl⟩,by simp⟩
   clear hc hi
   rintro _ _ _ ⟨i,rfl,rfl,⟨c,rfl⟩,hx⟩
   refine⟨rfl,?_⟩
   (conv=>whnf);repeat' (first|(refine Bo (AgT (v:=(P[i]).v) (hp _ (List.getElem_mem (by omega))).2) (fun h5=>?_) (fun h5=>?_)<;>conv=>whnf)|refine kA ?_;conv=>whnf|(apply Br.mk<;>intro hc<;>first|exact hc.elim|conv=>whnf)|refine kB ?_)
   ·exact again.mk ⟨_,by omega,i+1,rfl,rfl,⟨_,rfl⟩,Cb (by omega) hx h5⟩
   ·exact Vh h16 ⟨Classical.not_not.1 h1,Classical.not_not.1 h2⟩ ⟨h3,h4⟩ fun h=>h5 (h _ (List.getElem_mem _))
   ·rw[CQ hc]at hx
    exact Ad3 h16 ⟨Classical.not_not.1 h1,Classical.not_not.1 h2⟩ ⟨h3,h4⟩ hx
  ·exact Md h16 ⟨Classical.not_not.1 h1,Classical.not_not.1 h2⟩ fun h=>h4 h.2
  ·exact Md h16 ⟨Classical.not_not.1 h1,Classical.not_not.1 h2⟩ fun h=>h3 h.1
attribute [irreducible] DV
def incr (l:List Int):Prop:=∀j (h:j+1<l.length),l[j]<l[j+1]
noncomputable instance (l:List Int):Decidable (incr l):=Classical.propDecidable _
theorem AeY {l:List Int} (h:incr l) {i:Nat}:∀d (hd:i+d+1<l.length),l[i]<l[i+d+1]
 |0,hd=>h i hd
 |d+1,hd=>Int.lt_trans (AeY h d (by omega)) (h (i+d+1) hd)
theorem Af8 {l:List Int} (h:incr l) {i j:Nat} (hij:i<j) (hj:j<l.length):l[i]<l[j]:=by
 obtain⟨d,rfl⟩:∃d,j=i+d+1:=⟨j-i-1,by omega⟩
 exact AeY h d hj
def Hw (N:List GN):List Int:=N.map GN.id
def Atm (E:List GE):List Int:=E.map GE.id
@[simp] theorem Atn (N:List GN):(Hw N).length=N.length:=by simp[Hw]
@[simp] theorem Ato (N:List GE):(Atm N).length=N.length:=by simp[Atm]
theorem PW {N:List GN} {i:Nat} (h:i<N.length):(Hw N)[i]'(by simpa using h)=(N[i]).id:=by simp[Hw]
theorem AdC {N:List GN} (h:incr (Hw N)) {i j:Nat} (hij:i<j) (hj:j<N.length):(N[i]).id<(N[j]).id:=by
 have:=Af8 h hij (by simpa using hj)
 rwa [PW (by omega),PW hj]at this
theorem AvX {n:GN} {x:Int}:Ag (Ac tab) 134 [n.av,.int .i64 x] (· =.int .i64 (Dq n.id x)):=by
 refine Ad rfl rfl ?_
 (conv=>whnf);repeat' (first|refine kA ?_;conv=>whnf|(apply Br.mk<;>intro hc<;>first|exact hc.elim|conv=>whnf)|(refine Aa compare ?_;rintro _ rfl;conv=>whnf)|refine kB ?_)
 rfl
theorem bsearch {N:List GN} {nn:Bool} {x:Int} (hN:N.length<2^62) (hi:incr (Hw N)):Ag (Ac tab) 133 [.sl nn (vs GN.av N),.int .i64 x,.fn 134 []] (fun v=>∃z b,v=.BG [.int .i64 z,.bool b]∧(b=true↔x∈Hw N)):=by
 have fin:∀i:Nat,i≤N.length→(∀ k (h:k<N.length),k<i→(N[k]).id<x)→(∀ k (h:k<N.length),i≤k→x≤(N[k]).id)→(x∈Hw N↔∃h:i<N.length,(N[i]).id=x):=by
  intro i h0 h1 h2
  constructor
  ·intro h
   obtain⟨k,hk,e⟩:=List.getElem_of_mem h
   have hk':k<N.length:=by simpa using hk
   rw[PW hk']at e
   have a1:=h1 k hk'
   have:i≤k:=by
        rcases Nat.lt_or_ge k i with h|h
        ·have:=a1 h;omega
        ·exact h
   rcases Nat.lt_or_ge i k with h|h
   ·have:=AdC hi h hk'
    have:=h2 i (by omega) (Nat.le_refl _)
    omega
   ·obtain rfl:i=k:=by omega
    exact⟨hk',e⟩
  ·rintro⟨h,e⟩
   rw[← e,←PW h]
   exact List.getElem_mem _
 refine Ad rfl rfl ?_
 (conv=>whnf);repeat' (first|refine kA ?_;conv=>whnf|(apply Br.mk<;>intro hc<;>first|exact hc.elim|conv=>whnf)  |refine kB ?_)
 refine Af (fun m env s=>∃(i j:Nat),m=j-i∧i≤j∧j≤N.length∧env=[(0,.sl nn (vs GN.av N)),(1,.int .i64 x),(2,.fn 134 []),(8,.int .i64 N.length),(9,.int .i64 i),(10,.int .i64 j)]∧s=⟨[],0⟩∧
  (∀ k (h:k<N.length),k<i→(N[k]).id<x)∧(∀ k (h:k<N.length),j≤k→x≤(N[k]).id)) ?_ _ _ _ ⟨0,N.length,rfl,by omega,by omega,by simp,rfl,fun k _ h=>absurd h (by omega),fun k h1 h=>absurd h (by omega)⟩
 rintro _ _ _ ⟨i,j,rfl,hij,hj,rfl,rfl,h1,h2⟩
 refine⟨rfl,?_⟩
 (conv=>whnf);repeat' (first|(refine Abl (i+j) (by omega) (by omega) ?_;conv=>whnf)|(apply BK;(· exact Ahi _);conv=>whnf)|(refine Aa AvX ?_;rintro _ rfl;conv=>whnf)|refine kA ?_;conv=>whnf|(apply Br.mk<;>intro hc<;>first|exact hc.elim|conv=>whnf)|refine kB ?_)
 ·have hm:=Oj.1 hc
  exact again.mk ⟨_,by omega,(i+j) / 2+1,j,rfl,by omega,hj,rfl,rfl,fun k hk hlt=>by
   rcases Nat.lt_or_ge k ((i+j) / 2)with h|h
   ·exact Int.lt_trans (AdC hi h (by omega)) hm
   ·obtain rfl:k=(i+j) / 2:=by omega
    exact hm,h2⟩
 ·have hm:=mt Oj.2 hc
  exact again.mk ⟨_,by omega,i,(i+j) / 2,rfl,by omega,by omega,rfl,rfl,h1,fun k hk hle=>by
   rcases Nat.lt_or_ge ((i+j) / 2) k with h|h
   ·have:=AdC hi h hk;omega
   ·obtain rfl:k=(i+j) / 2:=by omega
    omega⟩
 all_goals have hf:=fin i (by omega) h1 (fun k hk h=>h2 k hk (by omega))
 ·exact⟨_,_,rfl,fun _=>hf.2 ⟨by omega,D6.1 hc⟩,fun _=>rfl⟩
 ·exact⟨_,_,rfl,fun h=>(Bool.noConfusion h),fun h=>absurd (D6.2 (hf.1 h).2) hc⟩
 ·exact⟨_,_,rfl,fun h=>(Bool.noConfusion h),fun h=>absurd (hf.1 h).1 (by omega)⟩
theorem Au8 {N:List GN} {nn:Bool} {x:Int} (hN:N.length<2^62) (hi:incr (Hw N)):Ag (Ac tab) 77 [.sl nn (vs GN.av N),.int .i64 x] (· =.bool (decide (x∈Hw N))):=by
 refine Ad rfl rfl ?_
 (conv=>whnf);repeat' (first|refine kA ?_;conv=>whnf|(apply Br.mk<;>intro hc<;>first|exact hc.elim|conv=>whnf)  |refine kB ?_)
 refine Aa (bsearch hN hi) ?_
 rintro _ ⟨z,b,rfl,hb⟩
 (conv=>whnf);repeat' (first|refine kA ?_;conv=>whnf|(apply Br.mk<;>intro hc<;>first|exact hc.elim|conv=>whnf)  |refine kB ?_)
 ·exact Bh (hb.1 hc)
 ·exact Ar fun h=>by rw[hb.2 h]at hc;cases hc
end AI
end Go.Proofs.YthnehejdkajjhaaGreatDoor
