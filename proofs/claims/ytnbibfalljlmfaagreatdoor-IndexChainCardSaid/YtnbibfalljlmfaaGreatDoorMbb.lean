/- Valid values, exactly: the program's. Comparing two numbers. The null value. The program's order of a value and null. value.Null. -/
import Derived.Test.YtnbibfalljlmfaaGreatDoorMba
import Derived.Test.YtnbibfalljlmfaaGreatDoorGrCode
import Derived.Test.YtnbibfalljlmfaaGreatDoorMaa
set_option linter.unusedVariables false
set_option maxRecDepth 4000
namespace Go.Proofs.YtnbibfalljlmfaaGreatDoor
namespace AI
theorem AK8 {g:GV} (h:VB g):g.k≤6:=by
  obtain⟨_,h⟩:=h
  rcases h with⟨h,_⟩|⟨h,_⟩|⟨h,_⟩|⟨h,_⟩|⟨h,_⟩|⟨h,_⟩<;>omega
theorem Axo {m:Nat} {g:GV} (h7:g.k≠7) (h8:g.k≠8):VV m g↔VB g:=by
  cases m with
  |zero=>exact⟨fun h=>h.elim id fun h=>absurd h.1 h7,.inl⟩
  |succ m=>exact⟨fun h=>h.elim id fun h=>h.elim (fun h=>absurd h.1 h7) fun h=>absurd h.1 h8,.inl⟩
theorem AyL {m:Nat} {g:GV} (hk:g.k=7):VV m g↔g.n=0∧g.d=0∧g.s=[]∧VPa g.l:=by
  have hb:¬VB g:=fun h=>by have:=AK8 h;omega
  cases m with
  |zero=>exact⟨fun h=>h.elim (fun h=>absurd h hb) fun h=>h.2,fun h=>.inr ⟨hk,h⟩⟩
  |succ m=>exact⟨fun h=>h.elim (fun h=>absurd h hb) fun h=>h.elim (fun h=>h.2) fun h=>absurd h.1 (by omega),fun h=>.inr (.inl ⟨hk,h⟩)⟩
def VLi (m:Nat) (l:List AV):Prop:=∀i (h:i<l.length),∃x:GV,l[i]=x.av∧VV m x
theorem ABQ {m:Nat} {g:GV} (hk:g.k=8):VV (m+1) g↔g.n=0∧g.d=0∧g.s=[]∧g.l.length≤64∧VLi m g.l:=by
  have hb:¬VB g:=fun h=>by have:=AK8 h;omega
  exact⟨fun h=>h.elim (fun h=>absurd h hb) fun h=>h.elim (fun h=>absurd h.1 (by omega)) fun h=>h.2,fun h=>.inr (.inr ⟨hk,h⟩)⟩
theorem AG4 {g:GV} (hk:g.k=8):¬VV 0 g:=fun h=>h.elim (fun h=>by have:=AK8 h;omega) fun h=>by have:=h.1;omega
noncomputable instance (m:Nat) (g:GV):Decidable (VV m g):=Classical.propDecidable _
noncomputable instance (l:List AV):Decidable (VPa l):=Classical.propDecidable _
noncomputable instance (m:Nat) (l:List AV):Decidable (VLi m l):=Classical.propDecidable _
theorem Aay {p q:Prop} [Decidable p] [Decidable q] (h:p↔q):AV.bool (decide p)=AV.bool (decide q):=by
  by_cases hp:p
  · rw[decide_eq_true hp,decide_eq_true (h.1 hp)]
  · rw[decide_eq_false hp,decide_eq_false (mt h.2 hp)]
set_option maxHeartbeats 1000000 in
theorem vbP {g:GV} (hg:g.ok) (h7:g.k≠7) (h8:g.k≠8) {n:Int}:D8 (Dx tab) 249 [g.av,.int .i64 n] (· =.bool (decide (VB g))):=by
  obtain⟨g1,g2,g3,g4,g5,g6,g7⟩:=hg
  unfold Ln at g4 g5
  refine Lu rfl rfl ?_
  (conv=>whnf);repeat' (first|(refine KH (inP (n:=g.n)) (fun hr=>?_) (fun hr=>?_)<;>conv=>whnf)|(refine KH (fvP (n:=g.n) (d:=g.d)) (fun hr=>?_) (fun hr=>?_)<;>conv=>whnf)|(refine BM (ixP (l:=g.s)) ?_;rintro _ rfl;conv=>whnf)|((with_reducible first|apply kN|apply kW|apply kX|apply kG|apply kQ);(· exact sd);conv=>whnf)|(refine DW.mk ?_ ?_<;>intro hc<;>(try rw[List.length_nil]at hc)<;>first|(exfalso;omega)|(exact absurd rfl hc)|conv=>whnf)|(refine CB ?_ ?_<;>intro hc<;>conv=>whnf))
  all_goals clear g7 g6
  all_goals first
    |exact Hf fun h=>by have:=h.1;omega
    |(refine Lp ?_;unfold VB okS;rw[← AuI];first|(simp_all;done)|(simp_all;omega))
    |(refine Hf ?_;unfold VB okS;rw[← AuI];first|(simp_all;done)|(simp_all;omega))
    |trace_state
theorem AwN {l:List AV} {i:Nat} (hi:i<l.length) {x:GV} (e:l[i]=x.av) (hk:x.k=5+(i:Int) % 2) (hv:VB x) (h:∀j (hj:j<l.length),j<i→∃x:GV,l[j]=x.av∧x.k=5+(j:Int) % 2∧VB x):
    ∀j (hj:j<l.length),j<i+1→∃x:GV,l[j]=x.av∧x.k=5+(j:Int) % 2∧VB x:=by
  intro j hj hji
  rcases Nat.lt_or_ge j i with h1|h1
  · exact h j hj h1
  · obtain rfl:j=i:=by omega
    exact⟨x,e,hk,hv⟩
set_option maxHeartbeats 1000000 in
theorem AQR {l:List AV} {nn:Bool} (hl:l.length<2^63) (h:∀x∈l,Like Tryz.prog 48 x):D8 (Dx tab) 288 [.sl nn l] (· =.bool (decide (VPa l))):=by
  have htm:(l.length:Int).tmod 2=(l.length:Int) % 2:=Int.tmod_eq_emod_of_nonneg (by omega)
  by_cases hlen:l.length % 2=1∧l.length≤25
  · obtain⟨hl1,hl2⟩:=hlen
    refine Lu rfl rfl ?_
    (conv=>whnf);repeat' (first  |((with_reducible first|apply kN|apply kW|apply kX|apply kG|apply kQ);(· exact sd);conv=>whnf)|(refine DW.mk ?_ ?_<;>intro hc<;>(try rw[List.length_nil]at hc)<;>first|(exfalso;omega)|(exact absurd rfl hc)|conv=>whnf)|(refine CB ?_ ?_<;>intro hc<;>conv=>whnf))
    refine DK (fun m env s=>∃i c:Nat,m=l.length-i∧i≤l.length∧(∀ j (hj:j<l.length),j<i→∃x:GV,l[j]=x.av∧x.k=5+(j:Int) % 2∧VB x)∧env=[(15,.sl nn l),(16,.int .i64 l.length),(17,.int .i64 i)]∧s=⟨[],c⟩) ?_ _ _ _ ⟨0,_,rfl,by omega,fun j _ hj=>absurd hj (by omega),rfl,rfl⟩
    rintro _ _ _ ⟨i,c,rfl,hi,hx,rfl,rfl⟩
    refine⟨rfl,?_⟩
    by_cases hlt:i<l.length
    · obtain⟨gx,hgx⟩:=Amk h i
      obtain⟨hn,he,hok⟩:=hgx hlt
      have hno:¬(gx.k=5+(i:Int) % 2∧VB gx)→¬VPa l:=fun hh hv=>by
        obtain⟨x,e,hx2⟩:=hv.2.2 i hlt
        rw[he]at e
        rw[GV.AmG e]at hh
        exact hh hx2
      have h2:(i:Int).tmod 2=(i:Int) % 2:=Int.tmod_eq_emod_of_nonneg (by omega)
      have AVy:nth [AV.int .i64 5,AV.int .i64 6] (Int.toNat ((i:Int).tmod 2))=some (.int .i64 (5+(i:Int) % 2)):=by
        rw[h2]
        rcases Nat.mod_two_eq_zero_or_one i with hm|hm
        · rw[show (i:Int) % 2=0 by omega];rfl
        · rw[show (i:Int) % 2=1 by omega];rfl
      (conv=>whnf);repeat' (first|(apply LX;(· first|exact hn|exact AVy);conv=>whnf)|(refine KH (vbP (g:=gx) hok (by omega) (by omega) (n:=0)) (fun hr=>?_) (fun hr=>?_)<;>conv=>whnf)|((with_reducible first|apply kN|apply kW|apply kX|apply kG|apply kQ);(· exact sd);conv=>whnf)|(refine DW.mk ?_ ?_<;>intro hc<;>(try rw[List.length_nil]at hc)<;>first|(exfalso;omega)|(exact absurd rfl hc)|conv=>whnf)|(refine CB ?_ ?_<;>intro hc<;>conv=>whnf))
      all_goals first
        |exact again.mk ⟨_,by omega,i+1,_,rfl,by omega,AwN hlt he (by omega) hr hx,rfl,rfl⟩
        |exact Hf (hno fun hh=>by have:=hh.1;omega)
        |exact Hf (hno fun hh=>hr hh.2)
        |trace_state
    · rw[show i=l.length by omega]at hx
      (conv=>whnf);repeat' (first  |((with_reducible first|apply kN|apply kW|apply kX|apply kG|apply kQ);(· exact sd);conv=>whnf)|(refine DW.mk ?_ ?_<;>intro hc<;>(try rw[List.length_nil]at hc)<;>first|(exfalso;omega)|(exact absurd rfl hc)|conv=>whnf)|(refine CB ?_ ?_<;>intro hc<;>conv=>whnf))
      exact Lp ⟨hl1,hl2,fun j hj=>hx j hj hj⟩
  · have hno:¬VPa l:=fun hv=>hlen ⟨hv.1,hv.2.1⟩
    refine Lu rfl rfl ?_
    (conv=>whnf);repeat' (first  |((with_reducible first|apply kN|apply kW|apply kX|apply kG|apply kQ);(· exact sd);conv=>whnf)|(refine DW.mk ?_ ?_<;>intro hc<;>(try rw[List.length_nil]at hc)<;>first|(exfalso;omega)|(exact absurd rfl hc)|conv=>whnf)|(refine CB ?_ ?_<;>intro hc<;>conv=>whnf))
    all_goals first|exact Hf hno|trace_state
theorem v7 {g:GV} (hg:g.ok) (hk:g.k=7) {n:Int}:D8 (Dx tab) 249 [g.av,.int .i64 n] (· =.bool (decide (g.n=0∧g.d=0∧g.s=[]∧VPa g.l))):=by
  obtain⟨g1,g2,g3,g4,g5,g6,g7⟩:=hg
  unfold Ln at g4 g5
  refine Lu rfl rfl ?_
  (conv=>whnf);repeat' (first|(refine KH (AQR (l:=g.l) (nn:=g.nn) g5 g7) (fun hr=>?_) (fun hr=>?_)<;>conv=>whnf)|((with_reducible first|apply kN|apply kW|apply kX|apply kG|apply kQ);(· exact sd);conv=>whnf)|(refine DW.mk ?_ ?_<;>intro hc<;>(try rw[List.length_nil]at hc)<;>first|(exfalso;omega)|(exact absurd rfl hc)|conv=>whnf)|(refine CB ?_ ?_<;>intro hc<;>conv=>whnf))
  all_goals first
    |exact Lp ⟨by omega,by omega,by assumption,hr⟩
    |exact Hf fun h=>hr h.2.2.2
    |exact Hf fun h=>by have:=h.1;omega
    |exact Hf fun h=>by have:=h.2.1;omega
    |exact Hf fun h=>absurd h.2.2.1 (by assumption)
    |trace_state
theorem Ax9 {m:Nat} {l:List AV} {i:Nat} (hi:i<l.length) {x:GV} (e:l[i]=x.av) (hv:VV m x) (h:∀j (hj:j<l.length),j<i→∃x:GV,l[j]=x.av∧VV m x):
    ∀j (hj:j<l.length),j<i+1→∃x:GV,l[j]=x.av∧VV m x:=by
  intro j hj hji
  rcases Nat.lt_or_ge j i with h1|h1
  · exact h j hj h1
  · obtain rfl:j=i:=by omega
    exact⟨x,e,hv⟩
set_option maxHeartbeats 1000000 in
theorem v8 {g:GV} (hg:g.ok) (hk:g.k=8) {z:Int} (hz:0≤z∧z<8) {m:Nat} (ih:∀{x:GV},x.ok→D8 (Dx tab) 249 [x.av,.int .i64 (z+1)] (· =.bool (decide (VV m x)))):
    D8 (Dx tab) 249 [g.av,.int .i64 z] (· =.bool (decide (g.n=0∧g.d=0∧g.s=[]∧g.l.length≤64∧VLi m g.l))):=by
  obtain⟨g1,g2,g3,g4,g5,g6,g7⟩:=hg
  unfold Ln at g4 g5
  refine Lu rfl rfl ?_
  (conv=>whnf);repeat' (first  |((with_reducible first|apply kN|apply kW|apply kX|apply kG|apply kQ);(· exact sd);conv=>whnf)|(refine DW.mk ?_ ?_<;>intro hc<;>(try rw[List.length_nil]at hc)<;>first|(exfalso;omega)|(exact absurd rfl hc)|conv=>whnf)|(refine CB ?_ ?_<;>intro hc<;>conv=>whnf))
  all_goals first
    |exact Hf fun h=>by have:=h.1;omega
    |exact Hf fun h=>by have:=h.2.1;omega
    |exact Hf fun h=>by have:=h.2.2.2.1;omega
    |exact Hf fun h=>absurd h.2.2.1 (by assumption)
    |skip
  have hs:g.s=[]:=by assumption
  have hn0:g.n=0:=by omega
  have hd0:g.d=0:=by omega
  have hl0:g.l.length≤64:=by omega
  refine DK (fun mm env s=>∃i c:Nat,mm=g.l.length-i∧i≤g.l.length∧(∀ j (hj:j<g.l.length),j<i→∃x:GV,g.l[j]=x.av∧VV m x)∧env=[(1,.int .i64 z),(120,.sl g.nn g.l),(121,.int .i64 g.l.length),(122,.int .i64 i)]∧s=⟨[.arr 0 5 true true [g.av]],c⟩) ?_ _ _ _ ⟨0,_,rfl,by omega,fun j _ hj=>absurd hj (by omega),rfl,rfl⟩
  rintro _ _ _ ⟨i,c,rfl,hi,hx,rfl,rfl⟩
  refine⟨rfl,?_⟩
  by_cases hlt:i<g.l.length
  · obtain⟨gx,hgx⟩:=Amk g7 i
    obtain⟨hn,he,hok⟩:=hgx hlt
    (conv=>whnf);repeat' (first|(apply LX;(· exact hn);conv=>whnf)|(refine KH (ih hok) (fun hr=>?_) (fun hr=>?_)<;>conv=>whnf)|((with_reducible first|apply kN|apply kW|apply kX|apply kG|apply kQ);(· exact sd);conv=>whnf)|(refine DW.mk ?_ ?_<;>intro hc<;>(try rw[List.length_nil]at hc)<;>first|(exfalso;omega)|(exact absurd rfl hc)|conv=>whnf)|(refine CB ?_ ?_<;>intro hc<;>conv=>whnf))
    all_goals first
      |exact again.mk ⟨_,by omega,i+1,_,rfl,by omega,Ax9 hlt he hr hx,rfl,rfl⟩
      |exact Hf fun hh=>by
          obtain⟨x,e,hv⟩:=hh.2.2.2.2 i hlt
          rw[he]at e
          rw[GV.AmG e]at hr
          exact hr hv
      |trace_state
  · rw[show i=g.l.length by omega]at hx
    (conv=>whnf);repeat' (first  |((with_reducible first|apply kN|apply kW|apply kX|apply kG|apply kQ);(· exact sd);conv=>whnf)|(refine DW.mk ?_ ?_<;>intro hc<;>(try rw[List.length_nil]at hc)<;>first|(exfalso;omega)|(exact absurd rfl hc)|conv=>whnf)|(refine CB ?_ ?_<;>intro hc<;>conv=>whnf))
    exact Lp ⟨hn0,hd0,hs,hl0,fun j hj=>hx j hj hj⟩
theorem AVz {g:GV} (hg:g.ok) (hk:g.k=8):D8 (Dx tab) 249 [g.av,.int .i64 8] (· =.bool false):=by
  obtain⟨g1,g2,g3,g4,g5,g6,g7⟩:=hg
  unfold Ln at g4 g5
  refine Lu rfl rfl ?_
  (conv=>whnf);repeat' (first  |((with_reducible first|apply kN|apply kW|apply kX|apply kG|apply kQ);(· exact sd);conv=>whnf)|(refine DW.mk ?_ ?_<;>intro hc<;>(try rw[List.length_nil]at hc)<;>first|(exfalso;omega)|(exact absurd rfl hc)|conv=>whnf)|(refine CB ?_ ?_<;>intro hc<;>conv=>whnf))
  all_goals rfl
theorem AK9:∀(m:Nat),m≤8→∀{g:GV},g.ok→D8 (Dx tab) 249 [g.av,.int .i64 (8-(m:Int))] (· =.bool (decide (VV m g))):=by
  intro m
  induction m with
  | zero=>
    intro _ g hg
    by_cases h7:g.k=7
    · rw[show AV.bool (decide (VV 0 g))=_ from Aay (AyL h7)]
      exact v7 hg h7
    by_cases h8:g.k=8
    · rw[decide_eq_false (AG4 h8)]
      exact AVz hg h8
    rw[show AV.bool (decide (VV 0 g))=AV.bool (decide (VB g)) from Aay (Axo h7 h8)]
    exact vbP hg h7 h8
  | succ m ih=>
    intro hm g hg
    by_cases h7:g.k=7
    · rw[show AV.bool (decide (VV (m+1) g))=_ from Aay (AyL h7)]
      exact v7 hg h7
    by_cases h8:g.k=8
    · rw[show AV.bool (decide (VV (m+1) g))=_ from Aay (ABQ h8)]
      exact v8 hg h8 (by omega) fun{x} hx=>by
        rw[show (8-((m+1:Nat):Int))+1=8-(m:Int) by omega]
        exact ih (by omega) hx
    rw[show AV.bool (decide (VV (m+1) g))=AV.bool (decide (VB g)) from Aay (Axo h7 h8)]
    exact vbP hg h7 h8
theorem AVA {g:GV} (hg:g.ok):D8 (Dx tab) 192 [g.av] (· =.bool (decide (VV 8 g))):=by
  have h:=AK9 8 (by omega) hg
  rw[show (8-((8:Nat):Int))=0 by omega]at h
  refine Lu rfl rfl ?_
  (conv=>whnf);repeat' (first|(refine KH h (fun hr=>?_) (fun hr=>?_)<;>conv=>whnf)|((with_reducible first|apply kN|apply kW|apply kX|apply kG|apply kQ);(· exact sd);conv=>whnf)|(refine DW.mk ?_ ?_<;>intro hc<;>(try rw[List.length_nil]at hc)<;>first|(exfalso;omega)|(exact absurd rfl hc)|conv=>whnf)|(refine CB ?_ ?_<;>intro hc<;>conv=>whnf))
  all_goals first|exact Lp hr|exact Hf hr
theorem nan {x:Int}:D8 (Dx tab) 197 [.int .i64 x] (· =.bool (decide False)):=by
  refine Lu rfl rfl ?_
  (conv=>whnf);repeat' (first  |((with_reducible first|apply kN|apply kW|apply kX|apply kG|apply kQ);(· exact sd);conv=>whnf)|(refine DW.mk ?_ ?_<;>intro hc<;>(try rw[List.length_nil]at hc)<;>first|(exfalso;omega)|(exact absurd rfl hc)|conv=>whnf)|(refine CB ?_ ?_<;>intro hc<;>conv=>whnf))
  all_goals first|exact absurd rfl hc|rfl
def Qr (x y:Int):Int:=if x<y then -1 else if y<x then 1 else 0
theorem compare {x y:Int}:D8 (Dx tab) 115 [.int .i64 x,.int .i64 y] (· =.int .i64 (Qr x y)):=by
  refine Lu rfl rfl ?_
  (conv=>whnf);repeat' (first|(refine KH nan (fun hc=>absurd hc id) (fun _=>?_);conv=>whnf)|((with_reducible first|apply kN|apply kW|apply kX|apply kG|apply kQ);(· exact sd);conv=>whnf)|(refine DW.mk ?_ ?_<;>intro hc<;>(try rw[List.length_nil]at hc)<;>first|(exfalso;omega)|(exact absurd rfl hc)|conv=>whnf)|(refine CB ?_ ?_<;>intro hc<;>conv=>whnf))
  all_goals unfold Qr;first|(rw [if_pos (by omega)];rfl)|(rw [if_neg (by omega),if_pos (by omega)];rfl)|(rw [if_neg (by omega),if_neg (by omega)];rfl)
theorem AwJ {x y:Int}:Qr x y<0↔x<y:=by unfold Qr;split<;>(try split)<;>omega
theorem Ym {x y:Int}:Qr x y=0↔x=y:=by unfold Qr;split<;>(try split)<;>omega
def gv0:GV:=⟨0,0,0,[],false,[]⟩
theorem ANo:gv0.ok:=⟨by unfold I64 gv0;dsimp only;omega,by unfold I64 gv0;dsimp only;omega,by unfold I64 gv0;dsimp only;omega,by simp[Ln,gv0],by simp[Ln,gv0],fun _=>rfl,by simp[gv0]⟩
def isNull (v:GV):Prop:=v.k=0∧v.n=0∧v.d=0∧v.s=[]∧v.l.length=0
instance (v:GV):Decidable (isNull v):=by unfold isNull;infer_instance
theorem ARH:isNull gv0:=⟨rfl,rfl,rfl,rfl,rfl⟩
theorem vv_null {v:GV} (hk:v.k=0):VV 8 v↔isNull v:=by
  rw[Axo (by omega) (by omega)]
  unfold VB isNull
  constructor
  · rintro⟨h1,h⟩
    rcases h with h|h|h|h|h|h<;>first|exact⟨hk,h.2.1,h.2.2.1,h.2.2.2,h1⟩|(exfalso;omega)
  · rintro⟨_,h1,h2,h3,h4⟩
    exact⟨h4,.inl ⟨hk,h1,h2,h3⟩⟩
def YH (k:Int):Int:=if k=3 then 2 else if k=7 then 9 else k
theorem AzM {v:GV}:D8 (Dx tab) 251 [v.av] (· =.int .i64 (YH v.k)):=by
  refine Lu rfl rfl ?_
  (conv=>whnf);repeat' (first  |((with_reducible first|apply kN|apply kW|apply kX|apply kG|apply kQ);(· exact sd);conv=>whnf)|(refine DW.mk ?_ ?_<;>intro hc<;>(try rw[List.length_nil]at hc)<;>first|(exfalso;omega)|(exact absurd rfl hc)|conv=>whnf)|(refine CB ?_ ?_<;>intro hc<;>conv=>whnf))
  all_goals first | (unfold YH; rw [if_pos (by assumption)]; rfl) | (unfold YH; rw [if_neg (by assumption), if_pos (by assumption)]; rfl) | (unfold YH; rw [if_neg (by assumption), if_neg (by assumption)]; rfl) | (trace_state; fail "classP")
theorem clsP0 {k:Int}:YH k=0↔k=0:=by unfold YH;split<;>(try split)<;>omega
theorem AWG {x:List UInt8}:D8 (Dx tab) 194 [.str x] (· =.bool false):=by
  refine Lu rfl rfl ?_
  (conv=>whnf);repeat' (first  |((with_reducible first|apply kN|apply kW|apply kX|apply kG|apply kQ);(· exact sd);conv=>whnf)|(refine DW.mk ?_ ?_<;>intro hc<;>(try rw[List.length_nil]at hc)<;>first|(exfalso;omega)|(exact absurd rfl hc)|conv=>whnf)|(refine CB ?_ ?_<;>intro hc<;>conv=>whnf))
  all_goals first | rfl | (exfalso; simp_all) | (trace_state; fail "nanSC")
theorem cmpS0:D8 (Dx tab) 113 [.str [],.str []] (· =.int .i64 0):=⟨_,⟨20,by kernel_rfl⟩,rfl⟩
theorem or3 {nn:Bool}:D8 (Dx tab) 112 [.sl nn [.int .i64 0,.int .i64 0,.int .i64 0]] (· =.int .i64 0):=by
  cases nn
  · exact⟨_,⟨20,by kernel_rfl⟩,rfl⟩
  · exact⟨_,⟨20,by kernel_rfl⟩,rfl⟩
theorem AWH {nn:Bool} {f:Nat}:D8 (Dx tab) 196 [.sl nn [],.sl false [],.fn f []] (· =.int .i64 0):=by
  refine Lu rfl rfl ?_
  (conv=>whnf);repeat' (first  |((with_reducible first|apply kN|apply kW|apply kX|apply kG|apply kQ);(· exact sd);conv=>whnf)|(refine DW.mk ?_ ?_<;>intro hc<;>(try rw[List.length_nil]at hc)<;>first|(exfalso;omega)|(exact absurd rfl hc)|conv=>whnf)|(refine CB ?_ ?_<;>intro hc<;>conv=>whnf))
  refine DK (fun m env s=>m=0∧env=[(0,.sl nn []),(1,.sl false []),(2,.fn f []),(11,.sl nn []),(12,.int .i64 0),(13,.int .i64 0)]∧s=⟨[],0⟩) ?_ _ _ _ ⟨rfl,rfl,rfl⟩
  rintro _ _ _ ⟨rfl,rfl,rfl⟩
  refine⟨rfl,?_⟩
  (conv=>whnf);repeat' (first  |((with_reducible first|apply kN|apply kW|apply kX|apply kG|apply kQ);(· exact sd);conv=>whnf)|(refine DW.mk ?_ ?_<;>intro hc<;>(try rw[List.length_nil]at hc)<;>first|(exfalso;omega)|(exact absurd rfl hc)|conv=>whnf)|(refine CB ?_ ?_<;>intro hc<;>conv=>whnf))
  all_goals first | rfl | (exfalso; simp_all) | (trace_state; fail "cmpF0")
theorem AVc {v:GV} (h:isNull v):D8 (Dx tab) 195 [v.av,gv0.av] (· =.int .i64 0):=by
  obtain⟨k,n,d,s,nn,l⟩:=v
  obtain⟨h1,h2,h3,h4,h5⟩:=h
  dsimp only at h1 h2 h3 h4 h5
  subst h1 h2 h3 h4
  obtain rfl:l=[]:=List.eq_nil_of_length_eq_zero h5
  have hc1:D8 (Dx tab) 251 [GV.av ⟨0,0,0,[],nn,[]⟩] (· =.int .i64 0):=AzM (v:=⟨0,0,0,[],nn,[]⟩)
  have hc2:D8 (Dx tab) 251 [gv0.av] (· =.int .i64 0):=AzM (v:=gv0)
  have hc3:D8 (Dx tab) 115 [.int .i64 0,.int .i64 0] (· =.int .i64 0):=compare
  refine Lu rfl rfl ?_
  (conv=>whnf);repeat' (first|(refine BM hc1 ?_;rintro _ rfl;conv=>whnf)|(refine BM hc2 ?_;rintro _ rfl;conv=>whnf)|(refine BM hc3 ?_;rintro _ rfl;conv=>whnf)|(refine BM cmpS0 ?_;rintro _ rfl;conv=>whnf)|(refine BM AWH ?_;rintro _ rfl;conv=>whnf)|(refine BM or3 ?_;rintro _ rfl;conv=>whnf)|((with_reducible first|apply kN|apply kW|apply kX|apply kG|apply kQ);(· exact sd);conv=>whnf)|(refine DW.mk ?_ ?_<;>intro hc<;>(try rw[List.length_nil]at hc)<;>first|(exfalso;omega)|(exact absurd rfl hc)|conv=>whnf)|(refine CB ?_ ?_<;>intro hc<;>conv=>whnf))
  all_goals first | rfl | (exfalso; simp_all) | (trace_state; fail "orderZ")
theorem ATJ {v:GV} (h:v.k≠0):D8 (Dx tab) 195 [v.av,gv0.av] (fun w=>∃z,w=.int .i64 z∧z≠0):=by
  have hc2:D8 (Dx tab) 251 [gv0.av] (· =.int .i64 0):=AzM (v:=gv0)
  obtain⟨z,hz,hz0⟩:∃z,Qr (YH v.k) 0=z∧z≠0:=⟨_,rfl,fun h0=>h (clsP0.1 (Ym.1 h0))⟩
  have hc3:D8 (Dx tab) 115 [.int .i64 (YH v.k),.int .i64 0] (· =.int .i64 z):=hz▸compare
  refine Lu rfl rfl ?_
  (conv=>whnf);repeat' (first|(refine BM (AzM (v:=v)) ?_;rintro _ rfl;conv=>whnf)|(refine BM hc2 ?_;rintro _ rfl;conv=>whnf)|(refine BM hc3 ?_;rintro _ rfl;conv=>whnf)|((with_reducible first|apply kN|apply kW|apply kX|apply kG|apply kQ);(· exact sd);conv=>whnf)|(refine DW.mk ?_ ?_<;>intro hc<;>(try rw[List.length_nil]at hc)<;>first|(exfalso;omega)|(exact absurd rfl hc)|conv=>whnf)|(refine CB ?_ ?_<;>intro hc<;>conv=>whnf))
  all_goals first | exact ⟨_, rfl, hz0⟩ | (exfalso; omega) | (trace_state; fail "orderNZ")
theorem AEc {v:GV} (hv:v.ok):D8 (Dx tab) 114 [v.av,gv0.av] (fun w=>∃z,w=.int .i64 z∧(z=0↔isNull v)):=by
  have hq:D8 (Dx tab) 192 [gv0.av] (· =.bool true):=by
    have:=AVA ANo;rwa [decide_eq_true ((vv_null rfl).2 ARH)]at this
  have hp:=AVA hv
  by_cases hVV:VV 8 v
  · rw[decide_eq_true hVV]at hp
    by_cases hk:v.k=0
    · have hn:=(vv_null hk).1 hVV
      refine Lu rfl rfl ?_
      (conv=>whnf);repeat' (first|(refine BM hp ?_;rintro _ rfl;conv=>whnf)|(refine BM hq ?_;rintro _ rfl;conv=>whnf)|(refine BM (AVc hn) ?_;rintro _ rfl;conv=>whnf)|((with_reducible first|apply kN|apply kW|apply kX|apply kG|apply kQ);(· exact sd);conv=>whnf)|(refine DW.mk ?_ ?_<;>intro hc<;>(try rw[List.length_nil]at hc)<;>first|(exfalso;omega)|(exact absurd rfl hc)|conv=>whnf)|(refine CB ?_ ?_<;>intro hc<;>conv=>whnf))
      all_goals first | exact ⟨_, rfl, fun _ => hn, fun _ => rfl⟩ | (trace_state; fail "orderPN1")
    · refine Lu rfl rfl ?_
      (conv=>whnf);repeat' (first|(refine BM hp ?_;rintro _ rfl;conv=>whnf)|(refine BM hq ?_;rintro _ rfl;conv=>whnf)|(refine BM (ATJ hk) ?_;rintro _ ⟨z,rfl,hz⟩;conv=>whnf)|((with_reducible first|apply kN|apply kW|apply kX|apply kG|apply kQ);(· exact sd);conv=>whnf)|(refine DW.mk ?_ ?_<;>intro hc<;>(try rw[List.length_nil]at hc)<;>first|(exfalso;omega)|(exact absurd rfl hc)|conv=>whnf)|(refine CB ?_ ?_<;>intro hc<;>conv=>whnf))
      all_goals first | exact ⟨_, rfl, fun h => absurd h hz, fun h => absurd h.1 hk⟩ | (trace_state; fail "orderPN2")
  · rw[decide_eq_false hVV]at hp
    have hn:¬isNull v:=fun h=>hVV ((vv_null h.1).2 h)
    refine Lu rfl rfl ?_
    (conv=>whnf);repeat' (first|(refine BM hp ?_;rintro _ rfl;conv=>whnf)|(refine BM hq ?_;rintro _ rfl;conv=>whnf)|((with_reducible first|apply kN|apply kW|apply kX|apply kG|apply kQ);(· exact sd);conv=>whnf)|(refine DW.mk ?_ ?_<;>intro hc<;>(try rw[List.length_nil]at hc)<;>first|(exfalso;omega)|(exact absurd rfl hc)|conv=>whnf)|(refine CB ?_ ?_<;>intro hc<;>conv=>whnf))
    all_goals first | exact ⟨_, rfl, fun h => absurd h (by decide), fun h => absurd h hn⟩ | (trace_state; fail "orderPN3")
theorem nullVP:D8 (Dx tab) 190 [] (· =gv0.av):=by
  refine Lu rfl rfl ?_
  (conv=>whnf);repeat' (first  |((with_reducible first|apply kN|apply kW|apply kX|apply kG|apply kQ);(· exact sd);conv=>whnf)|(refine DW.mk ?_ ?_<;>intro hc<;>(try rw[List.length_nil]at hc)<;>first|(exfalso;omega)|(exact absurd rfl hc)|conv=>whnf)|(refine CB ?_ ?_<;>intro hc<;>conv=>whnf))
  rfl
end AI
end Go.Proofs.YtnbibfalljlmfaaGreatDoor
