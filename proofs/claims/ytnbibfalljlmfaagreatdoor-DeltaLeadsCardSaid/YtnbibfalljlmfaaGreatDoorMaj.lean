/- Fractions compared: the program's way and the reference's. Valid values, exactly: the program's. The reference's bare values and strings. Valid values, exactly: the reference's. Numbers among values. -/
import Derived.Test.YtnbibfalljlmfaaGreatDoorMah
import Derived.Test.YtnbibfalljlmfaaGreatDoorMai
import Derived.Test.YtnbibfalljlmfaaGreatDoorMaf
import Derived.Test.YtnbibfalljlmfaaGreatDoorMag
import Derived.Test.YtnbibfalljlmfaaGreatDoorMaa
set_option linter.unusedVariables false
set_option maxRecDepth 4000
namespace Go.Proofs.YtnbibfalljlmfaaGreatDoor
namespace AI
theorem AgD (n d:Int) (hd:1≤d):(n<0∧sgn n=-1∧0<(n.natAbs:Int)*d∧n*d=-((n.natAbs:Int)*d))∨(n=0∧sgn n=0∧(n.natAbs:Int)*d=0∧n*d=0)∨(0<n∧sgn n=1∧0<(n.natAbs:Int)*d∧n*d=(n.natAbs:Int)*d):=by
  rcases Int.lt_trichotomy n 0 with h|h|h
  · refine .inl ⟨h,Ayx h,Int.mul_pos (by omega) (by omega),?_⟩
    rw[← Int.neg_mul,show -(n.natAbs:Int)=n by omega]
  · subst h
    exact .inr (.inl ⟨rfl,rfl,by simp,by simp⟩)
  · refine .inr (.inr ⟨h,Ayy h,Int.mul_pos (by omega) (by omega),?_⟩)
    rw[show (n.natAbs:Int)=n by omega]
theorem ACd {n1 d1 n2 d2:Int} (h1:1≤d1) (h2:1≤d2):Aig (sgn n1) ((n1.natAbs:Int)*d2) (0-sgn n2) ((n2.natAbs:Int)*d1)=sgn (n1*d2-n2*d1):=by
  rcases AgD n1 d2 h2 with⟨a1,a2,a3,a4⟩|⟨a1,a2,a3,a4⟩|⟨a1,a2,a3,a4⟩<;>rcases AgD n2 d1 h1 with⟨b1,b2,b3,b4⟩|⟨b1,b2,b3,b4⟩|⟨b1,b2,b3,b4⟩<;>rw[a2,b2,a4,b4]<;>generalize (n1.natAbs:Int)*d2=p at* <;>generalize (n2.natAbs:Int)*d1=q at* <;>unfold Aig sgn<;>repeat' split
  all_goals omega
theorem AAK {n:Int} (h:inR n):D8 (Dx tab) 235 [.int .i64 n] (· =.int .i64 (n.natAbs:Int)):=by
  unfold inR at h
  obtain⟨v,⟨z,rfl,z0,z1⟩,hz⟩:=(size (n:=n) (by omega) (by omega)).det
  rwa [show z=(n.natAbs:Int) by omega]at hz
theorem AG7 {n1 d1 n2 d2:Int} (hf:VF n1 d1) (hg:VF n2 d2):D8 (Dx tab) 170 [.agg [.int .i64 n1,.int .i64 d1],.agg [.int .i64 n2,.int .i64 d2]] (· =.int .i64 (sgn (n1*d2-n2*d1))):=by
  have q1:=Afz hf.2.2.1
  have q2:=Afz hg.2.2.1
  obtain⟨f1,f2,f3,-⟩:=id hf
  obtain⟨g1,g2,g3,-⟩:=id hg
  have v1:D8 (Dx tab) 231 [.agg [.int .i64 n1,.int .i64 d1]] (· =.bool true):=by have:=fvR (n:=n1) (d:=d1);rwa [decide_eq_true hf]at this
  have v2:D8 (Dx tab) 231 [.agg [.int .i64 n2,.int .i64 d2]] (· =.bool true):=by have:=fvR (n:=n2) (d:=d2);rwa [decide_eq_true hg]at this
  obtain⟨_,⟨l1,rfl,x1,x2⟩,t1⟩:=(AAL (a:=(n1.natAbs:Int)) (b:=d2) (by omega) (by omega)).det
  obtain⟨_,⟨l2,rfl,y1,y2⟩,t2⟩:=(AAL (a:=(n2.natAbs:Int)) (b:=d1) (by omega) (by omega)).det
  have s1:=Aqc n1
  have s2:=Aqc n2
  have hs:=AV2 (an:=sgn n1) (bn:=0-sgn n2) x1 y1
  rw[x2,y2,ACd f1 g1]at hs
  refine Lu rfl rfl ?_
  (conv=>whnf);repeat' (first|(refine BM v1 ?_;rintro _ rfl;conv=>whnf)|(refine BM v2 ?_;rintro _ rfl;conv=>whnf)|(refine BM (sign (n:=n1)) ?_;rintro _ rfl;conv=>whnf)|(refine BM (sign (n:=n2)) ?_;rintro _ rfl;conv=>whnf)|(refine BM (AAK f3) ?_;rintro _ rfl;conv=>whnf)|(refine BM (AAK g3) ?_;rintro _ rfl;conv=>whnf)|(refine BM t1 ?_;rintro _ rfl;conv=>whnf)|(refine BM t2 ?_;rintro _ rfl;conv=>whnf)|(refine BM hs ?_;rintro _ ⟨n3,l3,rfl⟩;conv=>whnf)|((with_reducible first|apply kN|apply kW|apply kX|apply kG|apply kQ);(· exact sd);conv=>whnf)|(refine DW.mk ?_ ?_<;>intro hc<;>(try rw[List.length_nil]at hc)<;>first|(exfalso;omega)|(exact absurd rfl hc)|conv=>whnf)|(refine CB ?_ ?_<;>intro hc<;>conv=>whnf))
  all_goals first | rfl | (trace_state; fail "cmpR3")
theorem AAM {n1 d1 n2 d2:Int} (h1:1≤d1) (h2:1≤d2):∃a m,Aw5 (decide (n1<0) != decide (d2<0)) (n1.natAbs*d2.natAbs) (decide (0-n2<0) != decide (d1<0)) ((0-n2).natAbs*d1.natAbs)=wd a m∧m≤n1.natAbs*d2.natAbs+n2.natAbs*d1.natAbs∧sgW a m=sgn (n1*d2-n2*d1):=by
  have e1:((n1.natAbs:Int)*d2)=((n1.natAbs*d2.natAbs:Nat):Int):=by rw[Int.natCast_mul,show(d2.natAbs:Int)=d2 by omega]
  have e2:((n2.natAbs:Int)*d1)=((n2.natAbs*d1.natAbs:Nat):Int):=by rw[Int.natCast_mul,show(d1.natAbs:Int)=d1 by omega]
  have k1:decide (d2<0)=false:=decide_eq_false (by omega)
  have k2:decide (d1<0)=false:=decide_eq_false (by omega)
  rw[show (0-n2).natAbs=n2.natAbs by omega,k1,k2,Bool.bne_false,Bool.bne_false]
  have h:=AgD n1 d2 h2
  have h':=AgD n2 d1 h1
  rw[e1]at h
  rw[e2]at h'
  generalize n1.natAbs*d2.natAbs=p at*
  generalize n2.natAbs*d1.natAbs=q at*
  unfold Aw5
  split
  · rename_i hh
    refine⟨_,_,rfl,Nat.le_refl _,?_⟩
    rw[decide_eq_decide]at hh
    unfold sgW sgn
    simp only[decide_eq_true_eq]
    rcases h with⟨a1,a2,a3,a4⟩|⟨a1,a2,a3,a4⟩|⟨a1,a2,a3,a4⟩<;>rcases h' with⟨b1,b2,b3,b4⟩|⟨b1,b2,b3,b4⟩|⟨b1,b2,b3,b4⟩<;>rw[a4,b4]<;>repeat' split
    all_goals omega
  · rename_i hh
    rw[decide_eq_decide]at hh
    split
    · refine⟨_,_,rfl,by omega,?_⟩
      unfold sgW sgn
      simp only[decide_eq_true_eq]
      rcases h with⟨a1,a2,a3,a4⟩|⟨a1,a2,a3,a4⟩|⟨a1,a2,a3,a4⟩<;>rcases h' with⟨b1,b2,b3,b4⟩|⟨b1,b2,b3,b4⟩|⟨b1,b2,b3,b4⟩<;>rw[a4,b4]<;>repeat' split
      all_goals omega
    · refine⟨_,_,rfl,by omega,?_⟩
      unfold sgW sgn
      simp only[decide_eq_true_eq]
      rcases h with⟨a1,a2,a3,a4⟩|⟨a1,a2,a3,a4⟩|⟨a1,a2,a3,a4⟩<;>rcases h' with⟨b1,b2,b3,b4⟩|⟨b1,b2,b3,b4⟩|⟨b1,b2,b3,b4⟩<;>rw[a4,b4]<;>repeat' split
      all_goals omega
theorem Ayz {n d:Int} (h:VF n d):inR d:=by have:=h.1;have:=h.2.1;unfold inR;omega
theorem ACe {n:Int} (h:inR n):inR (0-n):=by unfold inR at *;omega
theorem ARq {n1 d1 n2 d2:Int} (hf:VF n1 d1) (hg:VF n2 d2):D8 (Dx tab) 248 [.agg [.int .i64 n1,.int .i64 d1],.agg [.int .i64 n2,.int .i64 d2]] (· =.int .i64 (sgn (n1*d2-n2*d1))):=by
  have v1:D8 (Dx tab) 281 [.agg [.int .i64 n1,.int .i64 d1]] (· =.bool true):=by have:=fvP (n:=n1) (d:=d1);rwa [decide_eq_true hf]at this
  have v2:D8 (Dx tab) 281 [.agg [.int .i64 n2,.int .i64 d2]] (· =.bool true):=by have:=fvP (n:=n2) (d:=d2);rwa [decide_eq_true hg]at this
  have q1:=Afz hf.2.2.1
  have q2:=Afz hg.2.2.1
  have q3:=Afz (Ayz hf)
  have q4:=Afz (Ayz hg)
  have r2:-1000000000000000≤n2∧n2≤1000000000000000:=hg.2.2.1
  have m1:=Nat.mul_le_mul q1 q4
  have m2:=Nat.mul_le_mul q2 q3
  have p1:=Aqf hf.2.2.1 (Ayz hg)
  have p2:=Aqf (ACe hg.2.2.1) (Ayz hf)
  obtain⟨a,m,e1,e2,e3⟩:=AAM (n1:=n1) (n2:=n2) hf.1 hg.1
  have p3:=ARr (a:=decide (n1<0) != decide (d2<0)) (m:=n1.natAbs*d2.natAbs) (b:=decide (0-n2<0) != decide (d1<0)) (n:=(0-n2).natAbs*d1.natAbs) (by omega) (by rw[show (0-n2).natAbs=n2.natAbs by omega];omega)
  rw[e1]at p3
  have p4:=AHk (a:=a) (m:=m) (by omega)
  rw[e3]at p4
  refine Lu rfl rfl ?_
  (conv=>whnf);repeat' (first|(refine BM v1 ?_;rintro _ rfl;conv=>whnf)|(refine BM v2 ?_;rintro _ rfl;conv=>whnf)|(refine BM p1 ?_;rintro _ rfl;conv=>whnf)|(refine BM p2 ?_;rintro _ rfl;conv=>whnf)|(refine BM p3 ?_;rintro _ rfl;conv=>whnf)|(refine BM p4 ?_;rintro _ rfl;conv=>whnf)|((with_reducible first|apply kN|apply kW|apply kX|apply kG|apply kQ);(· exact sd);conv=>whnf)|(refine DW.mk ?_ ?_<;>intro hc<;>(try rw[List.length_nil]at hc)<;>first|(exfalso;omega)|(exact absurd rfl hc)|conv=>whnf)|(refine CB ?_ ?_<;>intro hc<;>conv=>whnf))
  all_goals first | rfl | (trace_state; fail "cmpP")
theorem ARs {n1 d1 n2 d2:Int} (hf:VF n1 d1) (hg:VF n2 d2):sgn (n1*d2-n2*d1)=0↔n1=n2∧d1=d2:=by
  constructor
  · intro h
    have h:n1*d2=n2*d1:=by unfold sgn at h;split at h<;>(try split at h)<;>omega
    obtain⟨f1,f2,f3,f4⟩:=hf
    obtain⟨g1,g2,g3,g4⟩:=hg
    have e:n1.natAbs*d2.natAbs=n2.natAbs*d1.natAbs:=by rw[← Int.natAbs_mul,←Int.natAbs_mul,h]
    obtain⟨e1,e2⟩:=AB9 (by omega) (by omega) f4 g4 e
    have hd:d1=d2:=by omega
    subst hd
    exact⟨Int.eq_of_mul_eq_mul_right (by omega) h,rfl⟩
  · rintro⟨rfl,rfl⟩
    rw[Int.sub_self];rfl
theorem AK8 {g:GV} (h:VB g):g.k≤6:=by
  obtain⟨_,h⟩:=h
  rcases h with⟨h,_⟩|⟨h,_⟩|⟨h,_⟩|⟨h,_⟩|⟨h,_⟩|⟨h,_⟩<;>omega
theorem Axo {m:Nat} {g:GV} (h7:g.k≠7) (h8:g.k≠8):VV m g↔VB g:=by
  cases m with
  |zero=>exact⟨fun h=>h.elim id fun h=>absurd h.1 h7,.inl⟩
  |succ m=>exact⟨fun h=>h.elim id fun h=>h.elim (fun h=>absurd h.1 h7) fun h=>absurd h.1 h8,.inl⟩
theorem AyL {m:Nat} {g:GV} (hk:g.k=7):VV m g↔g.n=0∧g.d=0∧g.s=[]∧VPa g.l:=by
  have hb:¬VB g:=fun h=>by have:=AK8 h;omega
  cases m with
  |zero=>exact⟨fun h=>h.elim (fun h=>absurd h hb) fun h=>h.2,fun h=>.inr ⟨hk,h⟩⟩
  |succ m=>exact⟨fun h=>h.elim (fun h=>absurd h hb) fun h=>h.elim (fun h=>h.2) fun h=>absurd h.1 (by omega),fun h=>.inr (.inl ⟨hk,h⟩)⟩
def VLi (m:Nat) (l:List AV):Prop:=∀i (h:i<l.length),∃x:GV,l[i]=x.av∧VV m x
theorem ABQ {m:Nat} {g:GV} (hk:g.k=8):VV (m+1) g↔g.n=0∧g.d=0∧g.s=[]∧g.l.length≤64∧VLi m g.l:=by
  have hb:¬VB g:=fun h=>by have:=AK8 h;omega
  exact⟨fun h=>h.elim (fun h=>absurd h hb) fun h=>h.elim (fun h=>absurd h.1 (by omega)) fun h=>h.2,fun h=>.inr (.inr ⟨hk,h⟩)⟩
theorem AG4 {g:GV} (hk:g.k=8):¬VV 0 g:=fun h=>h.elim (fun h=>by have:=AK8 h;omega) fun h=>by have:=h.1;omega
noncomputable instance (m:Nat) (g:GV):Decidable (VV m g):=Classical.propDecidable _
noncomputable instance (l:List AV):Decidable (VPa l):=Classical.propDecidable _
noncomputable instance (m:Nat) (l:List AV):Decidable (VLi m l):=Classical.propDecidable _
theorem Aay {p q:Prop} [Decidable p] [Decidable q] (h:p↔q):AV.bool (decide p)=AV.bool (decide q):=by
  by_cases hp:p
  · rw[decide_eq_true hp,decide_eq_true (h.1 hp)]
  · rw[decide_eq_false hp,decide_eq_false (mt h.2 hp)]
set_option maxHeartbeats 1000000 in
theorem vbP {g:GV} (hg:g.ok) (h7:g.k≠7) (h8:g.k≠8) {n:Int}:D8 (Dx tab) 249 [g.av,.int .i64 n] (· =.bool (decide (VB g))):=by
  obtain⟨g1,g2,g3,g4,g5,g6,g7⟩:=hg
  unfold Ln at g4 g5
  refine Lu rfl rfl ?_
  (conv=>whnf);repeat' (first|(refine KH (inP (n:=g.n)) (fun hr=>?_) (fun hr=>?_)<;>conv=>whnf)|(refine KH (fvP (n:=g.n) (d:=g.d)) (fun hr=>?_) (fun hr=>?_)<;>conv=>whnf)|(refine BM (ixP (l:=g.s)) ?_;rintro _ rfl;conv=>whnf)|((with_reducible first|apply kN|apply kW|apply kX|apply kG|apply kQ);(· exact sd);conv=>whnf)|(refine DW.mk ?_ ?_<;>intro hc<;>(try rw[List.length_nil]at hc)<;>first|(exfalso;omega)|(exact absurd rfl hc)|conv=>whnf)|(refine CB ?_ ?_<;>intro hc<;>conv=>whnf))
  all_goals clear g7 g6
  all_goals first
    |exact Hf fun h=>by have:=h.1;omega
    |(refine Lp ?_;unfold VB okS;rw[← AuI];first|(simp_all;done)|(simp_all;omega))
    |(refine Hf ?_;unfold VB okS;rw[← AuI];first|(simp_all;done)|(simp_all;omega))
    |trace_state
theorem AwN {l:List AV} {i:Nat} (hi:i<l.length) {x:GV} (e:l[i]=x.av) (hk:x.k=5+(i:Int) % 2) (hv:VB x) (h:∀j (hj:j<l.length),j<i→∃x:GV,l[j]=x.av∧x.k=5+(j:Int) % 2∧VB x):
    ∀j (hj:j<l.length),j<i+1→∃x:GV,l[j]=x.av∧x.k=5+(j:Int) % 2∧VB x:=by
  intro j hj hji
  rcases Nat.lt_or_ge j i with h1|h1
  · exact h j hj h1
  · obtain rfl:j=i:=by omega
    exact⟨x,e,hk,hv⟩
set_option maxHeartbeats 1000000 in
theorem AQR {l:List AV} {nn:Bool} (hl:l.length<2^63) (h:∀x∈l,Like Tryz.prog 48 x):D8 (Dx tab) 288 [.sl nn l] (· =.bool (decide (VPa l))):=by
  have htm:(l.length:Int).tmod 2=(l.length:Int) % 2:=Int.tmod_eq_emod_of_nonneg (by omega)
  by_cases hlen:l.length % 2=1∧l.length≤25
  · obtain⟨hl1,hl2⟩:=hlen
    refine Lu rfl rfl ?_
    (conv=>whnf);repeat' (first  |((with_reducible first|apply kN|apply kW|apply kX|apply kG|apply kQ);(· exact sd);conv=>whnf)|(refine DW.mk ?_ ?_<;>intro hc<;>(try rw[List.length_nil]at hc)<;>first|(exfalso;omega)|(exact absurd rfl hc)|conv=>whnf)|(refine CB ?_ ?_<;>intro hc<;>conv=>whnf))
    refine DK (fun m env s=>∃i c:Nat,m=l.length-i∧i≤l.length∧(∀ j (hj:j<l.length),j<i→∃x:GV,l[j]=x.av∧x.k=5+(j:Int) % 2∧VB x)∧env=[(15,.sl nn l),(16,.int .i64 l.length),(17,.int .i64 i)]∧s=⟨[],c⟩) ?_ _ _ _ ⟨0,_,rfl,by omega,fun j _ hj=>absurd hj (by omega),rfl,rfl⟩
    rintro _ _ _ ⟨i,c,rfl,hi,hx,rfl,rfl⟩
    refine⟨rfl,?_⟩
    by_cases hlt:i<l.length
    · obtain⟨gx,hgx⟩:=Amk h i
      obtain⟨hn,he,hok⟩:=hgx hlt
      have hno:¬(gx.k=5+(i:Int) % 2∧VB gx)→¬VPa l:=fun hh hv=>by
        obtain⟨x,e,hx2⟩:=hv.2.2 i hlt
        rw[he]at e
        rw[GV.AmG e]at hh
        exact hh hx2
      have h2:(i:Int).tmod 2=(i:Int) % 2:=Int.tmod_eq_emod_of_nonneg (by omega)
      have AVy:nth [AV.int .i64 5,AV.int .i64 6] (Int.toNat ((i:Int).tmod 2))=some (.int .i64 (5+(i:Int) % 2)):=by
        rw[h2]
        rcases Nat.mod_two_eq_zero_or_one i with hm|hm
        · rw[show (i:Int) % 2=0 by omega];rfl
        · rw[show (i:Int) % 2=1 by omega];rfl
      (conv=>whnf);repeat' (first|(apply LX;(· first|exact hn|exact AVy);conv=>whnf)|(refine KH (vbP (g:=gx) hok (by omega) (by omega) (n:=0)) (fun hr=>?_) (fun hr=>?_)<;>conv=>whnf)|((with_reducible first|apply kN|apply kW|apply kX|apply kG|apply kQ);(· exact sd);conv=>whnf)|(refine DW.mk ?_ ?_<;>intro hc<;>(try rw[List.length_nil]at hc)<;>first|(exfalso;omega)|(exact absurd rfl hc)|conv=>whnf)|(refine CB ?_ ?_<;>intro hc<;>conv=>whnf))
      all_goals first
        |exact again.mk ⟨_,by omega,i+1,_,rfl,by omega,AwN hlt he (by omega) hr hx,rfl,rfl⟩
        |exact Hf (hno fun hh=>by have:=hh.1;omega)
        |exact Hf (hno fun hh=>hr hh.2)
        |trace_state
    · rw[show i=l.length by omega]at hx
      (conv=>whnf);repeat' (first  |((with_reducible first|apply kN|apply kW|apply kX|apply kG|apply kQ);(· exact sd);conv=>whnf)|(refine DW.mk ?_ ?_<;>intro hc<;>(try rw[List.length_nil]at hc)<;>first|(exfalso;omega)|(exact absurd rfl hc)|conv=>whnf)|(refine CB ?_ ?_<;>intro hc<;>conv=>whnf))
      exact Lp ⟨hl1,hl2,fun j hj=>hx j hj hj⟩
  · have hno:¬VPa l:=fun hv=>hlen ⟨hv.1,hv.2.1⟩
    refine Lu rfl rfl ?_
    (conv=>whnf);repeat' (first  |((with_reducible first|apply kN|apply kW|apply kX|apply kG|apply kQ);(· exact sd);conv=>whnf)|(refine DW.mk ?_ ?_<;>intro hc<;>(try rw[List.length_nil]at hc)<;>first|(exfalso;omega)|(exact absurd rfl hc)|conv=>whnf)|(refine CB ?_ ?_<;>intro hc<;>conv=>whnf))
    all_goals first|exact Hf hno|trace_state
theorem v7 {g:GV} (hg:g.ok) (hk:g.k=7) {n:Int}:D8 (Dx tab) 249 [g.av,.int .i64 n] (· =.bool (decide (g.n=0∧g.d=0∧g.s=[]∧VPa g.l))):=by
  obtain⟨g1,g2,g3,g4,g5,g6,g7⟩:=hg
  unfold Ln at g4 g5
  refine Lu rfl rfl ?_
  (conv=>whnf);repeat' (first|(refine KH (AQR (l:=g.l) (nn:=g.nn) g5 g7) (fun hr=>?_) (fun hr=>?_)<;>conv=>whnf)|((with_reducible first|apply kN|apply kW|apply kX|apply kG|apply kQ);(· exact sd);conv=>whnf)|(refine DW.mk ?_ ?_<;>intro hc<;>(try rw[List.length_nil]at hc)<;>first|(exfalso;omega)|(exact absurd rfl hc)|conv=>whnf)|(refine CB ?_ ?_<;>intro hc<;>conv=>whnf))
  all_goals first
    |exact Lp ⟨by omega,by omega,by assumption,hr⟩
    |exact Hf fun h=>hr h.2.2.2
    |exact Hf fun h=>by have:=h.1;omega
    |exact Hf fun h=>by have:=h.2.1;omega
    |exact Hf fun h=>absurd h.2.2.1 (by assumption)
    |trace_state
theorem Ax9 {m:Nat} {l:List AV} {i:Nat} (hi:i<l.length) {x:GV} (e:l[i]=x.av) (hv:VV m x) (h:∀j (hj:j<l.length),j<i→∃x:GV,l[j]=x.av∧VV m x):
    ∀j (hj:j<l.length),j<i+1→∃x:GV,l[j]=x.av∧VV m x:=by
  intro j hj hji
  rcases Nat.lt_or_ge j i with h1|h1
  · exact h j hj h1
  · obtain rfl:j=i:=by omega
    exact⟨x,e,hv⟩
set_option maxHeartbeats 1000000 in
theorem v8 {g:GV} (hg:g.ok) (hk:g.k=8) {z:Int} (hz:0≤z∧z<8) {m:Nat} (ih:∀{x:GV},x.ok→D8 (Dx tab) 249 [x.av,.int .i64 (z+1)] (· =.bool (decide (VV m x)))):
    D8 (Dx tab) 249 [g.av,.int .i64 z] (· =.bool (decide (g.n=0∧g.d=0∧g.s=[]∧g.l.length≤64∧VLi m g.l))):=by
  obtain⟨g1,g2,g3,g4,g5,g6,g7⟩:=hg
  unfold Ln at g4 g5
  refine Lu rfl rfl ?_
  (conv=>whnf);repeat' (first  |((with_reducible first|apply kN|apply kW|apply kX|apply kG|apply kQ);(· exact sd);conv=>whnf)|(refine DW.mk ?_ ?_<;>intro hc<;>(try rw[List.length_nil]at hc)<;>first|(exfalso;omega)|(exact absurd rfl hc)|conv=>whnf)|(refine CB ?_ ?_<;>intro hc<;>conv=>whnf))
  all_goals first
    |exact Hf fun h=>by have:=h.1;omega
    |exact Hf fun h=>by have:=h.2.1;omega
    |exact Hf fun h=>by have:=h.2.2.2.1;omega
    |exact Hf fun h=>absurd h.2.2.1 (by assumption)
    |skip
  have hs:g.s=[]:=by assumption
  have hn0:g.n=0:=by omega
  have hd0:g.d=0:=by omega
  have hl0:g.l.length≤64:=by omega
  refine DK (fun mm env s=>∃i c:Nat,mm=g.l.length-i∧i≤g.l.length∧(∀ j (hj:j<g.l.length),j<i→∃x:GV,g.l[j]=x.av∧VV m x)∧env=[(1,.int .i64 z),(120,.sl g.nn g.l),(121,.int .i64 g.l.length),(122,.int .i64 i)]∧s=⟨[.arr 0 5 true true [g.av]],c⟩) ?_ _ _ _ ⟨0,_,rfl,by omega,fun j _ hj=>absurd hj (by omega),rfl,rfl⟩
  rintro _ _ _ ⟨i,c,rfl,hi,hx,rfl,rfl⟩
  refine⟨rfl,?_⟩
  by_cases hlt:i<g.l.length
  · obtain⟨gx,hgx⟩:=Amk g7 i
    obtain⟨hn,he,hok⟩:=hgx hlt
    (conv=>whnf);repeat' (first|(apply LX;(· exact hn);conv=>whnf)|(refine KH (ih hok) (fun hr=>?_) (fun hr=>?_)<;>conv=>whnf)|((with_reducible first|apply kN|apply kW|apply kX|apply kG|apply kQ);(· exact sd);conv=>whnf)|(refine DW.mk ?_ ?_<;>intro hc<;>(try rw[List.length_nil]at hc)<;>first|(exfalso;omega)|(exact absurd rfl hc)|conv=>whnf)|(refine CB ?_ ?_<;>intro hc<;>conv=>whnf))
    all_goals first
      |exact again.mk ⟨_,by omega,i+1,_,rfl,by omega,Ax9 hlt he hr hx,rfl,rfl⟩
      |exact Hf fun hh=>by
          obtain⟨x,e,hv⟩:=hh.2.2.2.2 i hlt
          rw[he]at e
          rw[GV.AmG e]at hr
          exact hr hv
      |trace_state
  · rw[show i=g.l.length by omega]at hx
    (conv=>whnf);repeat' (first  |((with_reducible first|apply kN|apply kW|apply kX|apply kG|apply kQ);(· exact sd);conv=>whnf)|(refine DW.mk ?_ ?_<;>intro hc<;>(try rw[List.length_nil]at hc)<;>first|(exfalso;omega)|(exact absurd rfl hc)|conv=>whnf)|(refine CB ?_ ?_<;>intro hc<;>conv=>whnf))
    exact Lp ⟨hn0,hd0,hs,hl0,fun j hj=>hx j hj hj⟩
theorem AVz {g:GV} (hg:g.ok) (hk:g.k=8):D8 (Dx tab) 249 [g.av,.int .i64 8] (· =.bool false):=by
  obtain⟨g1,g2,g3,g4,g5,g6,g7⟩:=hg
  unfold Ln at g4 g5
  refine Lu rfl rfl ?_
  (conv=>whnf);repeat' (first  |((with_reducible first|apply kN|apply kW|apply kX|apply kG|apply kQ);(· exact sd);conv=>whnf)|(refine DW.mk ?_ ?_<;>intro hc<;>(try rw[List.length_nil]at hc)<;>first|(exfalso;omega)|(exact absurd rfl hc)|conv=>whnf)|(refine CB ?_ ?_<;>intro hc<;>conv=>whnf))
  all_goals rfl
theorem AK9:∀(m:Nat),m≤8→∀{g:GV},g.ok→D8 (Dx tab) 249 [g.av,.int .i64 (8-(m:Int))] (· =.bool (decide (VV m g))):=by
  intro m
  induction m with
  | zero=>
    intro _ g hg
    by_cases h7:g.k=7
    · rw[show AV.bool (decide (VV 0 g))=_ from Aay (AyL h7)]
      exact v7 hg h7
    by_cases h8:g.k=8
    · rw[decide_eq_false (AG4 h8)]
      exact AVz hg h8
    rw[show AV.bool (decide (VV 0 g))=AV.bool (decide (VB g)) from Aay (Axo h7 h8)]
    exact vbP hg h7 h8
  | succ m ih=>
    intro hm g hg
    by_cases h7:g.k=7
    · rw[show AV.bool (decide (VV (m+1) g))=_ from Aay (AyL h7)]
      exact v7 hg h7
    by_cases h8:g.k=8
    · rw[show AV.bool (decide (VV (m+1) g))=_ from Aay (ABQ h8)]
      exact v8 hg h8 (by omega) fun{x} hx=>by
        rw[show (8-((m+1:Nat):Int))+1=8-(m:Int) by omega]
        exact ih (by omega) hx
    rw[show AV.bool (decide (VV (m+1) g))=AV.bool (decide (VB g)) from Aay (Axo h7 h8)]
    exact vbP hg h7 h8
theorem AVA {g:GV} (hg:g.ok):D8 (Dx tab) 192 [g.av] (· =.bool (decide (VV 8 g))):=by
  have h:=AK9 8 (by omega) hg
  rw[show (8-((8:Nat):Int))=0 by omega]at h
  refine Lu rfl rfl ?_
  (conv=>whnf);repeat' (first|(refine KH h (fun hr=>?_) (fun hr=>?_)<;>conv=>whnf)|((with_reducible first|apply kN|apply kW|apply kX|apply kG|apply kQ);(· exact sd);conv=>whnf)|(refine DW.mk ?_ ?_<;>intro hc<;>(try rw[List.length_nil]at hc)<;>first|(exfalso;omega)|(exact absurd rfl hc)|conv=>whnf)|(refine CB ?_ ?_<;>intro hc<;>conv=>whnf))
  all_goals first|exact Lp hr|exact Hf hr
def AG3 (v:GV) (n d s l:Bool):Prop:=(n=true∨v.n=0)∧(d=true∨v.d=0)∧(s=true∨v.s=[])∧(l=true∨v.l.length=0)
instance (v:GV) (n d s l:Bool):Decidable (AG3 v n d s l):=by unfold AG3;infer_instance
theorem AgG {v:GV} {n d s l:Bool} (hl:v.l.length<2^63):D8 (Dx tab) 263 [v.av,.bool n,.bool d,.bool s,.bool l] (· =.bool (decide (AG3 v n d s l))):=by
  cases n<;>cases d<;>cases s<;>cases l
  all_goals
    refine Lu rfl rfl ?_
    (conv=>whnf);repeat' (first|((with_reducible first|apply kN|apply kW|apply kX|apply kG|apply kQ);(· exact sd);conv=>whnf)|(refine DW.mk ?_ ?_<;>intro hc<;>(try rw[List.length_nil]at hc)<;>first|(exfalso;omega)|(exact absurd rfl hc)|conv=>whnf)  |(refine CB ?_ ?_<;>intro hc<;>conv=>whnf))
  all_goals first
    |(refine Lp ?_;unfold AG3;refine⟨?_,?_,?_,?_⟩<;>first|(left;rfl)|(right;first|assumption|omega))
    |(refine Hf ?_;unfold AG3;rintro⟨h1,h2,h3,h4⟩;simp only[Bool.false_eq_true,false_or,true_or]at h1 h2 h3 h4;first|contradiction|omega)
theorem AXW {s:List UInt8} (hl:s.length<2^63):D8 (Dx tab) 265 [.str s] (· =.bool (decide (okS s))):=by
  refine Lu rfl rfl ?_
  (conv=>whnf);repeat' (first|((with_reducible first|apply kN|apply kW|apply kX|apply kG|apply kQ);(· exact sd);conv=>whnf)|(refine DW.mk ?_ ?_<;>intro hc<;>(try rw[List.length_nil]at hc)<;>first|(exfalso;omega)|(exact absurd rfl hc)|conv=>whnf)  |(refine CB ?_ ?_<;>intro hc<;>conv=>whnf))
  refine DK (fun m env s'=>∃i:Nat,m=s.length-i∧env=[(0,.str s),(3,.int .i64 i)]∧s'=⟨[],0⟩∧∀c∈s.take i,AwT c=false) ?_ _ _ _ ⟨0,rfl,rfl,rfl,by simp⟩
  rintro _ _ _ ⟨i,rfl,rfl,rfl,hx⟩
  refine⟨rfl,?_⟩
  (conv=>whnf);repeat' (first|((with_reducible first|apply kN|apply kW|apply kX|apply kG|apply kQ);(· exact sd);conv=>whnf)|(refine DW.mk ?_ ?_<;>intro hc<;>(try rw[List.length_nil]at hc)<;>first|(exfalso;omega)|(exact absurd rfl hc)|conv=>whnf)  |(refine CB ?_ ?_<;>intro hc<;>conv=>whnf))
  all_goals first
    |exact again.mk ⟨_,by omega,i+1,rfl,rfl,rfl,AfD (by omega) hx (by unfold AwT;simp;omega)⟩
    |(refine Hf fun h=>?_;have:=h.2 s[i] (List.getElem_mem (by omega));unfold AwT at this;simp at this;omega)
    |(rw [List.take_of_length_le (by omega)]at hx;exact Lp ⟨by omega,hx⟩)
    |(refine Hf fun h=>?_;have:=h.1;omega)
set_option maxHeartbeats 1000000 in
theorem vbR {g:GV} (hg:g.ok) (h7:g.k≠7) (h8:g.k≠8) {n:Int}:D8 (Dx tab) 228 [g.av,.int .i64 n] (· =.bool (decide (VB g))):=by
  obtain⟨g1,g2,g3,g4,g5,g6,g7⟩:=hg
  unfold Ln at g4 g5
  refine Lu rfl rfl ?_
  (conv=>whnf);repeat' (first|(refine KH (AgG (v:=g) g5) (fun hb=>?_) (fun hb=>?_)<;>conv=>whnf)|(refine KH (AXV (n:=g.n)) (fun hr=>?_) (fun hr=>?_)<;>conv=>whnf)|(refine KH (fvR (n:=g.n) (d:=g.d)) (fun hr=>?_) (fun hr=>?_)<;>conv=>whnf)|(refine KH (AXW (s:=g.s) g4) (fun hr=>?_) (fun hr=>?_)<;>conv=>whnf)|((with_reducible first|apply kN|apply kW|apply kX|apply kG|apply kQ);(· exact sd);conv=>whnf)|(refine DW.mk ?_ ?_<;>intro hc<;>(try rw[List.length_nil]at hc)<;>first|(exfalso;omega)|(exact absurd rfl hc)|conv=>whnf)|(refine CB ?_ ?_<;>intro hc<;>conv=>whnf))
  all_goals clear g7 g6
  all_goals try unfold AG3 at hb
  all_goals try simp only[Bool.false_eq_true,false_or,true_or]at hb
  all_goals first
    |(refine Lp ?_;unfold VB;first|(simp_all;done)|(simp_all;omega))
    |(refine Hf fun h=>hb ?_;obtain⟨h0,h⟩:=h;rcases h with h|h|h|h|h|h<;>first|(exfalso;omega)|(simp_all;done)|(simp_all;omega)|(refine ⟨?_,?_,?_,?_⟩<;>first|omega|simp_all))
    |(refine Hf ?_;unfold VB;first|(simp_all;done)|(simp_all;omega))
    |trace_state
set_option maxHeartbeats 1000000 in
theorem AKM {l:List AV} {nn:Bool} (hl:l.length<2^63) (h:∀x∈l,Like Tryz.prog 48 x):D8 (Dx tab) 266 [.sl nn l] (· =.bool (decide (VPa l))):=by
  have htm:(l.length:Int).tmod 2=(l.length:Int) % 2:=Int.tmod_eq_emod_of_nonneg (by omega)
  by_cases hlen:l.length % 2=1∧l.length≤25
  · obtain⟨hl1,hl2⟩:=hlen
    refine Lu rfl rfl ?_
    (conv=>whnf);repeat' (first  |((with_reducible first|apply kN|apply kW|apply kX|apply kG|apply kQ);(· exact sd);conv=>whnf)|(refine DW.mk ?_ ?_<;>intro hc<;>(try rw[List.length_nil]at hc)<;>first|(exfalso;omega)|(exact absurd rfl hc)|conv=>whnf)|(refine CB ?_ ?_<;>intro hc<;>conv=>whnf))
    refine DK (fun m env s=>∃i:Nat,m=l.length-i∧i≤l.length∧(∀ j (hj:j<l.length),j<i→∃x:GV,l[j]=x.av∧x.k=5+(j:Int) % 2∧VB x)∧env=[(0,.sl nn l),(3,.int .i64 i)]∧s=⟨[],0⟩) ?_ _ _ _ ⟨0,rfl,by omega,fun j _ hj=>absurd hj (by omega),rfl,rfl⟩
    rintro _ _ _ ⟨i,rfl,hi,hx,rfl,rfl⟩
    refine⟨rfl,?_⟩
    by_cases hlt:i<l.length
    · obtain⟨gx,hgx⟩:=Amk h i
      obtain⟨hn,he,hok⟩:=hgx hlt
      have hno:¬(gx.k=5+(i:Int) % 2∧VB gx)→¬VPa l:=fun hh hv=>by
        obtain⟨x,e,hx2⟩:=hv.2.2 i hlt
        rw[he]at e
        rw[GV.AmG e]at hh
        exact hh hx2
      have h2:(i:Int).tmod 2=(i:Int) % 2:=Int.tmod_eq_emod_of_nonneg (by omega)
      (conv=>whnf);repeat' (first|(apply LX;(· exact hn);conv=>whnf)|(refine KH (vbR (g:=gx) hok (by omega) (by omega) (n:=0)) (fun hr=>?_) (fun hr=>?_)<;>conv=>whnf)|((with_reducible first|apply kN|apply kW|apply kX|apply kG|apply kQ);(· exact sd);conv=>whnf)|(refine DW.mk ?_ ?_<;>intro hc<;>(try rw[List.length_nil]at hc)<;>first|(exfalso;omega)|(exact absurd rfl hc)|conv=>whnf)|(refine CB ?_ ?_<;>intro hc<;>conv=>whnf))
      all_goals first
        |exact again.mk ⟨_,by omega,i+1,rfl,by omega,AwN hlt he (by omega) hr hx,rfl,rfl⟩
        |exact Hf (hno fun hh=>by have:=hh.1;omega)
        |exact Hf (hno fun hh=>hr hh.2)
        |trace_state
    · rw[show i=l.length by omega]at hx
      (conv=>whnf);repeat' (first  |((with_reducible first|apply kN|apply kW|apply kX|apply kG|apply kQ);(· exact sd);conv=>whnf)|(refine DW.mk ?_ ?_<;>intro hc<;>(try rw[List.length_nil]at hc)<;>first|(exfalso;omega)|(exact absurd rfl hc)|conv=>whnf)|(refine CB ?_ ?_<;>intro hc<;>conv=>whnf))
      exact Lp ⟨hl1,hl2,fun j hj=>hx j hj hj⟩
  · have hno:¬VPa l:=fun hv=>hlen ⟨hv.1,hv.2.1⟩
    refine Lu rfl rfl ?_
    (conv=>whnf);repeat' (first  |((with_reducible first|apply kN|apply kW|apply kX|apply kG|apply kQ);(· exact sd);conv=>whnf)|(refine DW.mk ?_ ?_<;>intro hc<;>(try rw[List.length_nil]at hc)<;>first|(exfalso;omega)|(exact absurd rfl hc)|conv=>whnf)|(refine CB ?_ ?_<;>intro hc<;>conv=>whnf))
    all_goals first|exact Hf hno|(exfalso;omega)|trace_state
theorem v7R {g:GV} (hg:g.ok) (hk:g.k=7) {n:Int}:D8 (Dx tab) 228 [g.av,.int .i64 n] (· =.bool (decide (g.n=0∧g.d=0∧g.s=[]∧VPa g.l))):=by
  obtain⟨g1,g2,g3,g4,g5,g6,g7⟩:=hg
  unfold Ln at g4 g5
  refine Lu rfl rfl ?_
  (conv=>whnf);repeat' (first|(refine KH (AgG (v:=g) g5) (fun hb=>?_) (fun hb=>?_)<;>conv=>whnf)|(refine KH (AKM (l:=g.l) (nn:=g.nn) g5 g7) (fun hr=>?_) (fun hr=>?_)<;>conv=>whnf)|((with_reducible first|apply kN|apply kW|apply kX|apply kG|apply kQ);(· exact sd);conv=>whnf)|(refine DW.mk ?_ ?_<;>intro hc<;>(try rw[List.length_nil]at hc)<;>first|(exfalso;omega)|(exact absurd rfl hc)|conv=>whnf)|(refine CB ?_ ?_<;>intro hc<;>conv=>whnf))
  all_goals try unfold AG3 at hb
  all_goals try simp only[Bool.false_eq_true,false_or,true_or]at hb
  all_goals first
    |exact Lp ⟨hb.1,hb.2.1,hb.2.2.1,hr⟩
    |exact Lp ⟨hb.1,hb.2.1,hb.2.2,hr⟩
    |exact Hf fun h=>hr h.2.2.2
    |exact Hf fun h=>hb ⟨h.1,h.2.1,h.2.2.1,trivial⟩
    |exact Hf fun h=>hb ⟨h.1,h.2.1,h.2.2.1⟩
    |trace_state
set_option maxHeartbeats 1000000 in
theorem AKN {g:GV} (hg:g.ok) {z:Int} (hz:1≤z∧z≤8) {m:Nat} (ih:∀{x:GV},x.ok→D8 (Dx tab) 228 [x.av,.int .i64 (z-1)] (· =.bool (decide (VV m x)))):
    D8 (Dx tab) 267 [.sl g.nn g.l,.int .i64 z] (· =.bool (decide (g.l.length≤64∧VLi m g.l))):=by
  obtain⟨g1,g2,g3,g4,g5,g6,g7⟩:=hg
  unfold Ln at g4 g5
  refine Lu rfl rfl ?_
  (conv=>whnf);repeat' (first  |((with_reducible first|apply kN|apply kW|apply kX|apply kG|apply kQ);(· exact sd);conv=>whnf)|(refine DW.mk ?_ ?_<;>intro hc<;>(try rw[List.length_nil]at hc)<;>first|(exfalso;omega)|(exact absurd rfl hc)|conv=>whnf)|(refine CB ?_ ?_<;>intro hc<;>conv=>whnf))
  all_goals first
    |exact Hf fun h=>by have:=h.1;omega
    |(exfalso;omega)
    |skip
  have hl0:g.l.length≤64:=by omega
  refine DK (fun mm env s=>∃i:Nat,mm=g.l.length-i∧i≤g.l.length∧(∀ j (hj:j<g.l.length),j<i→∃x:GV,g.l[j]=x.av∧VV m x)∧env=[(0,.sl g.nn g.l),(1,.int .i64 z),(5,.int .i64 i)]∧s=⟨[],0⟩) ?_ _ _ _ ⟨0,rfl,by omega,fun j _ hj=>absurd hj (by omega),rfl,rfl⟩
  rintro _ _ _ ⟨i,rfl,hi,hx,rfl,rfl⟩
  refine⟨rfl,?_⟩
  by_cases hlt:i<g.l.length
  · obtain⟨gx,hgx⟩:=Amk g7 i
    obtain⟨hn,he,hok⟩:=hgx hlt
    (conv=>whnf);repeat' (first|(apply LX;(· exact hn);conv=>whnf)|(refine KH (ih hok) (fun hr=>?_) (fun hr=>?_)<;>conv=>whnf)|((with_reducible first|apply kN|apply kW|apply kX|apply kG|apply kQ);(· exact sd);conv=>whnf)|(refine DW.mk ?_ ?_<;>intro hc<;>(try rw[List.length_nil]at hc)<;>first|(exfalso;omega)|(exact absurd rfl hc)|conv=>whnf)|(refine CB ?_ ?_<;>intro hc<;>conv=>whnf))
    all_goals first
      |exact again.mk ⟨_,by omega,i+1,rfl,by omega,Ax9 hlt he hr hx,rfl,rfl⟩
      |exact Hf fun hh=>by
          obtain⟨x,e,hv⟩:=hh.2 i hlt
          rw[he]at e
          rw[GV.AmG e]at hr
          exact hr hv
      |trace_state
  · rw[show i=g.l.length by omega]at hx
    (conv=>whnf);repeat' (first  |((with_reducible first|apply kN|apply kW|apply kX|apply kG|apply kQ);(· exact sd);conv=>whnf)|(refine DW.mk ?_ ?_<;>intro hc<;>(try rw[List.length_nil]at hc)<;>first|(exfalso;omega)|(exact absurd rfl hc)|conv=>whnf)|(refine CB ?_ ?_<;>intro hc<;>conv=>whnf))
    exact Lp ⟨hl0,fun j hj=>hx j hj hj⟩
theorem v8R {g:GV} (hg:g.ok) (hk:g.k=8) {z:Int} {p:Prop} [Decidable p] (hlist:D8 (Dx tab) 267 [.sl g.nn g.l,.int .i64 z] (· =.bool (decide p))):
    D8 (Dx tab) 228 [g.av,.int .i64 z] (· =.bool (decide (g.n=0∧g.d=0∧g.s=[]∧p))):=by
  obtain⟨g1,g2,g3,g4,g5,g6,g7⟩:=hg
  unfold Ln at g4 g5
  refine Lu rfl rfl ?_
  (conv=>whnf);repeat' (first|(refine KH (AgG (v:=g) g5) (fun hb=>?_) (fun hb=>?_)<;>conv=>whnf)|(refine KH hlist (fun hr=>?_) (fun hr=>?_)<;>conv=>whnf)|((with_reducible first|apply kN|apply kW|apply kX|apply kG|apply kQ);(· exact sd);conv=>whnf)|(refine DW.mk ?_ ?_<;>intro hc<;>(try rw[List.length_nil]at hc)<;>first|(exfalso;omega)|(exact absurd rfl hc)|conv=>whnf)|(refine CB ?_ ?_<;>intro hc<;>conv=>whnf))
  all_goals try unfold AG3 at hb
  all_goals try simp only[Bool.false_eq_true,false_or,true_or]at hb
  all_goals first
    |exact Lp ⟨hb.1,hb.2.1,hb.2.2.1,hr⟩
    |exact Lp ⟨hb.1,hb.2.1,hb.2.2,hr⟩
    |exact Hf fun h=>hr h.2.2.2
    |exact Hf fun h=>hb ⟨h.1,h.2.1,h.2.2.1,trivial⟩
    |exact Hf fun h=>hb ⟨h.1,h.2.1,h.2.2.1⟩
    |trace_state
theorem AKO {l:List AV} {nn:Bool} (hl:l.length<2^63):D8 (Dx tab) 267 [.sl nn l,.int .i64 0] (· =.bool (decide False)):=by
  refine Lu rfl rfl ?_
  (conv=>whnf);repeat' (first  |((with_reducible first|apply kN|apply kW|apply kX|apply kG|apply kQ);(· exact sd);conv=>whnf)|(refine DW.mk ?_ ?_<;>intro hc<;>(try rw[List.length_nil]at hc)<;>first|(exfalso;omega)|(exact absurd rfl hc)|conv=>whnf)|(refine CB ?_ ?_<;>intro hc<;>conv=>whnf))
  all_goals rfl
theorem ABP:∀(m:Nat),m≤8→∀{g:GV},g.ok→D8 (Dx tab) 228 [g.av,.int .i64 (m:Int)] (· =.bool (decide (VV m g))):=by
  intro m
  induction m with
  | zero=>
    intro _ g hg
    by_cases h7:g.k=7
    · rw[show AV.bool (decide (VV 0 g))=_ from Aay (AyL h7)]
      exact v7R hg h7
    by_cases h8:g.k=8
    · rw[show AV.bool (decide (VV 0 g))=AV.bool (decide (g.n=0∧g.d=0∧g.s=[]∧False)) from Aay ⟨fun h=>absurd h (AG4 h8),fun h=>h.2.2.2.elim⟩]
      exact v8R hg h8 (AKO hg.2.2.2.2.1)
    rw[show AV.bool (decide (VV 0 g))=AV.bool (decide (VB g)) from Aay (Axo h7 h8)]
    exact vbR hg h7 h8
  | succ m ih=>
    intro hm g hg
    by_cases h7:g.k=7
    · rw[show AV.bool (decide (VV (m+1) g))=_ from Aay (AyL h7)]
      exact v7R hg h7
    by_cases h8:g.k=8
    · rw[show AV.bool (decide (VV (m+1) g))=_ from Aay (ABQ h8)]
      exact v8R hg h8 (AKN hg (by omega) fun{x} hx=>by
        rw[show ((m+1:Nat):Int)-1=(m:Int) by omega]
        exact ih (by omega) hx)
    rw[show AV.bool (decide (VV (m+1) g))=AV.bool (decide (VB g)) from Aay (Axo h7 h8)]
    exact vbR hg h7 h8
theorem AVk {g:GV} (hg:g.ok):D8 (Dx tab) 164 [g.av] (· =.bool (decide (VV 8 g))):=by
  have h:=ABP 8 (by omega) hg
  refine Lu rfl rfl ?_
  (conv=>whnf);repeat' (first|(refine KH h (fun hr=>?_) (fun hr=>?_)<;>conv=>whnf)|((with_reducible first|apply kN|apply kW|apply kX|apply kG|apply kQ);(· exact sd);conv=>whnf)|(refine DW.mk ?_ ?_<;>intro hc<;>(try rw[List.length_nil]at hc)<;>first|(exfalso;omega)|(exact absurd rfl hc)|conv=>whnf)|(refine CB ?_ ?_<;>intro hc<;>conv=>whnf))
  all_goals first|exact Lp hr|exact Hf hr
def AyP (g:GV):Prop:=VV 8 g∧(g.k=2∨g.k=3)
noncomputable instance (g:GV):Decidable (AyP g):=by unfold AyP;infer_instance
def dn (g:GV):Int:=if g.k=2 then 1 else g.d
theorem Apb {g:GV} (h:AyP g):VF g.n (dn g):=by
  obtain⟨hv,hk⟩:=h
  rw[Axo (by omega) (by omega)]at hv
  obtain⟨h1,h2⟩:=hv
  unfold dn
  rcases hk with hk|hk
  · rw[if_pos hk]
    rcases h2 with h|h|h|h|h|h<;>first|(exfalso;omega)|exact⟨by omega,by omega,h.2.1,by simp⟩
  · rw[if_neg (by omega)]
    rcases h2 with h|h|h|h|h|h<;>first|(exfalso;omega)|exact h.2.2.1
theorem vP {g:GV} (hg:g.ok) (h:VV 8 g):D8 (Dx tab) 192 [g.av] (· =.bool true):=by have:=AVA hg;rwa [decide_eq_true h]at this
theorem vPn {g:GV} (hg:g.ok) (h:¬VV 8 g):D8 (Dx tab) 192 [g.av] (· =.bool false):=by have:=AVA hg;rwa [decide_eq_false h]at this
theorem vR {g:GV} (hg:g.ok) (h:VV 8 g):D8 (Dx tab) 164 [g.av] (· =.bool true):=by have:=AVk hg;rwa [decide_eq_true h]at this
theorem vRn {g:GV} (hg:g.ok) (h:¬VV 8 g):D8 (Dx tab) 164 [g.av] (· =.bool false):=by have:=AVk hg;rwa [decide_eq_false h]at this
theorem nP1 {g:GV} (hg:g.ok) (h:AyP g):D8 (Dx tab) 246 [g.av] (· =.tup [.agg [.int .i64 g.n,.int .i64 (dn g)],.bool true]):=by
  have hv:=vP hg h.1
  rcases h.2 with hk|hk
  · have e:dn g=1:=if_pos hk
    rw[e]
    refine Lu rfl rfl ?_
    (conv=>whnf);repeat' (first|(refine BM hv ?_;rintro _ rfl;conv=>whnf)|((with_reducible first|apply kN|apply kW|apply kX|apply kG|apply kQ);(· exact sd);conv=>whnf)|(refine DW.mk ?_ ?_<;>intro hc<;>(try rw[List.length_nil]at hc)<;>first|(exfalso;omega)|(exact absurd rfl hc)|conv=>whnf)|(refine CB ?_ ?_<;>intro hc<;>conv=>whnf))
    all_goals first | rfl | (trace_state; fail "nP1")
  · have e:dn g=g.d:=if_neg (by omega)
    rw[e]
    refine Lu rfl rfl ?_
    (conv=>whnf);repeat' (first|(refine BM hv ?_;rintro _ rfl;conv=>whnf)|((with_reducible first|apply kN|apply kW|apply kX|apply kG|apply kQ);(· exact sd);conv=>whnf)|(refine DW.mk ?_ ?_<;>intro hc<;>(try rw[List.length_nil]at hc)<;>first|(exfalso;omega)|(exact absurd rfl hc)|conv=>whnf)|(refine CB ?_ ?_<;>intro hc<;>conv=>whnf))
    all_goals first | rfl | (trace_state; fail "nP1")
theorem nP0 {g:GV} (hg:g.ok) (h:¬AyP g):D8 (Dx tab) 246 [g.av] (· =.tup [.agg [.int .i64 0,.int .i64 0],.bool false]):=by
  by_cases hk:g.k=2∨g.k=3
  · have hv:=vPn hg (fun hv=>h ⟨hv,hk⟩)
    refine Lu rfl rfl ?_
    (conv=>whnf);repeat' (first|(refine BM hv ?_;rintro _ rfl;conv=>whnf)|((with_reducible first|apply kN|apply kW|apply kX|apply kG|apply kQ);(· exact sd);conv=>whnf)|(refine DW.mk ?_ ?_<;>intro hc<;>(try rw[List.length_nil]at hc)<;>first|(exfalso;omega)|(exact absurd rfl hc)|conv=>whnf)|(refine CB ?_ ?_<;>intro hc<;>conv=>whnf))
    all_goals first | rfl | (trace_state; fail "nP0")
  · refine Lu rfl rfl ?_
    (conv=>whnf);repeat' (first  |((with_reducible first|apply kN|apply kW|apply kX|apply kG|apply kQ);(· exact sd);conv=>whnf)|(refine DW.mk ?_ ?_<;>intro hc<;>(try rw[List.length_nil]at hc)<;>first|(exfalso;omega)|(exact absurd rfl hc)|conv=>whnf)|(refine CB ?_ ?_<;>intro hc<;>conv=>whnf))
    all_goals first | rfl | (trace_state; fail "nP0")
theorem nR1 {g:GV} (hg:g.ok) (h:AyP g):D8 (Dx tab) 169 [g.av] (· =.tup [.agg [.int .i64 g.n,.int .i64 (dn g)],.bool true]):=by
  have hv:=vR hg h.1
  rcases h.2 with hk|hk
  · have e:dn g=1:=if_pos hk
    rw[e]
    refine Lu rfl rfl ?_
    (conv=>whnf);repeat' (first|(refine BM hv ?_;rintro _ rfl;conv=>whnf)|((with_reducible first|apply kN|apply kW|apply kX|apply kG|apply kQ);(· exact sd);conv=>whnf)|(refine DW.mk ?_ ?_<;>intro hc<;>(try rw[List.length_nil]at hc)<;>first|(exfalso;omega)|(exact absurd rfl hc)|conv=>whnf)|(refine CB ?_ ?_<;>intro hc<;>conv=>whnf))
    all_goals first | rfl | (trace_state; fail "nR1")
  · have e:dn g=g.d:=if_neg (by omega)
    rw[e]
    refine Lu rfl rfl ?_
    (conv=>whnf);repeat' (first|(refine BM hv ?_;rintro _ rfl;conv=>whnf)|((with_reducible first|apply kN|apply kW|apply kX|apply kG|apply kQ);(· exact sd);conv=>whnf)|(refine DW.mk ?_ ?_<;>intro hc<;>(try rw[List.length_nil]at hc)<;>first|(exfalso;omega)|(exact absurd rfl hc)|conv=>whnf)|(refine CB ?_ ?_<;>intro hc<;>conv=>whnf))
    all_goals first | rfl | (trace_state; fail "nR1")
theorem nR0 {g:GV} (hg:g.ok) (h:¬AyP g):D8 (Dx tab) 169 [g.av] (· =.tup [.agg [.int .i64 0,.int .i64 0],.bool false]):=by
  by_cases hV:VV 8 g
  · have hv:=vR hg hV
    have hk:¬(g.k=2∨g.k=3):=fun hk=>h ⟨hV,hk⟩
    refine Lu rfl rfl ?_
    (conv=>whnf);repeat' (first|(refine BM hv ?_;rintro _ rfl;conv=>whnf)|((with_reducible first|apply kN|apply kW|apply kX|apply kG|apply kQ);(· exact sd);conv=>whnf)|(refine DW.mk ?_ ?_<;>intro hc<;>(try rw[List.length_nil]at hc)<;>first|(exfalso;omega)|(exact absurd rfl hc)|conv=>whnf)|(refine CB ?_ ?_<;>intro hc<;>conv=>whnf))
    all_goals first | rfl | (trace_state; fail "nR0")
  · have hv:=vRn hg hV
    refine Lu rfl rfl ?_
    (conv=>whnf);repeat' (first|(refine BM hv ?_;rintro _ rfl;conv=>whnf)|((with_reducible first|apply kN|apply kW|apply kX|apply kG|apply kQ);(· exact sd);conv=>whnf)|(refine DW.mk ?_ ?_<;>intro hc<;>(try rw[List.length_nil]at hc)<;>first|(exfalso;omega)|(exact absurd rfl hc)|conv=>whnf)|(refine CB ?_ ?_<;>intro hc<;>conv=>whnf))
    all_goals first | rfl | (trace_state; fail "nR0")
theorem ARp : ∀ {m k : Nat} {g:GV},m≤k→VV m g→VV k g
  | m, 0, g, h, hv => by obtain rfl:m=0:=by omega
                         exact hv
  | m,k+1,g,h,hv=>by
    rcases Nat.lt_or_ge m (k+1)with h1|h1
    · exact ACa (ARp (by omega) hv)
    · obtain rfl:m=k+1:=by omega
      exact hv
theorem AVt:D8 (Dx tab) 165 [.bool true] (· =.int .i64 2):=⟨_,⟨20,by kernel_rfl⟩,rfl⟩
theorem AQN:D8 (Dx tab) 165 [.bool false] (· =.int .i64 0):=⟨_,⟨20,by kernel_rfl⟩,rfl⟩
theorem AWO {a:GV} (h:VV 8 a) (h7:a.k≠7) (h8:a.k≠8):(a.k=4→a.n=0)∧(a.k≠4→a.s=[]):=by
  rw[Axo h7 h8]at h
  obtain⟨_,h⟩:=h
  rcases h with h|h|h|h|h|h<;>exact⟨fun hk=>by first|omega|exact h.2.1,fun hk=>by first|exact h.2.2.2|exact h.2.2.2.2|(exfalso;omega)⟩
end AI
end Go.Proofs.YtnbibfalljlmfaaGreatDoor
