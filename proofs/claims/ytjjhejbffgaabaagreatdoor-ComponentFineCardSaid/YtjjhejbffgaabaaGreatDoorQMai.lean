/- component.Strong: a visit. component.Strong: the successors of each node. Labels: two edges are joined in either order. Plain. Strong components lie within weak ones; both are the same if all edges are reversed. Plain. A topological order exists just where there is no loop and every strong component has one node. Plain. component.Strong. Increasing lists of the reference: with. -/
import Derived.Test.YtjjhejbffgaabaaGreatDoorQMah
import Derived.Test.YtjjhejbffgaabaaGreatDoorQMag
import Derived.Test.YtjjhejbffgaabaaGreatDoorQMae
set_option linter.unusedVariables false
set_option maxRecDepth 4000
namespace Go.Proofs.YtjjhejbffgaabaaGreatDoor
namespace AI
abbrev Px (M:List (Int×AV)):List (AV×AV):=Gm (.int .i64) id M
theorem fkA {M:List (Int×AV)} {k:Int} {v:AV} {K:Option (Nat×AV)→Prop} (h:AZ M k=some v) (hK:∀i,K (some (i,v))):H7 .int (.int .i64 k) (Px M) K:=
 Lj EL (fun hm=>by rw[h]at hm;cases hm) fun i w hm=>by
  rw[h]at hm
  cases hm
  exact hK i
theorem AaT {M:List (Int×AV)} {k:Int} {K:Option (Nat×AV)→Prop} (h:AZ M k=none) (hK:K none):H7 .int (.int .i64 k) (Px M) K:=
 Lj EL (fun _=>hK) fun i w hm=>by rw[h]at hm;cases hm
theorem Ae9 {M:List (Int×Bool)} {k:Int} {K:Option (Nat×AV)→Prop} (h:AZ M k=some true) (hK:∀i,K (some (i,.bool true))):H7 .int (.int .i64 k) (I5 M) K:=
 fkT (fun hm=>by rw[h]at hm;cases hm) fun i w hm _=>by
  rw[h]at hm
  cases hm
  exact hK i
theorem Afb {M:List (Int×Bool)} {k:Int} {K:Option (Nat×AV)→Prop} (h:AZ M k=none) (hK:K none):H7 .int (.int .i64 k) (I5 M) K:=
 fkT (fun _=>hK) fun i w hm _=>by rw[h]at hm;cases hm
theorem JZ {n c:Nat} {σ:List Obj} (h:σ.length=n):compact n (.E5 []) ⟨σ,c⟩=some (.E5 [],⟨σ,c⟩):=by
 subst h
 simp[compact,AV.closed,Dp,List.take_length]
structure VE (G:GS) (CV:List (AV×AV)) (cn:Bool) (nx:Int→List Int) (ids:List Int) (lo:Nat) (σ0 σ:List Obj) (s:TJ) (BD Ba:List (Int×Int)) (stk:AV) (Di:List (Int×Bool)) (Dn:List (Int×Int)):Prop where
 hs:HS G CV cn σ BD Ba stk Di Dn
 fl:∀o,(o<2∨6<o)→o<lo→nth σ o=nth σ0 o
 ln:lo≤σ.length
 ab:AB s BD Ba Di Dn
 tj:Ey nx s
 sT:s.T=[]
 sS:s.S=[]
 sk:Stk lo σ stk []
 vi:∀v,s.vis v→v∈ids
section
variable {G:GS} {CV:List (Int×AV)} {cn:Bool} {nx:Int→List Int} {ids:List Int} {lo:Nat} {σ0 σ:List Obj} {s:TJ} {BD Ba Dn:List (Int×Int)} {stk:AV} {Di:List (Int×Bool)}
theorem VR.done {L:List (Int×Nat)} {pt gt:Nat} {J:List (Int×Nat)} {CV:List (AV×AV)} (h:VR G CV cn nx ids lo σ0 σ s [] BD Ba stk Di Dn pt gt J):VE G CV cn nx ids lo σ0 σ s BD Ba stk Di Dn:=by
 have hT:s.T=[]:=h.sT
 have hS:s.S=[]:=by
  refine List.eq_nil_iff_forall_not_mem.2 fun v hv=>?_
  obtain⟨p,hp,_⟩:=h.tj.rt v hv
  rw[hT]at hp
  cases hp
 exact⟨h.hs,h.fl,h.ln,h.ab,h.tj,hT,hS,hS▸h.sk,h.vi⟩
theorem VE.first {CV:List (AV×AV)} {σ2 σ3:List Obj} {G8:AV} {m:Int} {F:List Nat} {pt gt:Nat} (hlo:6<lo) (h:VE G CV cn nx ids lo σ0 σ s BD Ba stk Di Dn) (hm:¬s.vis m) (hid:m∈ids)
 (hs:HS G CV cn σ2 (Bz BD m BD.length) (Bz Ba m BD.length) G8 (Bz Di m true) Dn) (f2:G7 σ σ2 F) (hF:∀o∈F,(2≤o∧o≤6)∨lo≤o) (hk2:Stk lo σ2 G8 [m]) (f3:G7 σ2 σ3 []) (hpt:lo≤pt) (hob:pt∉G8.obj) (htd:nth σ3 pt=some (.arr gt 2 true true (vs SL [(m,0)]))):
 VR G CV cn nx ids lo σ0 σ3 (Ld s m []) [(m,0)] (Bz BD m BD.length) (Bz Ba m BD.length) G8 (Bz Di m true) Dn pt gt []:=by
 have V5:m∉s.S:=by rw[h.sS];simp
 have hg:Goes nx s m []:=⟨by rw[h.sT],by simp,by rw[h.sT];simp⟩
 have ff:=f2.trans f3
 refine⟨hs.keep f3 (by simp),Jm h.fl h.ln ff (fun o ho=>by rw[List.append_nil]at ho;exact hF o ho),Nat.le_trans h.ln ff.len,h.ab.enter hm V5,h.tj.enter hm hg,rfl,?_,htd,⟨hpt,hob⟩,?_⟩
 ·have:(Ld s m []).S=[m]:=by show s.S++[m]=[m];rw[h.sS];rfl
  rw[this]
  exact hk2.keep f3 (by simp)
 ·rintro v (hv|rfl)
  ·exact h.vi v hv
  ·exact hid
theorem Afc {c:Nat} {m:Int} {CV:List (AV×AV)} (hlo:6<lo) (h:VE G CV cn nx ids lo σ0 σ s BD Ba stk Di Dn) (hm:¬s.vis m) (hl:BD.length<2^40):
 CJ (Ag tab) 57 [.ref 6 G.f 0 0,.int .i64 m] ⟨σ,c⟩
  fun out s'=>∃σ' c' G8 F,out=.ok (.agg [.int .i64 m,.int .i64 0])∧s'=⟨σ',c'⟩∧HS G CV cn σ' (Bz BD m BD.length) (Bz Ba m BD.length) G8 (Bz Di m true) Dn∧Stk lo σ' G8 [m]∧(∀ o∈G8.obj,o<σ'.length)∧G7 σ σ' F∧∀o∈F,(2≤o∧o≤6)∨lo≤o:=by
 have h0:=h.ab.Z9 m hm
 rcases h.sk with⟨rfl,_⟩|⟨q,g,J,h1,rfl,h2⟩
 ·refine(AeI h.hs h0 hl).mono ?_
  rintro _ _ ⟨σ',c',o,g,rfl,rfl,a1,a2,a3,a4⟩
  exact⟨_,_,_,_,rfl,rfl,a1,.inr ⟨o,g,[],Nat.le_trans h.ln a3,rfl,a2⟩,fun o' ho'=>by simp only[AV.obj,List.mem_singleton]at ho';subst ho';exact CU a2,a4,by simp⟩
 ·refine(Adk (S:=[]) (J:=J) h.hs rfl h0 (by simp) h2 (by omega)).mono ?_
  rintro _ _ ⟨σ',c',g',rfl,rfl,a1,a2,a3⟩
  exact⟨_,_,_,_,rfl,rfl,a1,.inr ⟨q,g',[],h1,rfl,a2⟩,fun o' ho'=>by simp only[AV.obj,List.mem_singleton]at ho';subst ho';exact CU a2,a3,by simp;omega⟩
set_option maxHeartbeats 8000000 in
theorem Aco {B c:Nat} {m:Int} (hlo:6<lo) (hnd:ids.Nodup) (hil:ids.length<2^30) (hB:∀v,(nx v).length≤B) (hB2:B<2^30) (hnx:NxS CV σ0 lo nx) (hcl:∀v,∀w∈nx v,w∈ids) (hix:BD.length<2^40)
 (h:VE G (Px CV) cn nx ids lo σ0 σ s BD Ba stk Di Dn) (hm:¬s.vis m) (hid:m∈ids):
 CJ (Ag tab) 33 [.ref 6 G.f 0 0,.int .i64 m] ⟨σ,c⟩
  fun out s'=>∃σ' c' s2 Afd AdP G8 IJ KE,out=.ok (.E5 [])∧s'=⟨σ',c'⟩∧VE G (Px CV) cn nx ids lo σ0 σ' s2 Afd AdP G8 IJ KE∧s2.vis m∧∀v,s.vis v→s2.vis v:=by
 refine CB rfl rfl ?_
 (conv=>whnf);repeat' (first|(refine (Afc hlo h hm hix).mono ?_;rintro _ _ ⟨σ2,c2,Afe,F,rfl,rfl,b1,b2,b3,b4,b5⟩;conv=>whnf)|(refine LG fun σ3 f3 k3 l3=>?_;conv=>whnf)|(refine kA ?_;conv=>whnf)|(refine Br.mk (fun hc=>?_) fun hc=>?_<;>first|exact hc.elim|conv=>whnf)|(refine kB ?_))
 have k3':nth σ3 σ2.length=some (.arr c2 2 true true (vs SL ([(m,0)]++[]))):=k3
 have AdQ:lo≤σ2.length:=Nat.le_trans h.ln b4.len
 have hR:=h.first hlo hm hid b1 b4 b5 b2 f3 AdQ (fun hc=>Nat.lt_irrefl _ (b3 _ hc)) k3'
 have hR1:(Ld s m []).vis m:=.inr rfl
 have hR2:∀v,s.vis v→(Ld s m []).vis v:=fun v hv=>.inl hv
 clear k3 k3' f3 b1 b2 b3 b4 b5 l3
 refine Au (fun μ env st=>∃(σ1:List Obj) (c1:Nat) (s1:TJ) (L:List (Int×Nat)) (AaU Zn:List (Int×Int)) (AdR:AV) (XA:List (Int×Bool)) (AaV:List (Int×Int)) (pt gt n:Nat) (J:List (Int×Nat)),μ=wA B ids AaU L∧n=L.length∧VR G (Px CV) cn nx ids lo σ0 σ1 s1 L AaU Zn AdR XA AaV pt gt J∧s1.vis m∧(∀ v,s.vis v→s1.vis v)∧env=[(0,.ref 6 G.f 0 0),(4,.own pt gt 0 n)]∧st=⟨σ1,c1⟩) ?_ _ _ _ ⟨_,_,_,_,_,_,_,_,_,_,_,_,_,rfl,rfl,hR,hR1,hR2,rfl,rfl⟩
 clear hR hR1 hR2 h hix hm hid AdQ
 rintro _ _ _ ⟨σ1,c1,s1,L,AaU,Zn,AdR,XA,AaV,pt,gt,n,J,rfl,hn,hR,hv1,hv2,rfl,rfl⟩
 refine⟨rfl,?_⟩
 have htd:=hR.td
 obtain⟨hSl,hLl⟩:=hR.len hnd
 rcases List.eq_nil_or_concat L with rfl|⟨L0,⟨t,k⟩,hLe⟩
 ·have hn0:n=0:=hn
  (conv=>whnf);repeat' (first  |(refine kA ?_;conv=>whnf)|(refine Br.mk (fun hc=>?_) fun hc=>?_<;>first|exact hc.elim|conv=>whnf)|(refine kB ?_))
  all_goals first
   |(exfalso;omega)
   |exact⟨_,_,_,_,_,_,_,_,rfl,rfl,hR.done (L:=[]),hv1,hv2⟩
 rw[List.concat_eq_append]at hLe
 subst hLe
 have hn1:n=L0.length+1:=by rw[hn];simp
 have hT:s1.T=(t,k)::L0.reverse:=by rw[hR.sT];simp
 have htT:(t,k)∈s1.T:=by rw[hT];simp
 have V6:=hR.tj.tS _ htT
 have htv:=hR.tj.sV _ V6
 have hkl:=(hR.tj.tA _ htT).1
 have hlow:=hR.tj.lo t V6
 have hBt:=hB t
 obtain⟨W,hW⟩:∃W,W=vs SL (L0++[(t,k)]++J):=⟨_,rfl⟩
 rw[← hW]at htd
 have hw1:∀j,j=L0.length→nth W j=some (SL (t,k)):=fun j hj=>by rw[hW,hj,Am,vs,List.getElem?_map];simp
 have hlt:=hR.ab.low t htv
 have hit:=hR.ab.ix t htv
 have hp:=hR.tp
 dsimp only at V6 htv hkl hlow
 have hlow1:=hlow.1
 have hS:=hR.hs
 by_cases hk:k=(nx t).length
 case neg=>
  rcases hnx t with⟨hn0,hnil⟩|⟨o,g,hno,hoo,ho6,hol⟩
  ·rw[hnil]at hk hkl
   exact absurd (Nat.le_zero.1 hkl) hk
  have hkl2:k<(nx t).length:=by omega
  have Qy:nth σ1 o=some (.arr g 1 true true (vs (.int .i64) (nx t))):=(hR.fl o (.inr ho6) hol).trans hoo
  have hwk:(nx t)[k]?=some (nx t)[k]:=List.getElem?_eq_getElem hkl2
  obtain⟨X,hX⟩:∃X,X=vs (.int .i64) (nx t):=⟨_,rfl⟩
  rw[← hX]at Qy
  have hwn:∀j,j=k→nth X j=some (.int .i64 (nx t)[k]):=fun j hj=>by rw[hX,hj];exact nV hkl2
  have hwi:=hcl t _ (List.getElem_mem hkl2)
  generalize (nx t)[k]=w at hwk hwi hwn
  have hset:W.set (Int.toNat ((n:Int)-1)) (Bv (SL (t,k)) (0+1) (.int .i64 ((k:Int)+1)))=vs SL (L0++[(t,k+1)]++J):=by
   have e:Int.toNat ((n:Int)-1)=L0.length:=by omega
   rw[e,hW]
   show(vs SL (L0++[(t,k)]++J)).set L0.length (SL (t,k+1))=_
   simp[vs]
  by_cases hv:s1.vis w
  ·have hwx:=hR.ab.ix w hv
   by_cases hwS:w∈s1.S
   ·have hon:=hR.ab.on w hwS
    obtain⟨W',hW'⟩:∃W',W'=vs SL (L0++[(t,k+1)]++J):=⟨_,rfl⟩
    rw[← hW']at hset
    have hw3:∀j,j=L0.length→nth W' j=some (SL (t,k+1)):=fun j hj=>by rw[hW',hj,Am,vs,List.getElem?_map];simp
    (conv=>whnf);repeat' (first|(rw [htd];conv=>whnf)|(rw [hS.h6];conv=>whnf)|(rw [hS.h1];conv=>whnf)|(rw [hS.h2];conv=>whnf)|(rw [hS.h3];conv=>whnf)|(rw [hS.h4];conv=>whnf)|(rw [Qy];conv=>whnf)|(refine Az (hw1 _ (by omega)) ?_;conv=>whnf)|(refine Az (hw3 _ (by omega)) ?_;conv=>whnf)|(refine fkA hno (fun _=>?_);conv=>whnf)|(refine Az (hwn _ (by omega)) ?_;conv=>whnf)|(refine EU hset ?_;conv=>whnf)|(refine Iw htd fun σ1 fA htd l=>?_;have hS:=hS.keep fA (by simp;omega);have Qy:=fA.get Qy (by simp;omega);conv=>whnf)|(refine Rt hwx (fun _=>?_);conv=>whnf)|(refine Rt hlt (fun _=>?_);conv=>whnf)|(refine Ae9 hon (fun _=>?_);conv=>whnf)|(refine Yc ?_;conv=>whnf)|(refine hS.UF fun σ1 hS fB l=>?_;conv=>whnf)|(refine kA ?_;conv=>whnf)|(refine Br.mk (fun hc=>?_) fun hc=>?_<;>first|exact hc.elim|conv=>whnf)|(refine kB ?_))
    all_goals first
     |(exfalso;omega)
     |exact again.mk ⟨_,Y2 (by omega),_,_,_,_,_,_,_,_,_,_,_,_,_,rfl,by simp;omega,hR.see hlo hwk hv hwS (by split<;>omega) fA (hW'▸htd) hS fB,hv1,hv2,rfl,rfl⟩
   ·have hon:=hR.ab.on0 w hwS
    (conv=>whnf);repeat' (first|(rw [htd];conv=>whnf)|(rw [hS.h6];conv=>whnf)|(rw [hS.h1];conv=>whnf)|(rw [hS.h2];conv=>whnf)|(rw [hS.h3];conv=>whnf)|(rw [hS.h4];conv=>whnf)|(rw [Qy];conv=>whnf)|(refine Az (hw1 _ (by omega)) ?_;conv=>whnf)|(refine fkA hno (fun _=>?_);conv=>whnf)|(refine Az (hwn _ (by omega)) ?_;conv=>whnf)|(refine EU hset ?_;conv=>whnf)|(refine Iw htd fun σ1 fA htd l=>?_;have hS:=hS.keep fA (by simp;omega);have Qy:=fA.get Qy (by simp;omega);conv=>whnf)|(refine Rt hwx (fun _=>?_);conv=>whnf)|(refine Afb hon ?_;conv=>whnf)|(refine kA ?_;conv=>whnf)|(refine Br.mk (fun hc=>?_) fun hc=>?_<;>first|exact hc.elim|conv=>whnf)|(refine kB ?_))
    all_goals first
     |(exfalso;omega)
     |exact again.mk ⟨_,Y2 (by omega),_,_,_,_,_,_,_,_,_,_,_,_,_,rfl,by simp;omega,hR.AeU hlo hwk hv hwS fA htd,hv1,hv2,rfl,rfl⟩
  ·have hwx:=hR.ab.Z9 w hv
   rcases hR.sk with⟨_,hnil⟩|⟨qs,gs,Js,hq1,rfl,hq2⟩
   ·rw[hnil]at V6;cases V6
   have hqp:qs≠pt:=fun e=>hp.2 (by simp[AV.obj,e])
   (conv=>whnf);repeat' (first|(rw [htd];conv=>whnf)|(rw [hS.h6];conv=>whnf)|(rw [hS.h1];conv=>whnf)|(rw [hS.h2];conv=>whnf)|(rw [hS.h3];conv=>whnf)|(rw [hS.h4];conv=>whnf)|(rw [Qy];conv=>whnf)|(refine Az (hw1 _ (by omega)) ?_;conv=>whnf)|(refine fkA hno (fun _=>?_);conv=>whnf)|(refine Az (hwn _ (by omega)) ?_;conv=>whnf)|(refine EU hset ?_;conv=>whnf)|(refine Iw htd fun σ1 fA htd l=>?_;have hS:=hS.keep fA (by simp;omega);have Qy:=fA.get Qy (by simp;omega);have hq2:=fA.get hq2 (by simpa using hqp);conv=>whnf)|(refine fkZ hwx ?_;conv=>whnf)|(refine (Adk (S:=s1.S) (J:=Js) hS rfl hwx (by omega) hq2 (by omega)).mono ?_;rintro _ _ ⟨σ2,c2,g2,rfl,rfl,hS2,hq3,f2⟩;have Qz:=f2.get htd (by simp;omega);conv=>whnf)|(rw [Qz];conv=>whnf)|(refine apJ (f:=SL) (S:=L0++[(t,k+1)]) (J:=J) (m:=(w,0)) AaM (by simp;omega) (by simp at hLl ⊢;omega) ?_;conv=>whnf)|(refine Iw Qz fun σ3 f3 Afg l=>?_;conv=>whnf)|(refine kA ?_;conv=>whnf)|(refine Br.mk (fun hc=>?_) fun hc=>?_<;>first|exact hc.elim|conv=>whnf)|(refine kB ?_))
   all_goals first
        |(exfalso;omega)
        |exact again.mk ⟨_,Y3 (by omega) hwi hwx,_,_,_,_,_,_,_,_,_,_,_,_,_,rfl,by simp,hR.enter hlo hwk hv hwi fA hS2 f2 (.inr ⟨qs,g2,[],hq1,by simp,by rw[List.append_nil];exact hq3⟩) (fun hc=>hqp (by simp only[AV.obj,List.mem_singleton]at hc;exact hc.symm)) (fun o ho=>by simp only[AV.obj,List.mem_singleton]at ho;subst ho;exact hq1) f3 Afg,.inl hv1,fun v hv=>.inl (hv2 v hv),rfl,rfl⟩
 case pos=>
  subst hk
  obtain⟨hk0,hk1⟩:((nx t).length:Int)=((nx t).length:Nat)∧True:=⟨rfl,trivial⟩
  rcases Nat.lt_or_ge (s1.low t) (s1.ix t)with hl|hl
  ·have hne:L0≠[]:=by
        rintro rfl
        obtain⟨w,hw,e,_⟩:=hlow.2
        obtain⟨p,hp,hle⟩:=hR.tj.rt w hw
        rw[hT]at hp
        simp only[List.reverse_nil,List.mem_singleton]at hp
        subst hp
        dsimp only at hle
        omega
   obtain⟨L1,⟨u,ku⟩,rfl⟩:∃L1 p,L0=L1++[p]:=⟨_,_,(List.dropLast_concat_getLast hne).symm⟩
   have hTu:((u,ku):Int×Nat)∈s1.T:=by rw[hT];simp
   have hlu:=hR.ab.low u (hR.tj.sV _ (hR.tj.tS _ hTu))
   have hw2:∀j,j=L1.length→nth W j=some (SL (u,ku)):=fun j hj=>by rw[hW,hj,Am,vs,List.getElem?_map];simp
   have hL1:(L1++[(u,ku)]).length=L1.length+1:=by simp
   have hlv:=Acp (c:=c1) hS hlt hit (by omega)
   rcases hnx t with⟨hno,hnil⟩|⟨o,g,hno,hoo,ho6,hol⟩
   ·have h0:(nx t).length=0:=by rw[hnil];rfl
    (conv=>whnf);repeat' (first|(rw [htd];conv=>whnf)|(rw [hS.h6];conv=>whnf)|(rw [hS.h1];conv=>whnf)|(rw [hS.h3];conv=>whnf)|(refine Az (hw1 _ (by omega)) ?_;conv=>whnf)|(refine Az (hw2 _ (by omega)) ?_;conv=>whnf)|(refine AaT hno ?_;conv=>whnf)|(refine hlv.mono ?_;rintro _ _ ⟨c2,rfl,rfl⟩;refine BH (JZ rfl) ?_;conv=>whnf)|(refine Rt hlt (fun _=>?_);conv=>whnf)|(refine Rt hlu (fun _=>?_);conv=>whnf)|(refine Yc ?_;conv=>whnf)|(refine hS.UF fun σ2 hS fB l=>?_;conv=>whnf)|(refine kA ?_;conv=>whnf)|(refine Br.mk (fun hc=>?_) fun hc=>?_<;>first|exact hc.elim|conv=>whnf)|(refine kB ?_))
    all_goals first
     |(exfalso;omega)
     |exact again.mk ⟨_,NK (by omega),_,_,_,_,_,_,_,_,_,_,_,_,_,rfl,by simp;omega,hR.stay hlo hl (by split<;>omega) hS fB,hv1,hv2,rfl,rfl⟩
   ·(conv=>whnf);repeat' (first|(rw [htd];conv=>whnf)|(rw [hS.h6];conv=>whnf)|(rw [hS.h1];conv=>whnf)|(rw [hS.h3];conv=>whnf)|(refine Az (hw1 _ (by omega)) ?_;conv=>whnf)|(refine Az (hw2 _ (by omega)) ?_;conv=>whnf)|(refine fkA hno (fun _=>?_);conv=>whnf)|(refine hlv.mono ?_;rintro _ _ ⟨c2,rfl,rfl⟩;refine BH (JZ rfl) ?_;conv=>whnf)|(refine Rt hlt (fun _=>?_);conv=>whnf)|(refine Rt hlu (fun _=>?_);conv=>whnf)|(refine Yc ?_;conv=>whnf)|(refine hS.UF fun σ2 hS fB l=>?_;conv=>whnf)|(refine kA ?_;conv=>whnf)|(refine Br.mk (fun hc=>?_) fun hc=>?_<;>first|exact hc.elim|conv=>whnf)|(refine kB ?_))
    all_goals first
     |(exfalso;omega)
     |exact again.mk ⟨_,NK (by omega),_,_,_,_,_,_,_,_,_,_,_,_,_,rfl,by simp;omega,hR.stay hlo hl (by split<;>omega) hS fB,hv1,hv2,rfl,rfl⟩
  ·have hl:s1.low t=s1.ix t:=by omega
   obtain⟨S0,C0,hSS⟩:=List.append_of_mem V6
   have Afi:t∉S0:=fun hc=>by
        have hsI:=hR.tj.sI
        rw[hSS,List.pairwise_append]at hsI
        exact Nat.lt_irrefl _ (hsI.2.2 t hc t (by simp))
   rcases hR.sk with⟨_,hnil⟩|⟨qs,gs,Js,hq1,rfl,hq2⟩
   ·rw[hnil]at V6;cases V6
   have hqp:qs≠pt:=fun e=>hp.2 (by simp[AV.obj,e])
   rw[hl]at hlt
   have Afj:s1.S.length=(S0++t::C0).length:=by rw[hSS]
   have hlv:=Acr (c:=c1) (a0:=S0.length) (J:=Js) hS hlt hit (by rw[hq2,hSS]) (by omega) rfl Afj (by omega) Afi hR.ab.onN
   have hT0:∀σ' c',σ'.length=σ1.length→compact σ1.length (.E5 []) ⟨σ',c'⟩=some (.E5 [],⟨σ',c'⟩):=fun σ' c' h=>JZ h
   have Afk:∀{σ':List Obj},G7 σ1 σ' [4,5,6]→Stk lo σ' (.own qs gs 0 S0.length) S0:=fun f=>.inr ⟨qs,gs,t::C0++Js,hq1,rfl,by rw[f.get hq2 (by simp;omega),hSS,List.append_assoc]⟩
   have hpop:=fun{σ' IJ KE x} (a:x∈t::C0) b c d e (f:HS G (Px CV) cn σ' AaU Zn (.own qs gs 0 S0.length) IJ KE) f'=>hR.pop hlo hl hSS a b c d e f f' (Afk f') (fun o ho=>ho)
   rcases List.eq_nil_or_concat L0 with rfl|⟨L1,⟨u,ku⟩,hLe⟩
   ·have hn1':n=1:=by simp at hn1;omega
    rcases hnx t with⟨hno,hnil⟩|⟨o,g,hno,hoo,ho6,hol⟩
    ·have h0:(nx t).length=0:=by rw[hnil];rfl
     (conv=>whnf);repeat' (first|(rw [htd];conv=>whnf)|(rw [hS.h6];conv=>whnf)|(rw [hS.h1];conv=>whnf)|(rw [hS.h3];conv=>whnf)|(refine Az (hw1 _ (by simp;omega)) ?_;conv=>whnf)|(refine AaT hno ?_;conv=>whnf)|(refine hlv.mono ?_;rintro _ _ ⟨σ2,c2,AaW,AaX,x,rfl,rfl,hx1,hx2,hS2,hk2,ho2,hs2,ff,fl⟩;refine BH (hT0 _ _ fl) ?_;have Qz:=ff.get htd (by simp;omega);conv=>whnf)|(rw [Qz];conv=>whnf)|(refine kA ?_;conv=>whnf)|(refine Br.mk (fun hc=>?_) fun hc=>?_<;>first|exact hc.elim|conv=>whnf)|(refine kB ?_))
     all_goals first
      |(exfalso;omega)
      |(exfalso;simp at *;omega)
      |exact again.mk ⟨_,NK (by omega),_,_,_,_,_,_,_,_,_,_,_,_,_,rfl,by simp;omega,hpop hx1 hx2 hk2 ho2 hs2 hS2 ff,hv1,hv2,rfl,rfl⟩
    ·(conv=>whnf);repeat' (first|(rw [htd];conv=>whnf)|(rw [hS.h6];conv=>whnf)|(rw [hS.h1];conv=>whnf)|(rw [hS.h3];conv=>whnf)|(refine Az (hw1 _ (by simp;omega)) ?_;conv=>whnf)|(refine fkA hno (fun _=>?_);conv=>whnf)|(refine hlv.mono ?_;rintro _ _ ⟨σ2,c2,AaW,AaX,x,rfl,rfl,hx1,hx2,hS2,hk2,ho2,hs2,ff,fl⟩;refine BH (hT0 _ _ fl) ?_;have Qz:=ff.get htd (by simp;omega);conv=>whnf)|(rw [Qz];conv=>whnf)|(refine kA ?_;conv=>whnf)|(refine Br.mk (fun hc=>?_) fun hc=>?_<;>first|exact hc.elim|conv=>whnf)|(refine kB ?_))
     all_goals first
      |(exfalso;omega)
      |(exfalso;simp at *;omega)
      |exact again.mk ⟨_,NK (by omega),_,_,_,_,_,_,_,_,_,_,_,_,_,rfl,by simp;omega,hpop hx1 hx2 hk2 ho2 hs2 hS2 ff,hv1,hv2,rfl,rfl⟩
   ·rw[List.concat_eq_append]at hLe
    subst hLe
    have hTu:((u,ku):Int×Nat)∈s1.T:=by rw[hT];simp
    have hlu:=hR.ab.low u (hR.tj.sV _ (hR.tj.tS _ hTu))
    have hw2:∀j,j=L1.length→nth W j=some (SL (u,ku)):=fun j hj=>by rw[hW,hj,Am,vs,List.getElem?_map];simp
    have hL1:(L1++[(u,ku)]).length=L1.length+1:=by simp
    have hlow2:min (s1.low u) (s1.low t)=s1.low u:=hR.tj.AaY (u:=(u,ku)) (k:=(nx t).length) (T1:=L1.reverse) (by rw[hT];simp) hl
    rcases hnx t with⟨hno,hnil⟩|⟨o,g,hno,hoo,ho6,hol⟩
    ·have h0:(nx t).length=0:=by rw[hnil];rfl
     (conv=>whnf);repeat' (first|(rw [htd];conv=>whnf)|(rw [hS.h6];conv=>whnf)|(rw [hS.h1];conv=>whnf)|(rw [hS.h3];conv=>whnf)|(refine Az (hw1 _ (by omega)) ?_;conv=>whnf)|(refine Az (hw2 _ (by omega)) ?_;conv=>whnf)|(refine AaT hno ?_;conv=>whnf)|(refine hlv.mono ?_;rintro _ _ ⟨σ2,c2,AaW,AaX,x,rfl,rfl,hx1,hx2,hS2,hk2,ho2,hs2,ff,fl⟩;refine BH (hT0 _ _ fl) ?_;have Qz:=ff.get htd (by simp;omega);conv=>whnf)|(rw [Qz];conv=>whnf)|(rw [hS2.h6];conv=>whnf)|(rw [hS2.h3];conv=>whnf)|(refine Rt hlt (fun _=>?_);conv=>whnf)|(refine Rt hlu (fun _=>?_);conv=>whnf)|(refine Yc ?_;conv=>whnf)|(refine hS2.UF fun σ3 hS3 fB l=>?_;conv=>whnf)|(refine kA ?_;conv=>whnf)|(refine Br.mk (fun hc=>?_) fun hc=>?_<;>first|exact hc.elim|conv=>whnf)|(refine kB ?_))
     all_goals first
       |(exfalso;omega)
       |exact again.mk ⟨_,NK (by omega),_,_,_,_,_,_,_,_,_,_,_,_,_,rfl,by simp;omega,(hpop hx1 hx2 hk2 ho2 hs2 hS2 ff).up hlo (by show _=((s1.low u:Nat):Int);split<;>omega) hS3 fB,hv1,hv2,rfl,rfl⟩
    ·(conv=>whnf);repeat' (first|(rw [htd];conv=>whnf)|(rw [hS.h6];conv=>whnf)|(rw [hS.h1];conv=>whnf)|(rw [hS.h3];conv=>whnf)|(refine Az (hw1 _ (by omega)) ?_;conv=>whnf)|(refine Az (hw2 _ (by omega)) ?_;conv=>whnf)|(refine fkA hno (fun _=>?_);conv=>whnf)|(refine hlv.mono ?_;rintro _ _ ⟨σ2,c2,AaW,AaX,x,rfl,rfl,hx1,hx2,hS2,hk2,ho2,hs2,ff,fl⟩;refine BH (hT0 _ _ fl) ?_;have Qz:=ff.get htd (by simp;omega);conv=>whnf)|(rw [Qz];conv=>whnf)|(rw [hS2.h6];conv=>whnf)|(rw [hS2.h3];conv=>whnf)|(refine Rt hlt (fun _=>?_);conv=>whnf)|(refine Rt hlu (fun _=>?_);conv=>whnf)|(refine Yc ?_;conv=>whnf)|(refine hS2.UF fun σ3 hS3 fB l=>?_;conv=>whnf)|(refine kA ?_;conv=>whnf)|(refine Br.mk (fun hc=>?_) fun hc=>?_<;>first|exact hc.elim|conv=>whnf)|(refine kB ?_))
     all_goals first
       |(exfalso;omega)
       |exact again.mk ⟨_,NK (by omega),_,_,_,_,_,_,_,_,_,_,_,_,_,rfl,by simp;omega,(hpop hx1 hx2 hk2 ho2 hs2 hS2 ff).up hlo (by show _=((s1.low u:Nat):Int);split<;>omega) hS3 fB,hv1,hv2,rfl,rfl⟩
end
theorem TF {es:List (Int×Int)} {u w v:Int}:JD (es++[(u,w)]) v=if v=u then JD es v++[w]else JD es v:=by
 unfold JD
 rw[List.filter_append,List.map_append]
 by_cases h:v=u
 ·subst h;simp
 ·rw[if_neg h];simp[show ¬u=v from fun e=>h e.symm]
theorem JO {o g:Nat}:FU (.map o g) (.map o g)=true:=by simp[FU]
section
variable {G:GS} {CV Adi:List (AV×AV)} {cn cn':Bool} {σ:List Obj} {BD Ba Dn:List (Int×Int)} {Di:List (Int×Bool)} {stk:AV}
theorem HS.Adj {K:List Obj→Prop} (h:HS G CV cn σ BD Ba stk Di Dn) (hK:∀σ',HS G Adi cn' σ' BD Ba stk Di Dn→G7 σ σ' [1]→σ'.length=σ.length→K σ'):I4 σ 1 (.mp G.a cn' Adi) K:=
 Iw h.h1 fun σ' f k l=>hK σ' ⟨k,f.get h.h2 (by simp),f.get h.h3 (by simp),f.get h.h4 (by simp),f.get h.h5 (by simp),f.get h.h6 (by simp)⟩ f l
end
theorem Ab3 {M:List (Int×AV)} {k:Int} {v:AV} {K:List (AV×AV)→Prop} (h:K (Px (Bz M k v))):NV .int (.int .i64 k) v (Px M) K:=KT (fv:=id) EL h
structure VU (CV:List (Int×AV)) (σ:List Obj) (nx:Int→List Int):Prop where
 pt:∀v,(AZ CV v=none∧nx v=[])∨∃o g,AZ CV v=some (.own o g 0 (nx v).length)∧nth σ o=some (.arr g 1 true true (vs (.int .i64) (nx v)))∧6<o
 inj:∀v w o g h n m,AZ CV v=some (.own o g 0 n)→AZ CV w=some (.own o h 0 m)→v=w
section
variable {CV:List (Int×AV)} {σ σ':List Obj} {nx:Int→List Int} {es:List (Int×Int)} {u w:Int} {o g g' n:Nat} {F:List Nat}
theorem VU.start:VU [] σ (JD []):=⟨fun v=>.inl ⟨rfl,rfl⟩,fun v w o g h n m e=>by cases e⟩
theorem VU.keep (h:VU CV σ nx) (f:G7 σ σ' F) (hF:∀o∈F,o≤6∨σ.length≤o):VU CV σ' nx:=
 ⟨fun v=>(h.pt v).imp_right fun⟨o,g,a,b,c⟩=>⟨o,g,a,f.get b (fun hm=>by have:=hF o hm;have:=CU b;omega),c⟩,h.inj⟩
theorem VU.toS (h:VU CV σ nx):NxS CV σ σ.length nx:=fun v=>(h.pt v).imp_right fun⟨o,g,a,b,c⟩=>⟨o,g,a,b,c,CU b⟩
theorem VU.new (h:VU CV σ (JD es)) (hu:AZ CV u=none) (f:G7 σ σ' F) (hF:∀o∈F,o≤6∨σ.length≤o) (ho:σ.length≤o) (h6:6<o) (hq:nth σ' o=some (.arr g 1 true true (vs (.int .i64) [w]))):VU (Bz CV u (.own o g 0 1)) σ' (JD (es++[(u,w)])):=by
 have hn:JD es u=[]:=by
  rcases h.pt u with⟨_,e⟩|⟨_,_,e,_⟩
  ·exact e
  ·rw[hu]at e;cases e
 have hold:∀v o' g' n,AZ CV v=some (.own o' g' 0 n)→o'<σ.length:=fun v o' g' n e=>by
  rcases h.pt v with⟨e',_⟩|⟨_,_,e',hn,_⟩
  ·rw[e]at e';cases e'
  ·rw[e]at e';cases e';exact CU hn
 refine⟨fun v=>?_,fun v v' o' g' h' n m e e'=>?_⟩
 ·rw[Cj,TF]
  by_cases hv:v=u
  ·subst hv;rw[if_pos rfl,if_pos rfl,hn];exact .inr ⟨o,g,rfl,hq,h6⟩
  ·rw[if_neg hv,if_neg hv];exact(h.keep f hF).pt v
 ·rw[Cj]at e e'
  by_cases hv:v=u
  ·by_cases hv':v'=u
   ·rw[hv,hv']
   ·rw[if_pos hv]at e;rw[if_neg hv']at e';have:=hold _ _ _ _ e';cases e;omega
  ·by_cases hv':v'=u
   ·rw[if_neg hv]at e;rw[if_pos hv']at e';have:=hold _ _ _ _ e;cases e';omega
   ·rw[if_neg hv]at e;rw[if_neg hv']at e';exact h.inj _ _ _ _ _ _ _ e e'
theorem VU.more {n0:Nat} (h:VU CV σ (JD es)) (hu:AZ CV u=some (.own o g 0 n0)) (f:G7 σ σ' F) (hF:∀p∈F,p≤6∨σ.length≤p∨p=o) (h6:6<o) (hq:nth σ' o=some (.arr g' 1 true true (vs (.int .i64) (JD es u++[w])))) (hn:n=(JD es u).length+1):VU (Bz CV u (.own o g' 0 n)) σ' (JD (es++[(u,w)])):=by
 subst hn
 refine⟨fun v=>?_,fun v v' o' g' h' n m e e'=>?_⟩
 ·rw[Cj,TF]
  by_cases hv:v=u
  ·subst hv;rw[if_pos rfl,if_pos rfl];exact .inr ⟨o,g',by simp,hq,h6⟩
  ·rw[if_neg hv,if_neg hv]
   refine(h.pt v).imp_right fun⟨o',g',a,b,c⟩=>⟨o',g',a,f.get b fun hm=>?_,c⟩
   have:=CU b
   rcases hF o' hm with k|k|k
   ·omega
   ·omega
   ·subst k;exact hv (h.inj _ _ _ _ _ _ _ a hu)
 ·rw[Cj]at e e'
  by_cases hv:v=u
  ·by_cases hv':v'=u
   ·rw[hv,hv']
   ·rw[if_pos hv]at e;rw[if_neg hv']at e';cases e;exact absurd (h.inj _ _ _ _ _ _ _ e' hu) hv'
  ·by_cases hv':v'=u
   ·rw[if_neg hv]at e;rw[if_pos hv']at e';cases e';exact absurd (h.inj _ _ _ _ _ _ _ e hu) hv
   ·rw[if_neg hv]at e;rw[if_neg hv']at e';exact h.inj _ _ _ _ _ _ _ e e'
end
def jnB (A B x:Int):Int:=if x=A∨x=B then OC A B else x
theorem AbD {A B x:Int} (h:x=A∨x=B):jnB A B x=OC A B:=if_pos h
theorem min_self (A:Int):OC A A=A:=by unfold OC;split<;>omega
theorem min_comm (A B:Int):OC A B=OC B A:=by unfold OC;split<;>split<;>omega
theorem Aa0 (u v w:Int):jnB u v w=jnB v u w:=by
 unfold jnB
 rw[min_comm u v]
 by_cases h:w=u∨w=v
 ·rw[if_pos h,if_pos h.symm]
 ·rw[if_neg h,if_neg fun k=>h k.symm]
def Si (r:Int→Int) (e:Int×Int):Int→Int:=fun c=>jnB (r e.1) (r e.2) (r c)
theorem Zr (x y a b:Int):(Fp x y (a,b)).2=jnB x y b:=by
 unfold Fp jnB
 by_cases h:b=x∨b=y
 ·rw[if_pos h,if_pos h]
 ·rw[if_neg h,if_neg h]
theorem QY {S:List Int}:∀(es:List (Int×Int)) (r:Int→Int),(∀ e∈es,e.1∈S∧e.2∈S)→es.foldl (fun l e=>Ub l e.1 e.2) (AQ S r)=AQ S (es.foldl Si r)
 |[],_,_=>rfl
 |e::es,r,h=>by
  obtain⟨h1,h2⟩:=h e (by simp)
  rw[List.foldl_cons,List.foldl_cons,Me h1 h2,←QY es _ fun x hx=>h x (List.mem_cons_of_mem _ hx)]
  congr 2
  funext c
  exact Zr ..
def KG (es:List (Int×Int)):Int→Int:=es.foldl Si fun x=>x
theorem PZ {S:List Int} {es:List (Int×Int)} (h:∀x∈es,x.1∈S∧x.2∈S):JQ S es=AQ S (KG es):=QY es _ h
theorem Ad2 (A B x:Int):jnB A B x≤x:=by
 unfold jnB OC
 split<;>(try split)<;>omega
theorem WH:∀(es:List (Int×Int)) (r:Int→Int) (x:Int),es.foldl Si r x≤r x
 |[],_,_=>Int.le_refl _
 |e::es,r,x=>Int.le_trans (WH es (Si r e) x) (Ad2 _ _ _)
theorem Aa7 (es:List (Int×Int)) (x:Int):KG es x≤x:=WH es _ x
theorem fold_eq:∀(es:List (Int×Int)) (r:Int→Int) {x y:Int},r x=r y→es.foldl Si r x=es.foldl Si r y
 |[],_,_,_,h=>h
 |e::es,r,x,y,h=>fold_eq es (Si r e) (by unfold Si;rw[h])
theorem Ri:∀(es:List (Int×Int)) (r:Int→Int) {e:Int×Int},e∈es→es.foldl Si r e.1=es.foldl Si r e.2
 |e::es,r,f,h=>by
  rcases List.mem_cons.1 h with rfl|h
  ·refine fold_eq es (Si r f) ?_
   unfold Si
   rw[AbD (.inl rfl),AbD (.inr rfl)]
  ·exact Ri es (Si r e) h
theorem XQ {es:List (Int×Int)} {e:Int×Int} (h:e∈es):KG es e.1=KG es e.2:=Ri es _ h
theorem VG {es:List (Int×Int)} {a b:Int} (h:IY (JD es) a b):KG es a=KG es b:=by
 induction h with
 |refl=>rfl
 |step _ hc ih=>exact ih.trans (XQ (Jo.1 hc))
theorem Vo {es:List (Int×Int)} {a x:Int} (h:Least (JD es) a x):KG es x=KG es a∧x≤a∧KG es a≤x:=by
 have e:=VG h.1
 exact⟨e.symm,h.2.2 a .refl .refl,by rw[e];exact Aa7 es x⟩
def KF (es:List (Int×Int)):List (Int×Int):=es.map fun e=>(e.2,e.1)
theorem Aa8 (r:Int→Int) (e:Int×Int):Si r (e.2,e.1)=Si r e:=funext fun c=>Aa0 ..
theorem Us:∀(es:List (Int×Int)) (r:Int→Int),(KF es).foldl Si r=es.foldl Si r
 |[],_=>rfl
 |e::es,r=>by
  show(KF es).foldl Si (Si r (e.2,e.1))=_
  rw[Aa8,Us es]
  rfl
theorem ZT (es:List (Int×Int)):KG (KF es)=KG es:=Us es _
theorem Zu {S:List Int} {es:List (Int×Int)} (h:∀x∈es,x.1∈S∧x.2∈S):JQ S (KF es)=JQ S es:=by
 rw[PZ h,PZ (fun x hx=>by
  obtain⟨e,he,rfl⟩:=List.mem_map.1 hx
  exact⟨(h e he).2,(h e he).1⟩),ZT]
theorem ZU {es:List (Int×Int)} {a b:Int}:(a,b)∈KF es↔(b,a)∈es:=by
 unfold KF
 rw[List.mem_map]
 constructor
 ·rintro⟨e,he,h⟩
  cases h
  exact he
 ·intro h
  exact⟨(b,a),h,rfl⟩
theorem Rj {es:List (Int×Int)} {a b:Int} (h:IY (JD es) a b):IY (JD (KF es)) b a:=by
 induction h with
 |refl=>exact .refl
 |step _ hc ih=>exact(IY.one (Jo.2 (ZU.2 (Jo.1 hc)))).trans ih
theorem rev_rev (es:List (Int×Int)):KF (KF es)=es:=by
 unfold KF
 rw[List.map_map]
 exact List.map_id'' (fun _=>rfl) es
theorem FZ {es:List (Int×Int)} {a b:Int}:IY (JD (KF es)) a b↔IY (JD es) b a:=
 ⟨fun h=>by have:=Rj h;rwa [rev_rev]at this,Rj⟩
theorem XF {es:List (Int×Int)} {a x:Int} (h:Least (JD es) a x):Least (JD (KF es)) a x:=
 ⟨FZ.2 h.2.1,FZ.2 h.1,fun u h1 h2=>h.2.2 u (FZ.1 h2) (FZ.1 h1)⟩
structure Gf (S:List Int) (es:List (Int×Int)) (l:List (Int×Int)):Prop where
 nm:l.map (·.1)=S
 ls:∀p∈l,Least (JD es) p.1 p.2
theorem Gf.uniq {S:List Int} {es:List (Int×Int)} {l m:List (Int×Int)} (h:Gf S es l) (k:Gf S es m):l=m:=by
 have hl:l.length=m.length:=by
  have:=congrArg List.length (h.nm.trans k.nm.symm)
  simpa using this
 apply List.ext_getElem hl
 intro i h1 h2
 have e:(l[i]).1=(m[i]).1:=by
  have e1:(l.map (·.1))[i]'(by simpa using h1)=(m.map (·.1))[i]'(by simpa using h2):=by
   have:=h.nm.trans k.nm.symm
   simp only[this]
  simpa using e1
 have a:=h.ls _ (List.getElem_mem h1)
 have b:=k.ls _ (List.getElem_mem h2)
 rw[e]at a
 exact Prod.ext e (a.uniq b)
section
variable {G:GS} {CV:List (AV×AV)} {cn:Bool} {nx:Int→List Int} {ids:List Int} {lo:Nat} {σ0 σ σ':List Obj} {s:TJ} {BD Ba Dn:List (Int×Int)} {stk:AV} {Di:List (Int×Bool)} {F:List Nat}
theorem VE.keep (h:VE G CV cn nx ids lo σ0 σ s BD Ba stk Di Dn) (hlo:6<lo) (f:G7 σ σ' F) (hF:∀o∈F,σ.length≤o):VE G CV cn nx ids lo σ0 σ' s BD Ba stk Di Dn:=by
 have hn:=h.ln
 refine⟨h.hs.keep f (fun o ho=>by have:=hF o ho;omega),fun o ho hl=>(f.eq o (by omega) (fun hm=>by have:=hF o hm;omega)).trans (h.fl o ho hl),Nat.le_trans hn f.len,h.ab,h.tj,h.sT,h.sS,?_,h.vi⟩
 refine h.sk.keep f fun o ho=>?_
 rcases h.sk with⟨e,_⟩|⟨q,g,J,_,e,h2⟩
 ·right;rw[e];simp[AV.obj]
 ·right;rw[e];intro hc
  simp only[AV.obj,List.mem_singleton]at hc
  subst hc
  have:=CU h2;have:=hF o ho;omega
theorem VE.start (h:HS G CV cn σ [] [] (.sl false []) [] []) {ix low:Int→Nat} {sm:Int→Int}:VE G CV cn nx ids σ.length σ σ ⟨0,fun _=>False,ix,low,[],[],sm⟩ [] [] (.sl false []) [] []:=
 ⟨h,fun _ _ _=>rfl,Nat.le_refl _,.start,.none,rfl,rfl,.inl ⟨rfl,rfl⟩,fun _ h=>h.elim⟩
theorem VE.ixl (h:VE G CV cn nx ids lo σ0 σ s BD Ba stk Di Dn):BD.length≤ids.length:=by
 have:=Jl (R:=BD.map (·.1)) (W:=ids) (show (BD.map (·.1)).Nodup from h.ab.ixN) fun v hv=>h.vi v (Classical.byContradiction fun hc=>IK.1 (h.ab.Z9 v hc) hv)
 simpa using this
theorem VE.all (h:VE G CV cn nx ids lo σ0 σ s BD Ba stk Di Dn) {v:Int} (hv:s.vis v):∃x,AZ Dn v=some x∧Least nx v x:=
 ⟨s.sm v,h.ab.sm v hv (by rw[h.sS];simp),h.tj.ok v hv (by rw[h.sS];simp)⟩
end
theorem WR (es:List (Int×Int)) (v:Int):(JD es v).length≤es.length:=by
 unfold JD;rw[List.length_map];exact List.length_filter_le _ _
set_option maxHeartbeats 16000000 in
theorem Ws {types:List (List UInt8)} {tn:Bool} (hl:types.length<2^63) {g:GG} (hg:g.ok) (hN:g.nodes.length≤10000) (hE:g.edges.length≤10000):
 AX (Ag tab) 12 [g.av,.sl tn (vs .str types)] (fun v=>∃b l,v=.sl b (vs pv l)∧(BK g≠0→l=[])∧(BK g=0→Gf (BQ g) (Eh types g) l)):=by
 have pc:=UE hg
 by_cases hck:BK g=0
 case neg=>
  refine Ai rfl rfl ?_
  (conv=>whnf);repeat' (first|(refine Ae pc ?_;rintro _ rfl;conv=>whnf)|(refine kA ?_;conv=>whnf)|(refine Br.mk (fun hc=>?_) fun hc=>?_<;>first|exact hc.elim|conv=>whnf)|(refine kB ?_))
  all_goals first|exact absurd ‹_› hck|exact⟨false,[],rfl,fun _=>rfl,fun h=>absurd h hck⟩
 have Md:=Py hck
 have hnd:=YD hck
 have hil:=F9 g
 have hes:∀e∈Eh types g,e.1∈BQ g∧e.2∈BQ g:=fun e he=>by
  obtain⟨x,hx,rfl⟩:=List.mem_map.1 he
  exact Md x (List.mem_filter.1 hx).1
 have hEl:(Fh types g).length≤g.edges.length:=List.length_filter_le _ _
 have Aha:(Eh types g).length=(Fh types g).length:=by simp[Eh]
 obtain⟨_,⟨be,rfl⟩,pe⟩:=(YE (types:=types) (tn:=tn) hl hg (by omega)).UZ
 rw[hck]at pc
 refine Ai rfl rfl ?_
 (conv=>whnf);repeat' (first|((first|refine Ae pc ?_|refine Ae pe ?_);rintro _ rfl;conv=>whnf)|(refine kA ?_;conv=>whnf)|(refine Br.mk (fun hc=>?_) fun hc=>?_<;>first|exact hc.elim|conv=>whnf)|(refine kB ?_))
 all_goals first|(exfalso;omega)|skip
 refine Au (fun m env s=>∃(i c:Nat) (σ:List Obj) (CV:List (Int×AV)) (cn:Bool),m=(Fh types g).length-i∧i≤(Fh types g).length∧HS ⟨1,2,3,4,5,6⟩ (Px CV) cn σ [] [] (.sl false []) [] []∧nth σ 0=some (.arr 0 4 true true [g.av])∧VU CV σ (JD ((Eh types g).take i))∧env=[(2,.ref 0 0 0 0),(5,.ref 6 6 0 0),(27,.sl be (vs GE.av (Fh types g))),(28,.int .i64 (Fh types g).length),(29,.int .i64 i)]∧s=⟨σ,c⟩) ?_ _ _ _ ⟨0,_,_,[],_,rfl,by omega,⟨rfl,rfl,rfl,rfl,rfl,rfl⟩,rfl,.start,rfl,rfl⟩
 rintro _ _ _ ⟨i,c,σ,CV,cn,rfl,hi,hS,h00,hB,rfl,rfl⟩
 refine⟨rfl,?_⟩
 have h6l:=CU hS.h6
 by_cases hlt:i<(Fh types g).length
 ·have hEt:(Eh types g).take (i+1)=(Eh types g).take i++[(((Fh types g)[i]).fr,((Fh types g)[i]).to)]:=by
   rw[List.take_succ_eq_append_getElem (by omega)];simp[Eh]
  rcases hB.pt ((Fh types g)[i]).fr with⟨hno,hnil⟩|⟨o,gq,hno,hoq,ho6⟩
  ·(conv=>whnf);repeat' (first|(refine LG fun σ1 f1 k1 l1=>?_;have hS:=hS.keep f1 (by simp);conv=>whnf)|(rw [k1];conv=>whnf)|(refine Iw k1 fun σ2 f2 k1 l2=>?_;have hS:=hS.keep f2 (by simp;omega);conv=>whnf)|(rw [hS.h6];conv=>whnf)|(rw [hS.h1];conv=>whnf)|(refine AaT hno ?_;conv=>whnf)|(refine need.mk Ig ?_;conv=>whnf)|(refine need.mk JO ?_;conv=>whnf)|(refine Ab3 ?_;conv=>whnf)|(refine kA ?_;conv=>whnf)|(refine Br.mk (fun hc=>?_) fun hc=>?_<;>first|exact hc.elim|conv=>whnf)|(refine kB ?_))
   all_goals first|(exfalso;omega)|skip
   dsimp only[push,List.isEmpty_cons,List.length_singleton]
   obtain⟨σ3,hσ3⟩:∃σ3,σ3=σ2++[Obj.arr (c+1) 1 (!false) true [.int .i64 ((Fh types g)[i]).to]]:=⟨_,rfl⟩
   rw[← hσ3]
   have f3:G7 σ2 σ3 []:=by rw[hσ3];exact⟨by simp,fun o ho _=>OV ho⟩
   have q3:nth σ3 σ2.length=some (.arr (c+1) 1 true true (vs (.int .i64) [((Fh types g)[i]).to])):=by rw[hσ3];exact Nq
   replace hS:=hS.keep f3 (by simp)
   have k3:=f3.get k1 (by simp)
   have ff:=(f1.trans f2).trans f3
   have hne:σ.length≠σ2.length:=by rw[l2,l1];exact Nat.ne_of_lt (Nat.lt_succ_self _)
   have hge:σ.length≤σ2.length:=by rw[l2,l1];exact Nat.le_succ _
   have h6:6<σ2.length:=by omega
   conv=>whnf
   (conv=>whnf);repeat' (first|(rw [k3];conv=>whnf)|(rw [hS.h6];conv=>whnf)|(rw [hS.h1];conv=>whnf)|(refine need.mk Ig ?_;conv=>whnf)|(refine need.mk JO ?_;conv=>whnf)|(refine Ab3 ?_;conv=>whnf)|(refine hS.Adj fun σ4 hS4 f4 l4=>?_;have AcM:=f4.get (ff.get h00 (by simp;omega)) (by simp);have k4:=f4.get k3 (by simp;omega);conv=>whnf)|(rw [k4];conv=>whnf)|(rw [hS4.h6];conv=>whnf)|(refine kA ?_;conv=>whnf)|(refine Br.mk (fun hc=>?_) fun hc=>?_<;>first|exact hc.elim|conv=>whnf)|(refine kB ?_))
   all_goals first
        |(exfalso;omega)
        |exact again.mk ⟨_,by omega,i+1,_,_,_,_,rfl,by omega,hS4,AcM,(by rw[hEt];exact hB.new hno (ff.trans f4) (by simp) hge h6 (f4.get q3 (by simp;omega))),rfl,rfl⟩
  ·have hol:=CU hoq
   have hnl:(JD ((Eh types g).take i) ((Fh types g)[i]).fr).length≤10000:=Nat.le_trans (WR _ _) (by rw[List.length_take];omega)
   (conv=>whnf);repeat' (first|(refine LG fun σ1 f1 k1 l1=>?_;have hS:=hS.keep f1 (by simp);conv=>whnf)|(rw [k1];conv=>whnf)|(refine Iw k1 fun σ2 f2 k1 l2=>?_;have hS:=hS.keep f2 (by simp;omega);have hoq:=f2.get (f1.get hoq (by simp)) (by simp;omega);have ff:=f1.trans f2;conv=>whnf)|(rw [hoq];conv=>whnf)|(rw [hS.h6];conv=>whnf)|(rw [hS.h1];conv=>whnf)|(refine fkA hno (fun _=>?_);conv=>whnf)|(refine Aav (f:=.int .i64) (l:=JD ((Eh types g).take i) ((Fh types g)[i]).fr) (x:=((Fh types g)[i]).to) (fun _=>rfl) rfl (by omega) ?_;conv=>whnf)|(refine Iw hoq fun σ3 f3 hoq l3=>?_;have hS:=hS.keep f3 (by simp;omega);have k1:=f3.get k1 (by simp;omega);conv=>whnf)|(refine need.mk Ig ?_;conv=>whnf)|(refine need.mk JO ?_;conv=>whnf)|(refine Ab3 ?_;conv=>whnf)|(refine hS.Adj fun σ4 hS4 f4 l4=>?_;have AcM:=f4.get (f3.get (ff.get h00 (by simp;omega)) (by simp;omega)) (by simp);have k4:=f4.get k1 (by simp;omega);conv=>whnf)|(rw [k4];conv=>whnf)|(rw [hS4.h6];conv=>whnf)|(refine kA ?_;conv=>whnf)|(refine Br.mk (fun hc=>?_) fun hc=>?_<;>first|exact hc.elim|conv=>whnf)|(refine kB ?_))
   all_goals first
        |(exfalso;omega)
        |(refine again.mk ⟨_,?_,i+1,_,_,_,_,rfl,?_,hS4,AcM,?_,rfl,rfl⟩
          ·omega
          ·omega
          ·rw[hEt]
           exact hB.more hno ((ff.trans f3).trans f4) (by intro p hp;simp at hp;omega) ho6 (f4.get hoq (by simp;omega)) rfl)
 have hie:i=(Fh types g).length:=by omega
 subst hie
 rw[List.take_of_length_le (by omega)]at hB
 (conv=>whnf);repeat' (first|(refine LG fun σ1 f1 k1 l1=>?_;have hS:=hS.keep f1 (by simp);have hB:=hB.keep f1 (by simp);have h00:=f1.get h00 (by simp);conv=>whnf)|(rw [h00];conv=>whnf)|(refine kA ?_;conv=>whnf)|(refine Br.mk (fun hc=>?_) fun hc=>?_<;>first|exact hc.elim|conv=>whnf)|(refine kB ?_))
 all_goals first|(exfalso;omega)|skip
 replace l1:σ1.length=σ.length+1:=l1
 replace k1:nth σ1 σ.length=some (.arr c 2 false true []):=k1
 have hlo:6<σ1.length:=by omega
 have hnx:=hB.toS
 have hBn:∀v,(JD (Eh types g) v).length≤10000:=fun v=>Nat.le_trans (WR _ _) (by omega)
 have hcl:∀v,∀w∈JD (Eh types g) v,w∈BQ g:=fun v w hw=>(hes _ (Jo.1 hw)).2
 have hqo:σ.length<σ1.length:=by omega
 have hq6:6<σ.length:=h6l
 clear hlt hi hB f1 l1 h6l pe pc
 generalize σ.length=q0 at k1 hqo hq6
 refine Au (fun m env s=>∃(i c1:Nat) (σ2:List Obj) (s1:TJ) (BD Ba:List (Int×Int)) (stk:AV) (Di:List (Int×Bool)) (Dn:List (Int×Int)),m=g.nodes.length-i∧i≤g.nodes.length∧VE ⟨1,2,3,4,5,6⟩ (Px CV) cn (JD (Eh types g)) (BQ g) σ1.length σ1 σ2 s1 BD Ba stk Di Dn∧(∀ v∈(BQ g).take i,s1.vis v)∧env=[(2,.ref 0 0 0 0),(5,.ref 6 6 0 0),(8,.own q0 c 0 0),(52,.sl g.nn (vs GN.av g.nodes)),(53,.int .i64 g.nodes.length),(54,.int .i64 i)]∧s=⟨σ2,c1⟩) ?_ _ _ _ ⟨0,_,σ1,_,_,_,_,_,_,rfl,by omega,VE.start (ix:=fun _=>0) (low:=fun _=>0) (sm:=fun _=>0) hS,by simp,rfl,rfl⟩
 clear hS
 rintro _ _ _ ⟨i,c1,σ2,s1,BD,Ba,stk,Di,Dn,rfl,hi,hV,Abd,rfl,rfl⟩
 refine⟨rfl,?_⟩
 by_cases hlt:i<g.nodes.length
 ·have hid:(g.nodes[i]).id∈BQ g:=List.mem_map_of_mem (List.getElem_mem hlt)
  have htk:=Ku hlt
  have hV0:=hV
  have hS:=hV.hs
  have hl2:=hV.ln
  have AbH:∀{s2:TJ},s2.vis (g.nodes[i]).id→(∀ v,s1.vis v→s2.vis v)→∀v∈(BQ g).take (i+1),s2.vis v:=fun a b v hv=>by
   rw[htk,List.mem_append,List.mem_singleton]at hv
   rcases hv with hv|rfl
   ·exact b v (Abd v hv)
   ·exact a
  by_cases hv:s1.vis (g.nodes[i]).id
  ·have hix:=hV.ab.ix _ hv
   (conv=>whnf);repeat' (first|(refine LG fun σ3 f3 k3 l3=>?_;have hS:=hS.keep f3 (by simp);conv=>whnf)|(rw [k3];conv=>whnf)|(refine Iw k3 fun σ4 f4 k3 l4=>?_;have hS:=hS.keep f4 (by simp;omega);have hV:=hV.keep hlo (f3.trans f4) (by simp);conv=>whnf)|(rw [hS.h6];conv=>whnf)|(rw [hS.h2];conv=>whnf)|(refine Rt hix (fun _=>?_);conv=>whnf)|(refine kA ?_;conv=>whnf)|(refine Br.mk (fun hc=>?_) fun hc=>?_<;>first|exact hc.elim|conv=>whnf)|(refine kB ?_))
   all_goals first
        |(exfalso;omega)
        |exact again.mk ⟨_,by omega,i+1,_,_,_,_,_,_,_,_,rfl,by omega,hV,AbH hv (fun _ h=>h),rfl,rfl⟩
  ·have hix:=hV.ab.Z9 _ hv
   have Ahb:=hV.ixl
   (conv=>whnf);repeat' (first|(refine LG fun σ3 f3 k3 l3=>?_;have hS:=hS.keep f3 (by simp);conv=>whnf)|(rw [k3];conv=>whnf)|(refine Iw k3 fun σ4 f4 k3 l4=>?_;have hS:=hS.keep f4 (by simp;omega);have hV:=hV.keep hlo (f3.trans f4) (by simp);conv=>whnf)|(rw [hS.h6];conv=>whnf)|(rw [hS.h2];conv=>whnf)|(refine fkZ hix ?_;conv=>whnf)|(refine (Aco (B:=10000) hlo hnd (by omega) hBn (by omega) hnx hcl (by omega) hV hv hid).mono ?_;rintro _ _ ⟨σ5,c5,s2,Ahc,Agn,Afe,AaW,AaX,rfl,rfl,hV2,hv2,hv3⟩;conv=>whnf)|(refine kA ?_;conv=>whnf)|(refine Br.mk (fun hc=>?_) fun hc=>?_<;>first|exact hc.elim|conv=>whnf)|(refine kB ?_))
   all_goals first
        |(exfalso;omega)
        |exact again.mk ⟨_,by omega,i+1,_,_,_,_,_,_,_,_,rfl,by omega,hV2,AbH hv2 hv3,rfl,rfl⟩
 have hie:i=g.nodes.length:=by omega
 subst hie
 rw[List.take_of_length_le (by omega)]at Abd
 have hS:=hV.hs
 have h02:nth σ2 0=some (.arr 0 4 true true [g.av]):=(hV.fl 0 (by omega) (by omega)).trans h00
 have hq2:nth σ2 q0=some (.arr c 2 false true (vs pv [])):=(hV.fl q0 (by omega) hqo).trans k1
 have hall:=fun v hv=>hV.all (Abd v hv)
 clear hV Abd hlt k1 h00
 (conv=>whnf);repeat' (first|(rw [h02];conv=>whnf)|(refine kA ?_;conv=>whnf)|(refine Br.mk (fun hc=>?_) fun hc=>?_<;>first|exact hc.elim|conv=>whnf)|(refine kB ?_))
 all_goals first|(exfalso;omega)|skip
 refine Au (fun m env s=>∃(i c1 ga n:Nat) (b:Bool) (σ:List Obj) (l:List (Int×Int)),m=g.nodes.length-i∧i≤g.nodes.length∧n=i∧l.length=i∧l.map (·.1)=(BQ g).take i∧(∀ p∈l,Least (JD (Eh types g)) p.1 p.2)∧HS ⟨1,2,3,4,5,6⟩ (Px CV) cn σ BD Ba stk Di Dn∧nth σ q0=some (.arr ga 2 b true (vs pv l))∧env=[(5,.ref 6 6 0 0),(8,.own q0 ga 0 n),(76,.sl g.nn (vs GN.av g.nodes)),(77,.int .i64 g.nodes.length),(78,.int .i64 i)]∧s=⟨σ,c1⟩) ?_ _ _ _ ⟨0,_,_,_,_,σ2,[],rfl,by omega,rfl,rfl,by simp,by simp,hS,hq2,rfl,rfl⟩
 clear hS hq2 h02 hi
 rintro _ _ _ ⟨i,c1,ga,n,b,σ,l,rfl,hi,rfl,hll,hl1,hl2,hS,hq,rfl,rfl⟩
 refine⟨rfl,?_⟩
 have h6l:=CU hS.h6
 have hql:=CU hq
 by_cases hlt:n<g.nodes.length
 ·obtain⟨x,hx1,hx2⟩:=hall (g.nodes[n]).id (List.mem_map_of_mem (List.getElem_mem hlt))
  have m1:(l++[((g.nodes[n]).id,x)]).map (·.1)=(BQ g).take (n+1):=by rw[List.map_append,hl1,Ku hlt];rfl
  have m2:∀p∈l++[((g.nodes[n]).id,x)],Least (JD (Eh types g)) p.1 p.2:=fun p hp=>by
   rcases List.mem_append.1 hp with h|h
   ·exact hl2 p h
   ·rw[List.mem_singleton.1 h];exact hx2
  (conv=>whnf);repeat' (first|(refine LG fun σ3 f3 k3 l3=>?_;have hS:=hS.keep f3 (by simp);conv=>whnf)|(rw [k3];conv=>whnf)|(refine Iw k3 fun σ4 f4 k3 l4=>?_;have hS:=hS.keep f4 (by simp;omega);have hq:=(f3.trans f4).get hq (by simp;omega);conv=>whnf)|(rw [hS.h6];conv=>whnf)|(rw [hS.h5];conv=>whnf)|(rw [hq];conv=>whnf)|(refine Rt hx1 (fun _=>?_);conv=>whnf)|(refine Aav (f:=pv) (l:=l) (x:=((g.nodes[n]).id,x)) VO hll.symm (by omega) ?_;conv=>whnf)|(refine Iw hq fun σ5 f5 hq l5=>?_;have hS:=hS.keep f5 (by simp;omega);conv=>whnf)|(refine kA ?_;conv=>whnf)|(refine Br.mk (fun hc=>?_) fun hc=>?_<;>first|exact hc.elim|conv=>whnf)|(refine kB ?_))
  all_goals first
   |(exfalso;omega)
   |exact again.mk ⟨_,by omega,n+1,_,_,_,_,_,l++[((g.nodes[n]).id,x)],rfl,by omega,by omega,by simp[hll],m1,m2,hS,hq,rfl,rfl⟩
 ·have hne:n=g.nodes.length:=by omega
  rw[List.take_of_length_le (by omega)]at hl1
  (conv=>whnf);repeat' (first|(rw [hq];conv=>whnf)|(refine kA ?_;conv=>whnf)|(refine Br.mk (fun hc=>?_) fun hc=>?_<;>first|exact hc.elim|conv=>whnf)|(refine kB ?_))
  all_goals first
   |(exfalso;omega)
   |(refine ⟨b,l,?_,fun h=>absurd hck h,fun _=>⟨hl1,hl2⟩⟩;first|rfl|exact congrArg (AV.sl b) (Adm (by omega)))
end AI
end Go.Proofs.YtjjhejbffgaabaaGreatDoor
