/- component.Strong: a visit. component.Strong: the successors of each node. Labels: two edges are joined in either order. Plain. Strong components lie within weak ones; both are the same if all edges are reversed. Plain. A topological order exists just where there is no loop and every strong component has one node. Plain. component.Strong. Increasing lists of the reference: with. -/
import Derived.Test.YtjjhejbffgaabaaGreatDoorRMan
import Derived.Test.YtjjhejbffgaabaaGreatDoorRMao
import Derived.Test.YtjjhejbffgaabaaGreatDoorRMam
import Derived.Test.YtjjhejbffgaabaaGreatDoorRMal
set_option linter.unusedVariables false
set_option maxRecDepth 4000
namespace Go.Proofs.YtjjhejbffgaabaaGreatDoor
namespace AI
abbrev Qz (M:List (Int×AV)):List (AV×AV):=F8 (.int .i64) id M
theorem fkA {M:List (Int×AV)} {k:Int} {v:AV} {K:Option (Nat×AV)→Prop} (h:Bh M k=some v) (hK:∀i,K (some (i,v))):Je .int (.int .i64 k) (Qz M) K:=
 ML Fz (fun hm=>by rw[h]at hm;cases hm) fun i w hm=>by
  rw[h]at hm
  cases hm
  exact hK i
theorem AdB {M:List (Int×AV)} {k:Int} {K:Option (Nat×AV)→Prop} (h:Bh M k=none) (hK:K none):Je .int (.int .i64 k) (Qz M) K:=
 ML Fz (fun _=>hK) fun i w hm=>by rw[h]at hm;cases hm
theorem Aj8 {M:List (Int×Bool)} {k:Int} {K:Option (Nat×AV)→Prop} (h:Bh M k=some true) (hK:∀i,K (some (i,.bool true))):Je .int (.int .i64 k) (JE M) K:=
 fkT (fun hm=>by rw[h]at hm;cases hm) fun i w hm _=>by
  rw[h]at hm
  cases hm
  exact hK i
theorem Aj9 {M:List (Int×Bool)} {k:Int} {K:Option (Nat×AV)→Prop} (h:Bh M k=none) (hK:K none):Je .int (.int .i64 k) (JE M) K:=
 fkT (fun _=>hK) fun i w hm _=>by rw[h]at hm;cases hm
theorem KN {n c:Nat} {σ:List Obj} (h:σ.length=n):compact n (.Du []) ⟨σ,c⟩=some (.Du [],⟨σ,c⟩):=by
 subst h
 simp[compact,AV.closed,DU,List.take_length]
structure VE (G:GS) (Dl:List (AV×AV)) (cn:Bool) (nx:Int→List Int) (ids:List Int) (lo:Nat) (σ0 σ:List Obj) (s:TJ) (BR Bv:List (Int×Int)) (stk:AV) (DK:List (Int×Bool)) (DR:List (Int×Int)):Prop where
 hs:HS G Dl cn σ BR Bv stk DK DR
 fl:∀o,(o<2∨6<o)→o<lo→nth σ o=nth σ0 o
 ln:lo≤σ.length
 ab:AB s BR Bv DK DR
 tj:EY nx s
 sT:s.T=[]
 sS:s.S=[]
 sk:Stk lo σ stk []
 vi:∀v,s.vis v→v∈ids
section
variable {G:GS} {Dl:List (Int×AV)} {cn:Bool} {nx:Int→List Int} {ids:List Int} {lo:Nat} {σ0 σ:List Obj} {s:TJ} {BR Bv DR:List (Int×Int)} {stk:AV} {DK:List (Int×Bool)}
theorem VR.done {L:List (Int×Nat)} {pt gt:Nat} {J:List (Int×Nat)} {Dl:List (AV×AV)} (h:VR G Dl cn nx ids lo σ0 σ s [] BR Bv stk DK DR pt gt J):VE G Dl cn nx ids lo σ0 σ s BR Bv stk DK DR:=by
 have hT:s.T=[]:=h.sT
 have hS:s.S=[]:=by
  refine List.eq_nil_iff_forall_not_mem.2 fun v hv=>?_
  obtain⟨p,hp,_⟩:=h.tj.rt v hv
  rw[hT]at hp
  cases hp
 exact⟨h.hs,h.fl,h.ln,h.ab,h.tj,hT,hS,hS▸h.sk,h.vi⟩
theorem VE.first {Dl:List (AV×AV)} {σ2 σ3:List Obj} {Ii:AV} {m:Int} {F:List Nat} {pt gt:Nat} (hlo:6<lo) (h:VE G Dl cn nx ids lo σ0 σ s BR Bv stk DK DR) (hm:¬s.vis m) (hid:m∈ids)
 (hs:HS G Dl cn σ2 (BO BR m BR.length) (BO Bv m BR.length) Ii (BO DK m true) DR) (f2:H9 σ σ2 F) (hF:∀o∈F,(2≤o∧o≤6)∨lo≤o) (hk2:Stk lo σ2 Ii [m]) (f3:H9 σ2 σ3 []) (hpt:lo≤pt) (hob:pt∉Ii.obj) (htd:nth σ3 pt=some (.arr gt 2 true true (vs Vg [(m,0)]))):
 VR G Dl cn nx ids lo σ0 σ3 (MG s m []) [(m,0)] (BO BR m BR.length) (BO Bv m BR.length) Ii (BO DK m true) DR pt gt []:=by
 have YD:m∉s.S:=by rw[h.sS];simp
 have hg:Goes nx s m []:=⟨by rw[h.sT],by simp,by rw[h.sT];simp⟩
 have ff:=f2.trans f3
 refine⟨hs.keep f3 (by simp),JQ h.fl h.ln ff (fun o ho=>by rw[List.append_nil]at ho;exact hF o ho),Nat.le_trans h.ln ff.len,h.ab.enter hm YD,h.tj.enter hm hg,rfl,?_,htd,⟨hpt,hob⟩,?_⟩
 ·have:(MG s m []).S=[m]:=by show s.S++[m]=[m];rw[h.sS];rfl
  rw[this]
  exact hk2.keep f3 (by simp)
 ·rintro v (hv|rfl)
  ·exact h.vi v hv
  ·exact hid
theorem Aka {c:Nat} {m:Int} {Dl:List (AV×AV)} (hlo:6<lo) (h:VE G Dl cn nx ids lo σ0 σ s BR Bv stk DK DR) (hm:¬s.vis m) (hl:BR.length<2^40):
 AY (Ac tab) 57 [.ref 6 G.f 0 0,.int .i64 m] ⟨σ,c⟩
  fun out s'=>∃σ' c' Ii F,out=.ok (.agg [.int .i64 m,.int .i64 0])∧s'=⟨σ',c'⟩∧HS G Dl cn σ' (BO BR m BR.length) (BO Bv m BR.length) Ii (BO DK m true) DR∧Stk lo σ' Ii [m]∧(∀ o∈Ii.obj,o<σ'.length)∧H9 σ σ' F∧∀o∈F,(2≤o∧o≤6)∨lo≤o:=by
 have h0:=h.ab.ix0 m hm
 rcases h.sk with⟨rfl,_⟩|⟨q,g,J,h1,rfl,h2⟩
 ·refine(Akb h.hs h0 hl).mono ?_
  rintro _ _ ⟨σ',c',o,g,rfl,rfl,a1,a2,a3,a4⟩
  exact⟨_,_,_,_,rfl,rfl,a1,.inr ⟨o,g,[],Nat.le_trans h.ln a3,rfl,a2⟩,fun o' ho'=>by simp only[AV.obj,List.mem_singleton]at ho';subst ho';exact Dn a2,a4,by simp⟩
 ·refine(Ah6 (S:=[]) (J:=J) h.hs rfl h0 (by simp) h2 (by omega)).mono ?_
  rintro _ _ ⟨σ',c',g',rfl,rfl,a1,a2,a3⟩
  exact⟨_,_,_,_,rfl,rfl,a1,.inr ⟨q,g',[],h1,rfl,a2⟩,fun o' ho'=>by simp only[AV.obj,List.mem_singleton]at ho';subst ho';exact Dn a2,a3,by simp;omega⟩
set_option maxHeartbeats 8000000 in
theorem AfQ {B c:Nat} {m:Int} (hlo:6<lo) (hnd:ids.Nodup) (hil:ids.length<2^30) (hB:∀v,(nx v).length≤B) (hB2:B<2^30) (hnx:NxS Dl σ0 lo nx) (hcl:∀v,∀w∈nx v,w∈ids) (hix:BR.length<2^40)
 (h:VE G (Qz Dl) cn nx ids lo σ0 σ s BR Bv stk DK DR) (hm:¬s.vis m) (hid:m∈ids):
 AY (Ac tab) 33 [.ref 6 G.f 0 0,.int .i64 m] ⟨σ,c⟩
  fun out s'=>∃σ' c' s2 Akc Ah7 Ii Jf LP,out=.ok (.Du [])∧s'=⟨σ',c'⟩∧VE G (Qz Dl) cn nx ids lo σ0 σ' s2 Akc Ah7 Ii Jf LP∧s2.vis m∧∀v,s.vis v→s2.vis v:=by
 refine AL rfl rfl ?_
 (conv=>whnf);repeat' (first|(refine (Aka hlo h hm hix).mono ?_;rintro _ _ ⟨σ2,c2,AjX,F,rfl,rfl,b1,b2,b3,b4,b5⟩;conv=>whnf)|(refine ND fun σ3 f3 k3 l3=>?_;conv=>whnf)|(refine kA ?_;conv=>whnf)|(refine Br.mk (fun hc=>?_) fun hc=>?_<;>first|exact hc.elim|conv=>whnf)|(refine kB ?_))
 have Xm:nth σ3 σ2.length=some (.arr c2 2 true true (vs Vg ([(m,0)]++[]))):=k3
 have Ah8:lo≤σ2.length:=Nat.le_trans h.ln b4.len
 have hR:=h.first hlo hm hid b1 b4 b5 b2 f3 Ah8 (fun hc=>Nat.lt_irrefl _ (b3 _ hc)) Xm
 have hR1:(MG s m []).vis m:=.inr rfl
 have hR2:∀v,s.vis v→(MG s m []).vis v:=fun v hv=>.inl hv
 clear k3 Xm f3 b1 b2 b3 b4 b5 l3
 refine Ah (fun μ env st=>∃(σ1:List Obj) (c1:Nat) (s1:TJ) (L:List (Int×Nat)) (AdT Abu:List (Int×Int)) (Ah9:AV) (Zz:List (Int×Bool)) (Adf:List (Int×Int)) (pt gt n:Nat) (J:List (Int×Nat)),μ=wA B ids AdT L∧n=L.length∧VR G (Qz Dl) cn nx ids lo σ0 σ1 s1 L AdT Abu Ah9 Zz Adf pt gt J∧s1.vis m∧(∀ v,s.vis v→s1.vis v)∧env=[(0,.ref 6 G.f 0 0),(4,.own pt gt 0 n)]∧st=⟨σ1,c1⟩) ?_ _ _ _ ⟨_,_,_,_,_,_,_,_,_,_,_,_,_,rfl,rfl,hR,hR1,hR2,rfl,rfl⟩
 clear hR hR1 hR2 h hix hm hid Ah8
 rintro _ _ _ ⟨σ1,c1,s1,L,AdT,Abu,Ah9,Zz,Adf,pt,gt,n,J,rfl,hn,hR,hv1,hv2,rfl,rfl⟩
 refine⟨rfl,?_⟩
 have htd:=hR.td
 obtain⟨hSl,hLl⟩:=hR.len hnd
 rcases List.eq_nil_or_concat L with rfl|⟨L0,⟨t,k⟩,hLe⟩
 ·have hn0:n=0:=hn
  (conv=>whnf);repeat' (first  |(refine kA ?_;conv=>whnf)|(refine Br.mk (fun hc=>?_) fun hc=>?_<;>first|exact hc.elim|conv=>whnf)|(refine kB ?_))
  all_goals first
   |(exfalso;omega)
   |exact⟨_,_,_,_,_,_,_,_,rfl,rfl,hR.done (L:=[]),hv1,hv2⟩
 rw[List.concat_eq_append]at hLe
 subst hLe
 have hn1:n=L0.length+1:=by rw[hn];simp
 have hT:s1.T=(t,k)::L0.reverse:=by rw[hR.sT];simp
 have htT:(t,k)∈s1.T:=by rw[hT];simp
 have YF:=hR.tj.tS _ htT
 have htv:=hR.tj.sV _ YF
 have hkl:=(hR.tj.tA _ htT).1
 have hlow:=hR.tj.lo t YF
 have hBt:=hB t
 obtain⟨W,hW⟩:∃W,W=vs Vg (L0++[(t,k)]++J):=⟨_,rfl⟩
 rw[← hW]at htd
 have hw1:∀j,j=L0.length→nth W j=some (Vg (t,k)):=fun j hj=>by rw[hW,hj,Az,vs,List.getElem?_map];simp
 have hlt:=hR.ab.low t htv
 have hit:=hR.ab.ix t htv
 have hp:=hR.tp
 dsimp only at YF htv hkl hlow
 have hlow1:=hlow.1
 have hS:=hR.hs
 by_cases hk:k=(nx t).length
 case neg=>
  rcases hnx t with⟨hn0,hnil⟩|⟨o,g,hno,hoo,ho6,hol⟩
  ·rw[hnil]at hk hkl
   exact absurd (Nat.le_zero.1 hkl) hk
  have hkl2:k<(nx t).length:=by omega
  have Sm:nth σ1 o=some (.arr g 1 true true (vs (.int .i64) (nx t))):=(hR.fl o (.inr ho6) hol).trans hoo
  have hwk:(nx t)[k]?=some (nx t)[k]:=List.getElem?_eq_getElem hkl2
  obtain⟨X,hX⟩:∃X,X=vs (.int .i64) (nx t):=⟨_,rfl⟩
  rw[← hX]at Sm
  have hwn:∀j,j=k→nth X j=some (.int .i64 (nx t)[k]):=fun j hj=>by rw[hX,hj];exact nV hkl2
  have hwi:=hcl t _ (List.getElem_mem hkl2)
  generalize (nx t)[k]=w at hwk hwi hwn
  have hset:W.set (Int.toNat ((n:Int)-1)) (Bl (Vg (t,k)) (0+1) (.int .i64 ((k:Int)+1)))=vs Vg (L0++[(t,k+1)]++J):=by
   have e:Int.toNat ((n:Int)-1)=L0.length:=by omega
   rw[e,hW]
   show(vs Vg (L0++[(t,k)]++J)).set L0.length (Vg (t,k+1))=_
   simp[vs]
  by_cases hv:s1.vis w
  ·have hwx:=hR.ab.ix w hv
   by_cases hwS:w∈s1.S
   ·have hon:=hR.ab.on w hwS
    obtain⟨W',hW'⟩:∃W',W'=vs Vg (L0++[(t,k+1)]++J):=⟨_,rfl⟩
    rw[← hW']at hset
    have hw3:∀j,j=L0.length→nth W' j=some (Vg (t,k+1)):=fun j hj=>by rw[hW',hj,Az,vs,List.getElem?_map];simp
    (conv=>whnf);repeat' (first|(rw [htd];conv=>whnf)|(rw [hS.h6];conv=>whnf)|(rw [hS.h1];conv=>whnf)|(rw [hS.h2];conv=>whnf)|(rw [hS.h3];conv=>whnf)|(rw [hS.h4];conv=>whnf)|(rw [Sm];conv=>whnf)|(refine Ak (hw1 _ (by omega)) ?_;conv=>whnf)|(refine Ak (hw3 _ (by omega)) ?_;conv=>whnf)|(refine fkA hno (fun _=>?_);conv=>whnf)|(refine Ak (hwn _ (by omega)) ?_;conv=>whnf)|(refine Bj hset ?_;conv=>whnf)|(refine Jp htd fun σ1 fA htd l=>?_;have hS:=hS.keep fA (by simp;omega);have Sm:=fA.get Sm (by simp;omega);conv=>whnf)|(refine Uo hwx (fun _=>?_);conv=>whnf)|(refine Uo hlt (fun _=>?_);conv=>whnf)|(refine Aj8 hon (fun _=>?_);conv=>whnf)|(refine msI ?_;conv=>whnf)|(refine hS.XJ fun σ1 hS fB l=>?_;conv=>whnf)|(refine kA ?_;conv=>whnf)|(refine Br.mk (fun hc=>?_) fun hc=>?_<;>first|exact hc.elim|conv=>whnf)|(refine kB ?_))
    all_goals first
     |(exfalso;omega)
     |exact again.mk ⟨_,Abv (by omega),_,_,_,_,_,_,_,_,_,_,_,_,_,rfl,by simp;omega,hR.see hlo hwk hv hwS (by split<;>omega) fA (hW'▸htd) hS fB,hv1,hv2,rfl,rfl⟩
   ·have hon:=hR.ab.on0 w hwS
    (conv=>whnf);repeat' (first|(rw [htd];conv=>whnf)|(rw [hS.h6];conv=>whnf)|(rw [hS.h1];conv=>whnf)|(rw [hS.h2];conv=>whnf)|(rw [hS.h3];conv=>whnf)|(rw [hS.h4];conv=>whnf)|(rw [Sm];conv=>whnf)|(refine Ak (hw1 _ (by omega)) ?_;conv=>whnf)|(refine fkA hno (fun _=>?_);conv=>whnf)|(refine Ak (hwn _ (by omega)) ?_;conv=>whnf)|(refine Bj hset ?_;conv=>whnf)|(refine Jp htd fun σ1 fA htd l=>?_;have hS:=hS.keep fA (by simp;omega);have Sm:=fA.get Sm (by simp;omega);conv=>whnf)|(refine Uo hwx (fun _=>?_);conv=>whnf)|(refine Aj9 hon ?_;conv=>whnf)|(refine kA ?_;conv=>whnf)|(refine Br.mk (fun hc=>?_) fun hc=>?_<;>first|exact hc.elim|conv=>whnf)|(refine kB ?_))
    all_goals first
     |(exfalso;omega)
     |exact again.mk ⟨_,Abv (by omega),_,_,_,_,_,_,_,_,_,_,_,_,_,rfl,by simp;omega,hR.Akd hlo hwk hv hwS fA htd,hv1,hv2,rfl,rfl⟩
  ·have hwx:=hR.ab.ix0 w hv
   rcases hR.sk with⟨_,hnil⟩|⟨qs,gs,Js,hq1,rfl,hq2⟩
   ·rw[hnil]at YF;cases YF
   have hqp:qs≠pt:=fun e=>hp.2 (by simp[AV.obj,e])
   (conv=>whnf);repeat' (first|(rw [htd];conv=>whnf)|(rw [hS.h6];conv=>whnf)|(rw [hS.h1];conv=>whnf)|(rw [hS.h2];conv=>whnf)|(rw [hS.h3];conv=>whnf)|(rw [hS.h4];conv=>whnf)|(rw [Sm];conv=>whnf)|(refine Ak (hw1 _ (by omega)) ?_;conv=>whnf)|(refine fkA hno (fun _=>?_);conv=>whnf)|(refine Ak (hwn _ (by omega)) ?_;conv=>whnf)|(refine Bj hset ?_;conv=>whnf)|(refine Jp htd fun σ1 fA htd l=>?_;have hS:=hS.keep fA (by simp;omega);have Sm:=fA.get Sm (by simp;omega);have hq2:=fA.get hq2 (by simpa using hqp);conv=>whnf)|(refine fkZ hwx ?_;conv=>whnf)|(refine (Ah6 (S:=s1.S) (J:=Js) hS rfl hwx (by omega) hq2 (by omega)).mono ?_;rintro _ _ ⟨σ2,c2,g2,rfl,rfl,hS2,hq3,f2⟩;have Sr:=f2.get htd (by simp;omega);conv=>whnf)|(rw [Sr];conv=>whnf)|(refine apJ (f:=Vg) (S:=L0++[(t,k+1)]) (J:=J) (m:=(w,0)) AdU (by simp;omega) (by simp at hLl ⊢;omega) ?_;conv=>whnf)|(refine Jp Sr fun σ3 f3 Akf l=>?_;conv=>whnf)|(refine kA ?_;conv=>whnf)|(refine Br.mk (fun hc=>?_) fun hc=>?_<;>first|exact hc.elim|conv=>whnf)|(refine kB ?_))
   all_goals first
        |(exfalso;omega)
        |exact again.mk ⟨_,Abw (by omega) hwi hwx,_,_,_,_,_,_,_,_,_,_,_,_,_,rfl,by simp,hR.enter hlo hwk hv hwi fA hS2 f2 (.inr ⟨qs,g2,[],hq1,by simp,by rw[List.append_nil];exact hq3⟩) (fun hc=>hqp (by simp only[AV.obj,List.mem_singleton]at hc;exact hc.symm)) (fun o ho=>by simp only[AV.obj,List.mem_singleton]at ho;subst ho;exact hq1) f3 Akf,.inl hv1,fun v hv=>.inl (hv2 v hv),rfl,rfl⟩
 case pos=>
  subst hk
  obtain⟨hk0,hk1⟩:((nx t).length:Int)=((nx t).length:Nat)∧True:=⟨rfl,trivial⟩
  rcases Nat.lt_or_ge (s1.low t) (s1.ix t)with hl|hl
  ·have hne:L0≠[]:=by
        rintro rfl
        obtain⟨w,hw,e,_⟩:=hlow.2
        obtain⟨p,hp,hle⟩:=hR.tj.rt w hw
        rw[hT]at hp
        simp only[List.reverse_nil,List.mem_singleton]at hp
        subst hp
        dsimp only at hle
        omega
   obtain⟨L1,⟨u,ku⟩,rfl⟩:∃L1 p,L0=L1++[p]:=⟨_,_,(List.dropLast_concat_getLast hne).symm⟩
   have hTu:((u,ku):Int×Nat)∈s1.T:=by rw[hT];simp
   have hlu:=hR.ab.low u (hR.tj.sV _ (hR.tj.tS _ hTu))
   have hw2:∀j,j=L1.length→nth W j=some (Vg (u,ku)):=fun j hj=>by rw[hW,hj,Az,vs,List.getElem?_map];simp
   have hL1:(L1++[(u,ku)]).length=L1.length+1:=by simp
   have hlv:=Afv (c:=c1) hS hlt hit (by omega)
   rcases hnx t with⟨hno,hnil⟩|⟨o,g,hno,hoo,ho6,hol⟩
   ·have h0:(nx t).length=0:=by rw[hnil];rfl
    (conv=>whnf);repeat' (first|(rw [htd];conv=>whnf)|(rw [hS.h6];conv=>whnf)|(rw [hS.h1];conv=>whnf)|(rw [hS.h3];conv=>whnf)|(refine Ak (hw1 _ (by omega)) ?_;conv=>whnf)|(refine Ak (hw2 _ (by omega)) ?_;conv=>whnf)|(refine AdB hno ?_;conv=>whnf)|(refine hlv.mono ?_;rintro _ _ ⟨c2,rfl,rfl⟩;refine Aj (KN rfl) ?_;conv=>whnf)|(refine Uo hlt (fun _=>?_);conv=>whnf)|(refine Uo hlu (fun _=>?_);conv=>whnf)|(refine msI ?_;conv=>whnf)|(refine hS.XJ fun σ2 hS fB l=>?_;conv=>whnf)|(refine kA ?_;conv=>whnf)|(refine Br.mk (fun hc=>?_) fun hc=>?_<;>first|exact hc.elim|conv=>whnf)|(refine kB ?_))
    all_goals first
     |(exfalso;omega)
     |exact again.mk ⟨_,OE (by omega),_,_,_,_,_,_,_,_,_,_,_,_,_,rfl,by simp;omega,hR.stay hlo hl (by split<;>omega) hS fB,hv1,hv2,rfl,rfl⟩
   ·(conv=>whnf);repeat' (first|(rw [htd];conv=>whnf)|(rw [hS.h6];conv=>whnf)|(rw [hS.h1];conv=>whnf)|(rw [hS.h3];conv=>whnf)|(refine Ak (hw1 _ (by omega)) ?_;conv=>whnf)|(refine Ak (hw2 _ (by omega)) ?_;conv=>whnf)|(refine fkA hno (fun _=>?_);conv=>whnf)|(refine hlv.mono ?_;rintro _ _ ⟨c2,rfl,rfl⟩;refine Aj (KN rfl) ?_;conv=>whnf)|(refine Uo hlt (fun _=>?_);conv=>whnf)|(refine Uo hlu (fun _=>?_);conv=>whnf)|(refine msI ?_;conv=>whnf)|(refine hS.XJ fun σ2 hS fB l=>?_;conv=>whnf)|(refine kA ?_;conv=>whnf)|(refine Br.mk (fun hc=>?_) fun hc=>?_<;>first|exact hc.elim|conv=>whnf)|(refine kB ?_))
    all_goals first
     |(exfalso;omega)
     |exact again.mk ⟨_,OE (by omega),_,_,_,_,_,_,_,_,_,_,_,_,_,rfl,by simp;omega,hR.stay hlo hl (by split<;>omega) hS fB,hv1,hv2,rfl,rfl⟩
  ·have hl:s1.low t=s1.ix t:=by omega
   obtain⟨S0,C0,hSS⟩:=List.append_of_mem YF
   have Akh:t∉S0:=fun hc=>by
        have hsI:=hR.tj.sI
        rw[hSS,List.pairwise_append]at hsI
        exact Nat.lt_irrefl _ (hsI.2.2 t hc t (by simp))
   rcases hR.sk with⟨_,hnil⟩|⟨qs,gs,Js,hq1,rfl,hq2⟩
   ·rw[hnil]at YF;cases YF
   have hqp:qs≠pt:=fun e=>hp.2 (by simp[AV.obj,e])
   rw[hl]at hlt
   have Aki:s1.S.length=(S0++t::C0).length:=by rw[hSS]
   have hlv:=Afw (c:=c1) (a0:=S0.length) (J:=Js) hS hlt hit (by rw[hq2,hSS]) (by omega) rfl Aki (by omega) Akh hR.ab.onN
   have hT0:∀σ' c',σ'.length=σ1.length→compact σ1.length (.Du []) ⟨σ',c'⟩=some (.Du [],⟨σ',c'⟩):=fun σ' c' h=>KN h
   have Akj:∀{σ':List Obj},H9 σ1 σ' [4,5,6]→Stk lo σ' (.own qs gs 0 S0.length) S0:=fun f=>.inr ⟨qs,gs,t::C0++Js,hq1,rfl,by rw[f.get hq2 (by simp;omega),hSS,List.append_assoc]⟩
   have hpop:=fun{σ' Jf LP x} (a:x∈t::C0) b c d e (f:HS G (Qz Dl) cn σ' AdT Abu (.own qs gs 0 S0.length) Jf LP) f'=>hR.pop hlo hl hSS a b c d e f f' (Akj f') (fun o ho=>ho)
   rcases List.eq_nil_or_concat L0 with rfl|⟨L1,⟨u,ku⟩,hLe⟩
   ·have hn1':n=1:=by simp at hn1;omega
    rcases hnx t with⟨hno,hnil⟩|⟨o,g,hno,hoo,ho6,hol⟩
    ·have h0:(nx t).length=0:=by rw[hnil];rfl
     (conv=>whnf);repeat' (first|(rw [htd];conv=>whnf)|(rw [hS.h6];conv=>whnf)|(rw [hS.h1];conv=>whnf)|(rw [hS.h3];conv=>whnf)|(refine Ak (hw1 _ (by simp;omega)) ?_;conv=>whnf)|(refine AdB hno ?_;conv=>whnf)|(refine hlv.mono ?_;rintro _ _ ⟨σ2,c2,AdD,AdE,x,rfl,rfl,hx1,hx2,hS2,hk2,ho2,hs2,ff,fl⟩;refine Aj (hT0 _ _ fl) ?_;have Sr:=ff.get htd (by simp;omega);conv=>whnf)|(rw [Sr];conv=>whnf)|(refine kA ?_;conv=>whnf)|(refine Br.mk (fun hc=>?_) fun hc=>?_<;>first|exact hc.elim|conv=>whnf)|(refine kB ?_))
     all_goals first
      |(exfalso;omega)
      |(exfalso;simp at *;omega)
      |exact again.mk ⟨_,OE (by omega),_,_,_,_,_,_,_,_,_,_,_,_,_,rfl,by simp;omega,hpop hx1 hx2 hk2 ho2 hs2 hS2 ff,hv1,hv2,rfl,rfl⟩
    ·(conv=>whnf);repeat' (first|(rw [htd];conv=>whnf)|(rw [hS.h6];conv=>whnf)|(rw [hS.h1];conv=>whnf)|(rw [hS.h3];conv=>whnf)|(refine Ak (hw1 _ (by simp;omega)) ?_;conv=>whnf)|(refine fkA hno (fun _=>?_);conv=>whnf)|(refine hlv.mono ?_;rintro _ _ ⟨σ2,c2,AdD,AdE,x,rfl,rfl,hx1,hx2,hS2,hk2,ho2,hs2,ff,fl⟩;refine Aj (hT0 _ _ fl) ?_;have Sr:=ff.get htd (by simp;omega);conv=>whnf)|(rw [Sr];conv=>whnf)|(refine kA ?_;conv=>whnf)|(refine Br.mk (fun hc=>?_) fun hc=>?_<;>first|exact hc.elim|conv=>whnf)|(refine kB ?_))
     all_goals first
      |(exfalso;omega)
      |(exfalso;simp at *;omega)
      |exact again.mk ⟨_,OE (by omega),_,_,_,_,_,_,_,_,_,_,_,_,_,rfl,by simp;omega,hpop hx1 hx2 hk2 ho2 hs2 hS2 ff,hv1,hv2,rfl,rfl⟩
   ·rw[List.concat_eq_append]at hLe
    subst hLe
    have hTu:((u,ku):Int×Nat)∈s1.T:=by rw[hT];simp
    have hlu:=hR.ab.low u (hR.tj.sV _ (hR.tj.tS _ hTu))
    have hw2:∀j,j=L1.length→nth W j=some (Vg (u,ku)):=fun j hj=>by rw[hW,hj,Az,vs,List.getElem?_map];simp
    have hL1:(L1++[(u,ku)]).length=L1.length+1:=by simp
    have hlow2:min (s1.low u) (s1.low t)=s1.low u:=hR.tj.AdV (u:=(u,ku)) (k:=(nx t).length) (T1:=L1.reverse) (by rw[hT];simp) hl
    rcases hnx t with⟨hno,hnil⟩|⟨o,g,hno,hoo,ho6,hol⟩
    ·have h0:(nx t).length=0:=by rw[hnil];rfl
     (conv=>whnf);repeat' (first|(rw [htd];conv=>whnf)|(rw [hS.h6];conv=>whnf)|(rw [hS.h1];conv=>whnf)|(rw [hS.h3];conv=>whnf)|(refine Ak (hw1 _ (by omega)) ?_;conv=>whnf)|(refine Ak (hw2 _ (by omega)) ?_;conv=>whnf)|(refine AdB hno ?_;conv=>whnf)|(refine hlv.mono ?_;rintro _ _ ⟨σ2,c2,AdD,AdE,x,rfl,rfl,hx1,hx2,hS2,hk2,ho2,hs2,ff,fl⟩;refine Aj (hT0 _ _ fl) ?_;have Sr:=ff.get htd (by simp;omega);conv=>whnf)|(rw [Sr];conv=>whnf)|(rw [hS2.h6];conv=>whnf)|(rw [hS2.h3];conv=>whnf)|(refine Uo hlt (fun _=>?_);conv=>whnf)|(refine Uo hlu (fun _=>?_);conv=>whnf)|(refine msI ?_;conv=>whnf)|(refine hS2.XJ fun σ3 hS3 fB l=>?_;conv=>whnf)|(refine kA ?_;conv=>whnf)|(refine Br.mk (fun hc=>?_) fun hc=>?_<;>first|exact hc.elim|conv=>whnf)|(refine kB ?_))
     all_goals first
       |(exfalso;omega)
       |exact again.mk ⟨_,OE (by omega),_,_,_,_,_,_,_,_,_,_,_,_,_,rfl,by simp;omega,(hpop hx1 hx2 hk2 ho2 hs2 hS2 ff).up hlo (by show _=((s1.low u:Nat):Int);split<;>omega) hS3 fB,hv1,hv2,rfl,rfl⟩
    ·(conv=>whnf);repeat' (first|(rw [htd];conv=>whnf)|(rw [hS.h6];conv=>whnf)|(rw [hS.h1];conv=>whnf)|(rw [hS.h3];conv=>whnf)|(refine Ak (hw1 _ (by omega)) ?_;conv=>whnf)|(refine Ak (hw2 _ (by omega)) ?_;conv=>whnf)|(refine fkA hno (fun _=>?_);conv=>whnf)|(refine hlv.mono ?_;rintro _ _ ⟨σ2,c2,AdD,AdE,x,rfl,rfl,hx1,hx2,hS2,hk2,ho2,hs2,ff,fl⟩;refine Aj (hT0 _ _ fl) ?_;have Sr:=ff.get htd (by simp;omega);conv=>whnf)|(rw [Sr];conv=>whnf)|(rw [hS2.h6];conv=>whnf)|(rw [hS2.h3];conv=>whnf)|(refine Uo hlt (fun _=>?_);conv=>whnf)|(refine Uo hlu (fun _=>?_);conv=>whnf)|(refine msI ?_;conv=>whnf)|(refine hS2.XJ fun σ3 hS3 fB l=>?_;conv=>whnf)|(refine kA ?_;conv=>whnf)|(refine Br.mk (fun hc=>?_) fun hc=>?_<;>first|exact hc.elim|conv=>whnf)|(refine kB ?_))
     all_goals first
       |(exfalso;omega)
       |exact again.mk ⟨_,OE (by omega),_,_,_,_,_,_,_,_,_,_,_,_,_,rfl,by simp;omega,(hpop hx1 hx2 hk2 ho2 hs2 hS2 ff).up hlo (by show _=((s1.low u:Nat):Int);split<;>omega) hS3 fB,hv1,hv2,rfl,rfl⟩
end
theorem VQ {es:List (Int×Int)} {u w v:Int}:MH (es++[(u,w)]) v=if v=u then MH es v++[w]else MH es v:=by
 unfold MH
 rw[List.filter_append,List.map_append]
 by_cases h:v=u
 ·subst h;simp
 ·rw[if_neg h];simp[show ¬u=v from fun e=>h e.symm]
theorem KG {o g:Nat}:Gp (.map o g) (.map o g)=true:=by simp[Gp]
section
variable {G:GS} {Dl Aic:List (AV×AV)} {cn cn':Bool} {σ:List Obj} {BR Bv DR:List (Int×Int)} {DK:List (Int×Bool)} {stk:AV}
theorem HS.AhQ {K:List Obj→Prop} (h:HS G Dl cn σ BR Bv stk DK DR) (hK:∀σ',HS G Aic cn' σ' BR Bv stk DK DR→H9 σ σ' [1]→σ'.length=σ.length→K σ'):JR σ 1 (.mp G.a cn' Aic) K:=
 Jp h.h1 fun σ' f k l=>hK σ' ⟨k,f.get h.h2 (by simp),f.get h.h3 (by simp),f.get h.h4 (by simp),f.get h.h5 (by simp),f.get h.h6 (by simp)⟩ f l
end
theorem AfN {M:List (Int×AV)} {k:Int} {v:AV} {K:List (AV×AV)→Prop} (h:K (Qz (BO M k v))):SS .int (.int .i64 k) v (Qz M) K:=Mc (fv:=id) Fz h
structure YI (Dl:List (Int×AV)) (σ:List Obj) (nx:Int→List Int):Prop where
 pt:∀v,(Bh Dl v=none∧nx v=[])∨∃o g,Bh Dl v=some (.own o g 0 (nx v).length)∧nth σ o=some (.arr g 1 true true (vs (.int .i64) (nx v)))∧6<o
 inj:∀v w o g h n m,Bh Dl v=some (.own o g 0 n)→Bh Dl w=some (.own o h 0 m)→v=w
section
variable {Dl:List (Int×AV)} {σ σ':List Obj} {nx:Int→List Int} {es:List (Int×Int)} {u w:Int} {o g g' n:Nat} {F:List Nat}
theorem YI.start:YI [] σ (MH []):=⟨fun v=>.inl ⟨rfl,rfl⟩,fun v w o g h n m e=>by cases e⟩
theorem YI.keep (h:YI Dl σ nx) (f:H9 σ σ' F) (hF:∀o∈F,o≤6∨σ.length≤o):YI Dl σ' nx:=
 ⟨fun v=>(h.pt v).imp_right fun⟨o,g,a,b,c⟩=>⟨o,g,a,f.get b (fun hm=>by have:=hF o hm;have:=Dn b;omega),c⟩,h.inj⟩
theorem YI.toS (h:YI Dl σ nx):NxS Dl σ σ.length nx:=fun v=>(h.pt v).imp_right fun⟨o,g,a,b,c⟩=>⟨o,g,a,b,c,Dn b⟩
theorem YI.new (h:YI Dl σ (MH es)) (hu:Bh Dl u=none) (f:H9 σ σ' F) (hF:∀o∈F,o≤6∨σ.length≤o) (ho:σ.length≤o) (h6:6<o) (hq:nth σ' o=some (.arr g 1 true true (vs (.int .i64) [w]))):YI (BO Dl u (.own o g 0 1)) σ' (MH (es++[(u,w)])):=by
 have hn:MH es u=[]:=by
  rcases h.pt u with⟨_,e⟩|⟨_,_,e,_⟩
  ·exact e
  ·rw[hu]at e;cases e
 have hold:∀v o' g' n,Bh Dl v=some (.own o' g' 0 n)→o'<σ.length:=fun v o' g' n e=>by
  rcases h.pt v with⟨e',_⟩|⟨_,_,e',hn,_⟩
  ·rw[e]at e';cases e'
  ·rw[e]at e';cases e';exact Dn hn
 refine⟨fun v=>?_,fun v v' o' g' h' n m e e'=>?_⟩
 ·rw[Dh,VQ]
  by_cases hv:v=u
  ·subst hv;rw[if_pos rfl,if_pos rfl,hn];exact .inr ⟨o,g,rfl,hq,h6⟩
  ·rw[if_neg hv,if_neg hv];exact(h.keep f hF).pt v
 ·rw[Dh]at e e'
  by_cases hv:v=u
  ·by_cases hv':v'=u
   ·rw[hv,hv']
   ·rw[if_pos hv]at e;rw[if_neg hv']at e';have:=hold _ _ _ _ e';cases e;omega
  ·by_cases hv':v'=u
   ·rw[if_neg hv]at e;rw[if_pos hv']at e';have:=hold _ _ _ _ e;cases e';omega
   ·rw[if_neg hv]at e;rw[if_neg hv']at e';exact h.inj _ _ _ _ _ _ _ e e'
theorem YI.more {n0:Nat} (h:YI Dl σ (MH es)) (hu:Bh Dl u=some (.own o g 0 n0)) (f:H9 σ σ' F) (hF:∀p∈F,p≤6∨σ.length≤p∨p=o) (h6:6<o) (hq:nth σ' o=some (.arr g' 1 true true (vs (.int .i64) (MH es u++[w])))) (hn:n=(MH es u).length+1):YI (BO Dl u (.own o g' 0 n)) σ' (MH (es++[(u,w)])):=by
 subst hn
 refine⟨fun v=>?_,fun v v' o' g' h' n m e e'=>?_⟩
 ·rw[Dh,VQ]
  by_cases hv:v=u
  ·subst hv;rw[if_pos rfl,if_pos rfl];exact .inr ⟨o,g',by simp,hq,h6⟩
  ·rw[if_neg hv,if_neg hv]
   refine(h.pt v).imp_right fun⟨o',g',a,b,c⟩=>⟨o',g',a,f.get b fun hm=>?_,c⟩
   have:=Dn b
   rcases hF o' hm with k|k|k
   ·omega
   ·omega
   ·subst k;exact hv (h.inj _ _ _ _ _ _ _ a hu)
 ·rw[Dh]at e e'
  by_cases hv:v=u
  ·by_cases hv':v'=u
   ·rw[hv,hv']
   ·rw[if_pos hv]at e;rw[if_neg hv']at e';cases e;exact absurd (h.inj _ _ _ _ _ _ _ e' hu) hv'
  ·by_cases hv':v'=u
   ·rw[if_neg hv]at e;rw[if_pos hv']at e';cases e';exact absurd (h.inj _ _ _ _ _ _ _ e hu) hv
   ·rw[if_neg hv]at e;rw[if_neg hv']at e';exact h.inj _ _ _ _ _ _ _ e e'
end
theorem min_self (A:Int):Zr A A=A:=by unfold Zr;split<;>omega
structure Fa (S:List Int) (es:List (Int×Int)) (l:List (Int×Int)):Prop where
 nm:l.map (·.1)=S
 ls:∀p∈l,Least (MH es) p.1 p.2
theorem Fa.uniq {S:List Int} {es:List (Int×Int)} {l m:List (Int×Int)} (h:Fa S es l) (k:Fa S es m):l=m:=by
 have hl:l.length=m.length:=by
  have:=congrArg List.length (h.nm.trans k.nm.symm)
  simpa using this
 apply List.ext_getElem hl
 intro i h1 h2
 have e:(l[i]).1=(m[i]).1:=by
  have e1:(l.map (·.1))[i]'(by simpa using h1)=(m.map (·.1))[i]'(by simpa using h2):=by
   have:=h.nm.trans k.nm.symm
   simp only[this]
  simpa using e1
 have a:=h.ls _ (List.getElem_mem h1)
 have b:=k.ls _ (List.getElem_mem h2)
 rw[e]at a
 exact Prod.ext e (a.uniq b)
section
variable {G:GS} {Dl:List (AV×AV)} {cn:Bool} {nx:Int→List Int} {ids:List Int} {lo:Nat} {σ0 σ σ':List Obj} {s:TJ} {BR Bv DR:List (Int×Int)} {stk:AV} {DK:List (Int×Bool)} {F:List Nat}
theorem VE.keep (h:VE G Dl cn nx ids lo σ0 σ s BR Bv stk DK DR) (hlo:6<lo) (f:H9 σ σ' F) (hF:∀o∈F,σ.length≤o):VE G Dl cn nx ids lo σ0 σ' s BR Bv stk DK DR:=by
 have hn:=h.ln
 refine⟨h.hs.keep f (fun o ho=>by have:=hF o ho;omega),fun o ho hl=>(f.eq o (by omega) (fun hm=>by have:=hF o hm;omega)).trans (h.fl o ho hl),Nat.le_trans hn f.len,h.ab,h.tj,h.sT,h.sS,?_,h.vi⟩
 refine h.sk.keep f fun o ho=>?_
 rcases h.sk with⟨e,_⟩|⟨q,g,J,_,e,h2⟩
 ·right;rw[e];simp[AV.obj]
 ·right;rw[e];intro hc
  simp only[AV.obj,List.mem_singleton]at hc
  subst hc
  have:=Dn h2;have:=hF o ho;omega
theorem VE.start (h:HS G Dl cn σ [] [] (.sl false []) [] []) {ix low:Int→Nat} {sm:Int→Int}:VE G Dl cn nx ids σ.length σ σ ⟨0,fun _=>False,ix,low,[],[],sm⟩ [] [] (.sl false []) [] []:=
 ⟨h,fun _ _ _=>rfl,Nat.le_refl _,.start,.none,rfl,rfl,.inl ⟨rfl,rfl⟩,fun _ h=>h.elim⟩
theorem VE.ixl (h:VE G Dl cn nx ids lo σ0 σ s BR Bv stk DK DR):BR.length≤ids.length:=by
 have:=JH (R:=BR.map (·.1)) (W:=ids) (show (BR.map (·.1)).Nodup from h.ab.ixN) fun v hv=>h.vi v (Classical.byContradiction fun hc=>Jd.1 (h.ab.ix0 v hc) hv)
 simpa using this
theorem VE.all (h:VE G Dl cn nx ids lo σ0 σ s BR Bv stk DK DR) {v:Int} (hv:s.vis v):∃x,Bh DR v=some x∧Least nx v x:=
 ⟨s.sm v,h.ab.sm v hv (by rw[h.sS];simp),h.tj.ok v hv (by rw[h.sS];simp)⟩
end
theorem YH (es:List (Int×Int)) (v:Int):(MH es v).length≤es.length:=by
 unfold MH;rw[List.length_map];exact List.length_filter_le _ _
set_option maxHeartbeats 16000000 in
theorem AdA {types:List (List UInt8)} {tn:Bool} (hl:types.length<2^63) {g:GG} (hg:g.ok) (hN:g.nodes.length≤10000) (hE:g.edges.length≤10000):
 AQ (Ac tab) 12 [g.av,.sl tn (vs .str types)] (fun v=>∃b l,v=.sl b (vs pv l)∧(Dx g≠0→l=[])∧(Dx g=0→Fa (G9 g) (JI types g) l)):=by
 have pc:=Abc hg
 by_cases hck:Dx g=0
 case neg=>
  refine Ai rfl rfl ?_
  (conv=>whnf);repeat' (first|(refine Aa pc ?_;rintro _ rfl;conv=>whnf)|(refine kA ?_;conv=>whnf)|(refine Br.mk (fun hc=>?_) fun hc=>?_<;>first|exact hc.elim|conv=>whnf)|(refine kB ?_))
  all_goals first|exact absurd ‹_› hck|exact⟨false,[],rfl,fun _=>rfl,fun h=>absurd h hck⟩
 have AhP:=Abd hck
 have hnd:=AfL hck
 have hil:=KE g
 have hes:∀e∈JI types g,e.1∈G9 g∧e.2∈G9 g:=fun e he=>by
  obtain⟨x,hx,rfl⟩:=List.mem_map.1 he
  exact AhP x (List.mem_filter.1 hx).1
 have hEl:(Jo types g).length≤g.edges.length:=List.length_filter_le _ _
 have Amd:(JI types g).length=(Jo types g).length:=by simp[JI]
 obtain⟨_,⟨be,rfl⟩,pe⟩:=(AfM (types:=types) (tn:=tn) hl hg (by omega)).Xj
 rw[hck]at pc
 refine Ai rfl rfl ?_
 (conv=>whnf);repeat' (first|((first|refine Aa pc ?_|refine Aa pe ?_);rintro _ rfl;conv=>whnf)|(refine kA ?_;conv=>whnf)|(refine Br.mk (fun hc=>?_) fun hc=>?_<;>first|exact hc.elim|conv=>whnf)|(refine kB ?_))
 all_goals first|(exfalso;omega)|skip
 refine Ah (fun m env s=>∃(i c:Nat) (σ:List Obj) (Dl:List (Int×AV)) (cn:Bool),m=(Jo types g).length-i∧i≤(Jo types g).length∧HS ⟨1,2,3,4,5,6⟩ (Qz Dl) cn σ [] [] (.sl false []) [] []∧nth σ 0=some (.arr 0 4 true true [g.av])∧YI Dl σ (MH ((JI types g).take i))∧env=[(2,.ref 0 0 0 0),(5,.ref 6 6 0 0),(27,.sl be (vs GE.av (Jo types g))),(28,.int .i64 (Jo types g).length),(29,.int .i64 i)]∧s=⟨σ,c⟩) ?_ _ _ _ ⟨0,_,_,[],_,rfl,by omega,⟨rfl,rfl,rfl,rfl,rfl,rfl⟩,rfl,.start,rfl,rfl⟩
 rintro _ _ _ ⟨i,c,σ,Dl,cn,rfl,hi,hS,h00,hB,rfl,rfl⟩
 refine⟨rfl,?_⟩
 have h6l:=Dn hS.h6
 by_cases hlt:i<(Jo types g).length
 ·have hEt:(JI types g).take (i+1)=(JI types g).take i++[(((Jo types g)[i]).fr,((Jo types g)[i]).to)]:=by
   rw[List.take_succ_eq_append_getElem (by omega)];simp[JI]
  rcases hB.pt ((Jo types g)[i]).fr with⟨hno,hnil⟩|⟨o,gq,hno,hoq,ho6⟩
  ·(conv=>whnf);repeat' (first|(refine ND fun σ1 f1 k1 l1=>?_;have hS:=hS.keep f1 (by simp);conv=>whnf)|(rw [k1];conv=>whnf)|(refine Jp k1 fun σ2 f2 k1 l2=>?_;have hS:=hS.keep f2 (by simp;omega);conv=>whnf)|(rw [hS.h6];conv=>whnf)|(rw [hS.h1];conv=>whnf)|(refine AdB hno ?_;conv=>whnf)|(refine need.mk KF ?_;conv=>whnf)|(refine need.mk KG ?_;conv=>whnf)|(refine AfN ?_;conv=>whnf)|(refine kA ?_;conv=>whnf)|(refine Br.mk (fun hc=>?_) fun hc=>?_<;>first|exact hc.elim|conv=>whnf)|(refine kB ?_))
   all_goals first|(exfalso;omega)|skip
   dsimp only[push,List.isEmpty_cons,List.length_singleton]
   obtain⟨σ3,hσ3⟩:∃σ3,σ3=σ2++[Obj.arr (c+1) 1 (!false) true [.int .i64 ((Jo types g)[i]).to]]:=⟨_,rfl⟩
   rw[← hσ3]
   have f3:H9 σ2 σ3 []:=by rw[hσ3];exact⟨by simp,fun o ho _=>QB ho⟩
   have q3:nth σ3 σ2.length=some (.arr (c+1) 1 true true (vs (.int .i64) [((Jo types g)[i]).to])):=by rw[hσ3];exact OC
   replace hS:=hS.keep f3 (by simp)
   have k3:=f3.get k1 (by simp)
   have ff:=(f1.trans f2).trans f3
   have hne:σ.length≠σ2.length:=by rw[l2,l1];exact Nat.ne_of_lt (Nat.lt_succ_self _)
   have hge:σ.length≤σ2.length:=by rw[l2,l1];exact Nat.le_succ _
   have h6:6<σ2.length:=by omega
   conv=>whnf
   (conv=>whnf);repeat' (first|(rw [k3];conv=>whnf)|(rw [hS.h6];conv=>whnf)|(rw [hS.h1];conv=>whnf)|(refine need.mk KF ?_;conv=>whnf)|(refine need.mk KG ?_;conv=>whnf)|(refine AfN ?_;conv=>whnf)|(refine hS.AhQ fun σ4 hS4 f4 l4=>?_;have AfO:=f4.get (ff.get h00 (by simp;omega)) (by simp);have k4:=f4.get k3 (by simp;omega);conv=>whnf)|(rw [k4];conv=>whnf)|(rw [hS4.h6];conv=>whnf)|(refine kA ?_;conv=>whnf)|(refine Br.mk (fun hc=>?_) fun hc=>?_<;>first|exact hc.elim|conv=>whnf)|(refine kB ?_))
   all_goals first
        |(exfalso;omega)
        |exact again.mk ⟨_,by omega,i+1,_,_,_,_,rfl,by omega,hS4,AfO,(by rw[hEt];exact hB.new hno (ff.trans f4) (by simp) hge h6 (f4.get q3 (by simp;omega))),rfl,rfl⟩
  ·have hol:=Dn hoq
   have hnl:(MH ((JI types g).take i) ((Jo types g)[i]).fr).length≤10000:=Nat.le_trans (YH _ _) (by rw[List.length_take];omega)
   (conv=>whnf);repeat' (first|(refine ND fun σ1 f1 k1 l1=>?_;have hS:=hS.keep f1 (by simp);conv=>whnf)|(rw [k1];conv=>whnf)|(refine Jp k1 fun σ2 f2 k1 l2=>?_;have hS:=hS.keep f2 (by simp;omega);have hoq:=f2.get (f1.get hoq (by simp)) (by simp;omega);have ff:=f1.trans f2;conv=>whnf)|(rw [hoq];conv=>whnf)|(rw [hS.h6];conv=>whnf)|(rw [hS.h1];conv=>whnf)|(refine fkA hno (fun _=>?_);conv=>whnf)|(refine Abe (f:=.int .i64) (l:=MH ((JI types g).take i) ((Jo types g)[i]).fr) (x:=((Jo types g)[i]).to) (fun _=>rfl) rfl (by omega) ?_;conv=>whnf)|(refine Jp hoq fun σ3 f3 hoq l3=>?_;have hS:=hS.keep f3 (by simp;omega);have k1:=f3.get k1 (by simp;omega);conv=>whnf)|(refine need.mk KF ?_;conv=>whnf)|(refine need.mk KG ?_;conv=>whnf)|(refine AfN ?_;conv=>whnf)|(refine hS.AhQ fun σ4 hS4 f4 l4=>?_;have AfO:=f4.get (f3.get (ff.get h00 (by simp;omega)) (by simp;omega)) (by simp);have k4:=f4.get k1 (by simp;omega);conv=>whnf)|(rw [k4];conv=>whnf)|(rw [hS4.h6];conv=>whnf)|(refine kA ?_;conv=>whnf)|(refine Br.mk (fun hc=>?_) fun hc=>?_<;>first|exact hc.elim|conv=>whnf)|(refine kB ?_))
   all_goals first
        |(exfalso;omega)
        |(refine again.mk ⟨_,?_,i+1,_,_,_,_,rfl,?_,hS4,AfO,?_,rfl,rfl⟩
          ·omega
          ·omega
          ·rw[hEt]
           exact hB.more hno ((ff.trans f3).trans f4) (by intro p hp;simp at hp;omega) ho6 (f4.get hoq (by simp;omega)) rfl)
 have hie:i=(Jo types g).length:=by omega
 subst hie
 rw[List.take_of_length_le (by omega)]at hB
 (conv=>whnf);repeat' (first|(refine ND fun σ1 f1 k1 l1=>?_;have hS:=hS.keep f1 (by simp);have hB:=hB.keep f1 (by simp);have h00:=f1.get h00 (by simp);conv=>whnf)|(rw [h00];conv=>whnf)|(refine kA ?_;conv=>whnf)|(refine Br.mk (fun hc=>?_) fun hc=>?_<;>first|exact hc.elim|conv=>whnf)|(refine kB ?_))
 all_goals first|(exfalso;omega)|skip
 replace l1:σ1.length=σ.length+1:=l1
 replace k1:nth σ1 σ.length=some (.arr c 2 false true []):=k1
 have hlo:6<σ1.length:=by omega
 have hnx:=hB.toS
 have hBn:∀v,(MH (JI types g) v).length≤10000:=fun v=>Nat.le_trans (YH _ _) (by omega)
 have hcl:∀v,∀w∈MH (JI types g) v,w∈G9 g:=fun v w hw=>(hes _ (P8.1 hw)).2
 have hqo:σ.length<σ1.length:=by omega
 have hq6:6<σ.length:=h6l
 clear hlt hi hB f1 l1 h6l pe pc
 generalize σ.length=q0 at k1 hqo hq6
 refine Ah (fun m env s=>∃(i c1:Nat) (σ2:List Obj) (s1:TJ) (BR Bv:List (Int×Int)) (stk:AV) (DK:List (Int×Bool)) (DR:List (Int×Int)),m=g.nodes.length-i∧i≤g.nodes.length∧VE ⟨1,2,3,4,5,6⟩ (Qz Dl) cn (MH (JI types g)) (G9 g) σ1.length σ1 σ2 s1 BR Bv stk DK DR∧(∀ v∈(G9 g).take i,s1.vis v)∧env=[(2,.ref 0 0 0 0),(5,.ref 6 6 0 0),(8,.own q0 c 0 0),(52,.sl g.nn (vs GN.av g.nodes)),(53,.int .i64 g.nodes.length),(54,.int .i64 i)]∧s=⟨σ2,c1⟩) ?_ _ _ _ ⟨0,_,σ1,_,_,_,_,_,_,rfl,by omega,VE.start (ix:=fun _=>0) (low:=fun _=>0) (sm:=fun _=>0) hS,by simp,rfl,rfl⟩
 clear hS
 rintro _ _ _ ⟨i,c1,σ2,s1,BR,Bv,stk,DK,DR,rfl,hi,hV,AdC,rfl,rfl⟩
 refine⟨rfl,?_⟩
 by_cases hlt:i<g.nodes.length
 ·have hid:(g.nodes[i]).id∈G9 g:=List.mem_map_of_mem (List.getElem_mem hlt)
  have htk:=Td hlt
  have hV0:=hV
  have hS:=hV.hs
  have hl2:=hV.ln
  have AeV:∀{s2:TJ},s2.vis (g.nodes[i]).id→(∀ v,s1.vis v→s2.vis v)→∀v∈(G9 g).take (i+1),s2.vis v:=fun a b v hv=>by
   rw[htk,List.mem_append,List.mem_singleton]at hv
   rcases hv with hv|rfl
   ·exact b v (AdC v hv)
   ·exact a
  by_cases hv:s1.vis (g.nodes[i]).id
  ·have hix:=hV.ab.ix _ hv
   (conv=>whnf);repeat' (first|(refine ND fun σ3 f3 k3 l3=>?_;have hS:=hS.keep f3 (by simp);conv=>whnf)|(rw [k3];conv=>whnf)|(refine Jp k3 fun σ4 f4 k3 l4=>?_;have hS:=hS.keep f4 (by simp;omega);have hV:=hV.keep hlo (f3.trans f4) (by simp);conv=>whnf)|(rw [hS.h6];conv=>whnf)|(rw [hS.h2];conv=>whnf)|(refine Uo hix (fun _=>?_);conv=>whnf)|(refine kA ?_;conv=>whnf)|(refine Br.mk (fun hc=>?_) fun hc=>?_<;>first|exact hc.elim|conv=>whnf)|(refine kB ?_))
   all_goals first
        |(exfalso;omega)
        |exact again.mk ⟨_,by omega,i+1,_,_,_,_,_,_,_,_,rfl,by omega,hV,AeV hv (fun _ h=>h),rfl,rfl⟩
  ·have hix:=hV.ab.ix0 _ hv
   have Ame:=hV.ixl
   (conv=>whnf);repeat' (first|(refine ND fun σ3 f3 k3 l3=>?_;have hS:=hS.keep f3 (by simp);conv=>whnf)|(rw [k3];conv=>whnf)|(refine Jp k3 fun σ4 f4 k3 l4=>?_;have hS:=hS.keep f4 (by simp;omega);have hV:=hV.keep hlo (f3.trans f4) (by simp);conv=>whnf)|(rw [hS.h6];conv=>whnf)|(rw [hS.h2];conv=>whnf)|(refine fkZ hix ?_;conv=>whnf)|(refine (AfQ (B:=10000) hlo hnd (by omega) hBn (by omega) hnx hcl (by omega) hV hv hid).mono ?_;rintro _ _ ⟨σ5,c5,s2,Amf,Alo,AjX,AdD,AdE,rfl,rfl,hV2,hv2,hv3⟩;conv=>whnf)|(refine kA ?_;conv=>whnf)|(refine Br.mk (fun hc=>?_) fun hc=>?_<;>first|exact hc.elim|conv=>whnf)|(refine kB ?_))
   all_goals first
        |(exfalso;omega)
        |exact again.mk ⟨_,by omega,i+1,_,_,_,_,_,_,_,_,rfl,by omega,hV2,AeV hv2 hv3,rfl,rfl⟩
 have hie:i=g.nodes.length:=by omega
 subst hie
 rw[List.take_of_length_le (by omega)]at AdC
 have hS:=hV.hs
 have h02:nth σ2 0=some (.arr 0 4 true true [g.av]):=(hV.fl 0 (by omega) (by omega)).trans h00
 have hq2:nth σ2 q0=some (.arr c 2 false true (vs pv [])):=(hV.fl q0 (by omega) hqo).trans k1
 have hall:=fun v hv=>hV.all (AdC v hv)
 clear hV AdC hlt k1 h00
 (conv=>whnf);repeat' (first|(rw [h02];conv=>whnf)|(refine kA ?_;conv=>whnf)|(refine Br.mk (fun hc=>?_) fun hc=>?_<;>first|exact hc.elim|conv=>whnf)|(refine kB ?_))
 all_goals first|(exfalso;omega)|skip
 refine Ah (fun m env s=>∃(i c1 ga n:Nat) (b:Bool) (σ:List Obj) (l:List (Int×Int)),m=g.nodes.length-i∧i≤g.nodes.length∧n=i∧l.length=i∧l.map (·.1)=(G9 g).take i∧(∀ p∈l,Least (MH (JI types g)) p.1 p.2)∧HS ⟨1,2,3,4,5,6⟩ (Qz Dl) cn σ BR Bv stk DK DR∧nth σ q0=some (.arr ga 2 b true (vs pv l))∧env=[(5,.ref 6 6 0 0),(8,.own q0 ga 0 n),(76,.sl g.nn (vs GN.av g.nodes)),(77,.int .i64 g.nodes.length),(78,.int .i64 i)]∧s=⟨σ,c1⟩) ?_ _ _ _ ⟨0,_,_,_,_,σ2,[],rfl,by omega,rfl,rfl,by simp,by simp,hS,hq2,rfl,rfl⟩
 clear hS hq2 h02 hi
 rintro _ _ _ ⟨i,c1,ga,n,b,σ,l,rfl,hi,rfl,hll,hl1,hl2,hS,hq,rfl,rfl⟩
 refine⟨rfl,?_⟩
 have h6l:=Dn hS.h6
 have hql:=Dn hq
 by_cases hlt:n<g.nodes.length
 ·obtain⟨x,hx1,hx2⟩:=hall (g.nodes[n]).id (List.mem_map_of_mem (List.getElem_mem hlt))
  have m1:(l++[((g.nodes[n]).id,x)]).map (·.1)=(G9 g).take (n+1):=by rw[List.map_append,hl1,Td hlt];rfl
  have m2:∀p∈l++[((g.nodes[n]).id,x)],Least (MH (JI types g)) p.1 p.2:=fun p hp=>by
   rcases List.mem_append.1 hp with h|h
   ·exact hl2 p h
   ·rw[List.mem_singleton.1 h];exact hx2
  (conv=>whnf);repeat' (first|(refine ND fun σ3 f3 k3 l3=>?_;have hS:=hS.keep f3 (by simp);conv=>whnf)|(rw [k3];conv=>whnf)|(refine Jp k3 fun σ4 f4 k3 l4=>?_;have hS:=hS.keep f4 (by simp;omega);have hq:=(f3.trans f4).get hq (by simp;omega);conv=>whnf)|(rw [hS.h6];conv=>whnf)|(rw [hS.h5];conv=>whnf)|(rw [hq];conv=>whnf)|(refine Uo hx1 (fun _=>?_);conv=>whnf)|(refine Abe (f:=pv) (l:=l) (x:=((g.nodes[n]).id,x)) Adc hll.symm (by omega) ?_;conv=>whnf)|(refine Jp hq fun σ5 f5 hq l5=>?_;have hS:=hS.keep f5 (by simp;omega);conv=>whnf)|(refine kA ?_;conv=>whnf)|(refine Br.mk (fun hc=>?_) fun hc=>?_<;>first|exact hc.elim|conv=>whnf)|(refine kB ?_))
  all_goals first
   |(exfalso;omega)
   |exact again.mk ⟨_,by omega,n+1,_,_,_,_,_,l++[((g.nodes[n]).id,x)],rfl,by omega,by omega,by simp[hll],m1,m2,hS,hq,rfl,rfl⟩
 ·have hne:n=g.nodes.length:=by omega
  rw[List.take_of_length_le (by omega)]at hl1
  (conv=>whnf);repeat' (first|(rw [hq];conv=>whnf)|(refine kA ?_;conv=>whnf)|(refine Br.mk (fun hc=>?_) fun hc=>?_<;>first|exact hc.elim|conv=>whnf)|(refine kB ?_))
  all_goals first
   |(exfalso;omega)
   |(refine ⟨b,l,?_,fun h=>absurd hck h,fun _=>⟨hl1,hl2⟩⟩;first|rfl|exact congrArg (AV.sl b) (AjH (by omega)))
end AI
end Go.Proofs.YtjjhejbffgaabaaGreatDoor
