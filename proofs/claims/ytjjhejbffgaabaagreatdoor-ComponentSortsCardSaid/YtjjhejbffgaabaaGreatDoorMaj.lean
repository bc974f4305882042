/- component.Strong: a visit. component.Strong: the successors of each node. Labels: two edges are joined in either order. Plain. Strong components lie within weak ones; both are the same if all edges are reversed. Plain. A topological order exists just where there is no loop and every strong component has one node. Plain. -/
import Derived.Test.YtjjhejbffgaabaaGreatDoorMai
import Derived.Test.YtjjhejbffgaabaaGreatDoorMag
import Derived.Test.YtjjhejbffgaabaaGreatDoorMae
set_option linter.unusedVariables false
set_option maxRecDepth 4000
namespace Go.Proofs.YtjjhejbffgaabaaGreatDoor
namespace AI
abbrev P8 (M:List (Int×AV)):List (AV×AV):=FM (.int .i64) id M
theorem fkA {M:List (Int×AV)} {k:Int} {v:AV} {K:Option (Nat×AV)→Prop} (h:Ba M k=some v) (hK:∀i,K (some (i,v))):Hy .int (.int .i64 k) (P8 M) K:=
 LK Fe (fun hm=>by rw[h]at hm;cases hm) fun i w hm=>by
  rw[h]at hm
  cases hm
  exact hK i
theorem AbE {M:List (Int×AV)} {k:Int} {K:Option (Nat×AV)→Prop} (h:Ba M k=none) (hK:K none):Hy .int (.int .i64 k) (P8 M) K:=
 LK Fe (fun _=>hK) fun i w hm=>by rw[h]at hm;cases hm
theorem Agf {M:List (Int×Bool)} {k:Int} {K:Option (Nat×AV)→Prop} (h:Ba M k=some true) (hK:∀i,K (some (i,.bool true))):Hy .int (.int .i64 k) (Jm M) K:=
 fkT (fun hm=>by rw[h]at hm;cases hm) fun i w hm _=>by
  rw[h]at hm
  cases hm
  exact hK i
theorem Agh {M:List (Int×Bool)} {k:Int} {K:Option (Nat×AV)→Prop} (h:Ba M k=none) (hK:K none):Hy .int (.int .i64 k) (Jm M) K:=
 fkT (fun _=>hK) fun i w hm _=>by rw[h]at hm;cases hm
theorem J3 {n c:Nat} {σ:List Obj} (h:σ.length=n):compact n (.EY []) ⟨σ,c⟩=some (.EY [],⟨σ,c⟩):=by
 subst h
 simp[compact,AV.closed,Eh,List.take_length]
structure VE (G:GS) (Df:List (AV×AV)) (cn:Bool) (nx:Int→List Int) (ids:List Int) (lo:Nat) (σ0 σ:List Obj) (s:TJ) (BM Bc:List (Int×Int)) (stk:AV) (Dy:List (Int×Bool)) (DK:List (Int×Int)):Prop where
 hs:HS G Df cn σ BM Bc stk Dy DK
 fl:∀o,(o<2∨6<o)→o<lo→nth σ o=nth σ0 o
 ln:lo≤σ.length
 ab:AB s BM Bc Dy DK
 tj:EO nx s
 sT:s.T=[]
 sS:s.S=[]
 sk:Stk lo σ stk []
 vi:∀v,s.vis v→v∈ids
section
variable {G:GS} {Df:List (Int×AV)} {cn:Bool} {nx:Int→List Int} {ids:List Int} {lo:Nat} {σ0 σ:List Obj} {s:TJ} {BM Bc DK:List (Int×Int)} {stk:AV} {Dy:List (Int×Bool)}
theorem VR.done {L:List (Int×Nat)} {pt gt:Nat} {J:List (Int×Nat)} {Df:List (AV×AV)} (h:VR G Df cn nx ids lo σ0 σ s [] BM Bc stk Dy DK pt gt J):VE G Df cn nx ids lo σ0 σ s BM Bc stk Dy DK:=by
 have hT:s.T=[]:=h.sT
 have hS:s.S=[]:=by
  refine List.eq_nil_iff_forall_not_mem.2 fun v hv=>?_
  obtain⟨p,hp,_⟩:=h.tj.rt v hv
  rw[hT]at hp
  cases hp
 exact⟨h.hs,h.fl,h.ln,h.ab,h.tj,hT,hS,hS▸h.sk,h.vi⟩
theorem VE.first {Df:List (AV×AV)} {σ2 σ3:List Obj} {Hz:AV} {m:Int} {F:List Nat} {pt gt:Nat} (hlo:6<lo) (h:VE G Df cn nx ids lo σ0 σ s BM Bc stk Dy DK) (hm:¬s.vis m) (hid:m∈ids)
 (hs:HS G Df cn σ2 (BJ BM m BM.length) (BJ Bc m BM.length) Hz (BJ Dy m true) DK) (f2:HY σ σ2 F) (hF:∀o∈F,(2≤o∧o≤6)∨lo≤o) (hk2:Stk lo σ2 Hz [m]) (f3:HY σ2 σ3 []) (hpt:lo≤pt) (hob:pt∉Hz.obj) (htd:nth σ3 pt=some (.arr gt 2 true true (vs Un [(m,0)]))):
 VR G Df cn nx ids lo σ0 σ3 (LM s m []) [(m,0)] (BJ BM m BM.length) (BJ Bc m BM.length) Hz (BJ Dy m true) DK pt gt []:=by
 have XA:m∉s.S:=by rw[h.sS];simp
 have hg:Goes nx s m []:=⟨by rw[h.sT],by simp,by rw[h.sT];simp⟩
 have ff:=f2.trans f3
 refine⟨hs.keep f3 (by simp),Jo h.fl h.ln ff (fun o ho=>by rw[List.append_nil]at ho;exact hF o ho),Nat.le_trans h.ln ff.len,h.ab.enter hm XA,h.tj.enter hm hg,rfl,?_,htd,⟨hpt,hob⟩,?_⟩
 ·have:(LM s m []).S=[m]:=by show s.S++[m]=[m];rw[h.sS];rfl
  rw[this]
  exact hk2.keep f3 (by simp)
 ·rintro v (hv|rfl)
  ·exact h.vi v hv
  ·exact hid
theorem Agi {c:Nat} {m:Int} {Df:List (AV×AV)} (hlo:6<lo) (h:VE G Df cn nx ids lo σ0 σ s BM Bc stk Dy DK) (hm:¬s.vis m) (hl:BM.length<2^40):
 BL (Ae tab) 57 [.ref 6 G.f 0 0,.int .i64 m] ⟨σ,c⟩
  fun out s'=>∃σ' c' Hz F,out=.ok (.agg [.int .i64 m,.int .i64 0])∧s'=⟨σ',c'⟩∧HS G Df cn σ' (BJ BM m BM.length) (BJ Bc m BM.length) Hz (BJ Dy m true) DK∧Stk lo σ' Hz [m]∧(∀ o∈Hz.obj,o<σ'.length)∧HY σ σ' F∧∀o∈F,(2≤o∧o≤6)∨lo≤o:=by
 have h0:=h.ab.ix0 m hm
 rcases h.sk with⟨rfl,_⟩|⟨q,g,J,h1,rfl,h2⟩
 ·refine(Agj h.hs h0 hl).mono ?_
  rintro _ _ ⟨σ',c',o,g,rfl,rfl,a1,a2,a3,a4⟩
  exact⟨_,_,_,_,rfl,rfl,a1,.inr ⟨o,g,[],Nat.le_trans h.ln a3,rfl,a2⟩,fun o' ho'=>by simp only[AV.obj,List.mem_singleton]at ho';subst ho';exact Dh a2,a4,by simp⟩
 ·refine(AeI (S:=[]) (J:=J) h.hs rfl h0 (by simp) h2 (by omega)).mono ?_
  rintro _ _ ⟨σ',c',g',rfl,rfl,a1,a2,a3⟩
  exact⟨_,_,_,_,rfl,rfl,a1,.inr ⟨q,g',[],h1,rfl,a2⟩,fun o' ho'=>by simp only[AV.obj,List.mem_singleton]at ho';subst ho';exact Dh a2,a3,by simp;omega⟩
set_option maxHeartbeats 8000000 in
theorem Adj {B c:Nat} {m:Int} (hlo:6<lo) (hnd:ids.Nodup) (hil:ids.length<2^30) (hB:∀v,(nx v).length≤B) (hB2:B<2^30) (hnx:NxS Df σ0 lo nx) (hcl:∀v,∀w∈nx v,w∈ids) (hix:BM.length<2^40)
 (h:VE G (P8 Df) cn nx ids lo σ0 σ s BM Bc stk Dy DK) (hm:¬s.vis m) (hid:m∈ids):
 BL (Ae tab) 33 [.ref 6 G.f 0 0,.int .i64 m] ⟨σ,c⟩
  fun out s'=>∃σ' c' s2 Agk AeJ Hz IZ Ld,out=.ok (.EY [])∧s'=⟨σ',c'⟩∧VE G (P8 Df) cn nx ids lo σ0 σ' s2 Agk AeJ Hz IZ Ld∧s2.vis m∧∀v,s.vis v→s2.vis v:=by
 refine BI rfl rfl ?_
 (conv=>whnf);repeat' (first|(refine (Agi hlo h hm hix).mono ?_;rintro _ _ ⟨σ2,c2,Agl,F,rfl,rfl,b1,b2,b3,b4,b5⟩;conv=>whnf)|(refine MO fun σ3 f3 k3 l3=>?_;conv=>whnf)|(refine kA ?_;conv=>whnf)|(refine Br.mk (fun hc=>?_) fun hc=>?_<;>first|exact hc.elim|conv=>whnf)|(refine kB ?_))
 have k3':nth σ3 σ2.length=some (.arr c2 2 true true (vs Un ([(m,0)]++[]))):=k3
 have AeL:lo≤σ2.length:=Nat.le_trans h.ln b4.len
 have hR:=h.first hlo hm hid b1 b4 b5 b2 f3 AeL (fun hc=>Nat.lt_irrefl _ (b3 _ hc)) k3'
 have hR1:(LM s m []).vis m:=.inr rfl
 have hR2:∀v,s.vis v→(LM s m []).vis v:=fun v hv=>.inl hv
 clear k3 k3' f3 b1 b2 b3 b4 b5 l3
 refine Ah (fun μ env st=>∃(σ1:List Obj) (c1:Nat) (s1:TJ) (L:List (Int×Nat)) (AbF ZL:List (Int×Int)) (AeM:AV) (Yj:List (Int×Bool)) (AbG:List (Int×Int)) (pt gt n:Nat) (J:List (Int×Nat)),μ=wA B ids AbF L∧n=L.length∧VR G (P8 Df) cn nx ids lo σ0 σ1 s1 L AbF ZL AeM Yj AbG pt gt J∧s1.vis m∧(∀ v,s.vis v→s1.vis v)∧env=[(0,.ref 6 G.f 0 0),(4,.own pt gt 0 n)]∧st=⟨σ1,c1⟩) ?_ _ _ _ ⟨_,_,_,_,_,_,_,_,_,_,_,_,_,rfl,rfl,hR,hR1,hR2,rfl,rfl⟩
 clear hR hR1 hR2 h hix hm hid AeL
 rintro _ _ _ ⟨σ1,c1,s1,L,AbF,ZL,AeM,Yj,AbG,pt,gt,n,J,rfl,hn,hR,hv1,hv2,rfl,rfl⟩
 refine⟨rfl,?_⟩
 have htd:=hR.td
 obtain⟨hSl,hLl⟩:=hR.len hnd
 rcases List.eq_nil_or_concat L with rfl|⟨L0,⟨t,k⟩,hLe⟩
 ·have hn0:n=0:=hn
  (conv=>whnf);repeat' (first  |(refine kA ?_;conv=>whnf)|(refine Br.mk (fun hc=>?_) fun hc=>?_<;>first|exact hc.elim|conv=>whnf)|(refine kB ?_))
  all_goals first
   |(exfalso;omega)
   |exact⟨_,_,_,_,_,_,_,_,rfl,rfl,hR.done (L:=[]),hv1,hv2⟩
 rw[List.concat_eq_append]at hLe
 subst hLe
 have hn1:n=L0.length+1:=by rw[hn];simp
 have hT:s1.T=(t,k)::L0.reverse:=by rw[hR.sT];simp
 have htT:(t,k)∈s1.T:=by rw[hT];simp
 have XB:=hR.tj.tS _ htT
 have htv:=hR.tj.sV _ XB
 have hkl:=(hR.tj.tA _ htT).1
 have hlow:=hR.tj.lo t XB
 have hBt:=hB t
 obtain⟨W,hW⟩:∃W,W=vs Un (L0++[(t,k)]++J):=⟨_,rfl⟩
 rw[← hW]at htd
 have hw1:∀j,j=L0.length→nth W j=some (Un (t,k)):=fun j hj=>by rw[hW,hj,Aw,vs,List.getElem?_map];simp
 have hlt:=hR.ab.low t htv
 have hit:=hR.ab.ix t htv
 have hp:=hR.tp
 dsimp only at XB htv hkl hlow
 have hlow1:=hlow.1
 have hS:=hR.hs
 by_cases hk:k=(nx t).length
 case neg=>
  rcases hnx t with⟨hn0,hnil⟩|⟨o,g,hno,hoo,ho6,hol⟩
  ·rw[hnil]at hk hkl
   exact absurd (Nat.le_zero.1 hkl) hk
  have hkl2:k<(nx t).length:=by omega
  have Rf:nth σ1 o=some (.arr g 1 true true (vs (.int .i64) (nx t))):=(hR.fl o (.inr ho6) hol).trans hoo
  have hwk:(nx t)[k]?=some (nx t)[k]:=List.getElem?_eq_getElem hkl2
  obtain⟨X,hX⟩:∃X,X=vs (.int .i64) (nx t):=⟨_,rfl⟩
  rw[← hX]at Rf
  have hwn:∀j,j=k→nth X j=some (.int .i64 (nx t)[k]):=fun j hj=>by rw[hX,hj];exact nV hkl2
  have hwi:=hcl t _ (List.getElem_mem hkl2)
  generalize (nx t)[k]=w at hwk hwi hwn
  have hset:W.set (Int.toNat ((n:Int)-1)) (Bz (Un (t,k)) (0+1) (.int .i64 ((k:Int)+1)))=vs Un (L0++[(t,k+1)]++J):=by
   have e:Int.toNat ((n:Int)-1)=L0.length:=by omega
   rw[e,hW]
   show(vs Un (L0++[(t,k)]++J)).set L0.length (Un (t,k+1))=_
   simp[vs]
  by_cases hv:s1.vis w
  ·have hwx:=hR.ab.ix w hv
   by_cases hwS:w∈s1.S
   ·have hon:=hR.ab.on w hwS
    obtain⟨W',hW'⟩:∃W',W'=vs Un (L0++[(t,k+1)]++J):=⟨_,rfl⟩
    rw[← hW']at hset
    have hw3:∀j,j=L0.length→nth W' j=some (Un (t,k+1)):=fun j hj=>by rw[hW',hj,Aw,vs,List.getElem?_map];simp
    (conv=>whnf);repeat' (first|(rw [htd];conv=>whnf)|(rw [hS.h6];conv=>whnf)|(rw [hS.h1];conv=>whnf)|(rw [hS.h2];conv=>whnf)|(rw [hS.h3];conv=>whnf)|(rw [hS.h4];conv=>whnf)|(rw [Rf];conv=>whnf)|(refine Am (hw1 _ (by omega)) ?_;conv=>whnf)|(refine Am (hw3 _ (by omega)) ?_;conv=>whnf)|(refine fkA hno (fun _=>?_);conv=>whnf)|(refine Am (hwn _ (by omega)) ?_;conv=>whnf)|(refine Ec hset ?_;conv=>whnf)|(refine I4 htd fun σ1 fA htd l=>?_;have hS:=hS.keep fA (by simp;omega);have Rf:=fA.get Rf (by simp;omega);conv=>whnf)|(refine TD hwx (fun _=>?_);conv=>whnf)|(refine TD hlt (fun _=>?_);conv=>whnf)|(refine Agf hon (fun _=>?_);conv=>whnf)|(refine Za ?_;conv=>whnf)|(refine hS.V7 fun σ1 hS fB l=>?_;conv=>whnf)|(refine kA ?_;conv=>whnf)|(refine Br.mk (fun hc=>?_) fun hc=>?_<;>first|exact hc.elim|conv=>whnf)|(refine kB ?_))
    all_goals first
     |(exfalso;omega)
     |exact again.mk ⟨_,ZM (by omega),_,_,_,_,_,_,_,_,_,_,_,_,_,rfl,by simp;omega,hR.see hlo hwk hv hwS (by split<;>omega) fA (hW'▸htd) hS fB,hv1,hv2,rfl,rfl⟩
   ·have hon:=hR.ab.on0 w hwS
    (conv=>whnf);repeat' (first|(rw [htd];conv=>whnf)|(rw [hS.h6];conv=>whnf)|(rw [hS.h1];conv=>whnf)|(rw [hS.h2];conv=>whnf)|(rw [hS.h3];conv=>whnf)|(rw [hS.h4];conv=>whnf)|(rw [Rf];conv=>whnf)|(refine Am (hw1 _ (by omega)) ?_;conv=>whnf)|(refine fkA hno (fun _=>?_);conv=>whnf)|(refine Am (hwn _ (by omega)) ?_;conv=>whnf)|(refine Ec hset ?_;conv=>whnf)|(refine I4 htd fun σ1 fA htd l=>?_;have hS:=hS.keep fA (by simp;omega);have Rf:=fA.get Rf (by simp;omega);conv=>whnf)|(refine TD hwx (fun _=>?_);conv=>whnf)|(refine Agh hon ?_;conv=>whnf)|(refine kA ?_;conv=>whnf)|(refine Br.mk (fun hc=>?_) fun hc=>?_<;>first|exact hc.elim|conv=>whnf)|(refine kB ?_))
    all_goals first
     |(exfalso;omega)
     |exact again.mk ⟨_,ZM (by omega),_,_,_,_,_,_,_,_,_,_,_,_,_,rfl,by simp;omega,hR.Agm hlo hwk hv hwS fA htd,hv1,hv2,rfl,rfl⟩
  ·have hwx:=hR.ab.ix0 w hv
   rcases hR.sk with⟨_,hnil⟩|⟨qs,gs,Js,hq1,rfl,hq2⟩
   ·rw[hnil]at XB;cases XB
   have hqp:qs≠pt:=fun e=>hp.2 (by simp[AV.obj,e])
   (conv=>whnf);repeat' (first|(rw [htd];conv=>whnf)|(rw [hS.h6];conv=>whnf)|(rw [hS.h1];conv=>whnf)|(rw [hS.h2];conv=>whnf)|(rw [hS.h3];conv=>whnf)|(rw [hS.h4];conv=>whnf)|(rw [Rf];conv=>whnf)|(refine Am (hw1 _ (by omega)) ?_;conv=>whnf)|(refine fkA hno (fun _=>?_);conv=>whnf)|(refine Am (hwn _ (by omega)) ?_;conv=>whnf)|(refine Ec hset ?_;conv=>whnf)|(refine I4 htd fun σ1 fA htd l=>?_;have hS:=hS.keep fA (by simp;omega);have Rf:=fA.get Rf (by simp;omega);have hq2:=fA.get hq2 (by simpa using hqp);conv=>whnf)|(refine fkZ hwx ?_;conv=>whnf)|(refine (AeI (S:=s1.S) (J:=Js) hS rfl hwx (by omega) hq2 (by omega)).mono ?_;rintro _ _ ⟨σ2,c2,g2,rfl,rfl,hS2,hq3,f2⟩;have Rh:=f2.get htd (by simp;omega);conv=>whnf)|(rw [Rh];conv=>whnf)|(refine apJ (f:=Un) (S:=L0++[(t,k+1)]) (J:=J) (m:=(w,0)) AbH (by simp;omega) (by simp at hLl ⊢;omega) ?_;conv=>whnf)|(refine I4 Rh fun σ3 f3 Ago l=>?_;conv=>whnf)|(refine kA ?_;conv=>whnf)|(refine Br.mk (fun hc=>?_) fun hc=>?_<;>first|exact hc.elim|conv=>whnf)|(refine kB ?_))
   all_goals first
        |(exfalso;omega)
        |exact again.mk ⟨_,ZN (by omega) hwi hwx,_,_,_,_,_,_,_,_,_,_,_,_,_,rfl,by simp,hR.enter hlo hwk hv hwi fA hS2 f2 (.inr ⟨qs,g2,[],hq1,by simp,by rw[List.append_nil];exact hq3⟩) (fun hc=>hqp (by simp only[AV.obj,List.mem_singleton]at hc;exact hc.symm)) (fun o ho=>by simp only[AV.obj,List.mem_singleton]at ho;subst ho;exact hq1) f3 Ago,.inl hv1,fun v hv=>.inl (hv2 v hv),rfl,rfl⟩
 case pos=>
  subst hk
  obtain⟨hk0,hk1⟩:((nx t).length:Int)=((nx t).length:Nat)∧True:=⟨rfl,trivial⟩
  rcases Nat.lt_or_ge (s1.low t) (s1.ix t)with hl|hl
  ·have hne:L0≠[]:=by
        rintro rfl
        obtain⟨w,hw,e,_⟩:=hlow.2
        obtain⟨p,hp,hle⟩:=hR.tj.rt w hw
        rw[hT]at hp
        simp only[List.reverse_nil,List.mem_singleton]at hp
        subst hp
        dsimp only at hle
        omega
   obtain⟨L1,⟨u,ku⟩,rfl⟩:∃L1 p,L0=L1++[p]:=⟨_,_,(List.dropLast_concat_getLast hne).symm⟩
   have hTu:((u,ku):Int×Nat)∈s1.T:=by rw[hT];simp
   have hlu:=hR.ab.low u (hR.tj.sV _ (hR.tj.tS _ hTu))
   have hw2:∀j,j=L1.length→nth W j=some (Un (u,ku)):=fun j hj=>by rw[hW,hj,Aw,vs,List.getElem?_map];simp
   have hL1:(L1++[(u,ku)]).length=L1.length+1:=by simp
   have hlv:=Adk (c:=c1) hS hlt hit (by omega)
   rcases hnx t with⟨hno,hnil⟩|⟨o,g,hno,hoo,ho6,hol⟩
   ·have h0:(nx t).length=0:=by rw[hnil];rfl
    (conv=>whnf);repeat' (first|(rw [htd];conv=>whnf)|(rw [hS.h6];conv=>whnf)|(rw [hS.h1];conv=>whnf)|(rw [hS.h3];conv=>whnf)|(refine Am (hw1 _ (by omega)) ?_;conv=>whnf)|(refine Am (hw2 _ (by omega)) ?_;conv=>whnf)|(refine AbE hno ?_;conv=>whnf)|(refine hlv.mono ?_;rintro _ _ ⟨c2,rfl,rfl⟩;refine BO (J3 rfl) ?_;conv=>whnf)|(refine TD hlt (fun _=>?_);conv=>whnf)|(refine TD hlu (fun _=>?_);conv=>whnf)|(refine Za ?_;conv=>whnf)|(refine hS.V7 fun σ2 hS fB l=>?_;conv=>whnf)|(refine kA ?_;conv=>whnf)|(refine Br.mk (fun hc=>?_) fun hc=>?_<;>first|exact hc.elim|conv=>whnf)|(refine kB ?_))
    all_goals first
     |(exfalso;omega)
     |exact again.mk ⟨_,Oc (by omega),_,_,_,_,_,_,_,_,_,_,_,_,_,rfl,by simp;omega,hR.stay hlo hl (by split<;>omega) hS fB,hv1,hv2,rfl,rfl⟩
   ·(conv=>whnf);repeat' (first|(rw [htd];conv=>whnf)|(rw [hS.h6];conv=>whnf)|(rw [hS.h1];conv=>whnf)|(rw [hS.h3];conv=>whnf)|(refine Am (hw1 _ (by omega)) ?_;conv=>whnf)|(refine Am (hw2 _ (by omega)) ?_;conv=>whnf)|(refine fkA hno (fun _=>?_);conv=>whnf)|(refine hlv.mono ?_;rintro _ _ ⟨c2,rfl,rfl⟩;refine BO (J3 rfl) ?_;conv=>whnf)|(refine TD hlt (fun _=>?_);conv=>whnf)|(refine TD hlu (fun _=>?_);conv=>whnf)|(refine Za ?_;conv=>whnf)|(refine hS.V7 fun σ2 hS fB l=>?_;conv=>whnf)|(refine kA ?_;conv=>whnf)|(refine Br.mk (fun hc=>?_) fun hc=>?_<;>first|exact hc.elim|conv=>whnf)|(refine kB ?_))
    all_goals first
     |(exfalso;omega)
     |exact again.mk ⟨_,Oc (by omega),_,_,_,_,_,_,_,_,_,_,_,_,_,rfl,by simp;omega,hR.stay hlo hl (by split<;>omega) hS fB,hv1,hv2,rfl,rfl⟩
  ·have hl:s1.low t=s1.ix t:=by omega
   obtain⟨S0,C0,hSS⟩:=List.append_of_mem XB
   have Agq:t∉S0:=fun hc=>by
        have hsI:=hR.tj.sI
        rw[hSS,List.pairwise_append]at hsI
        exact Nat.lt_irrefl _ (hsI.2.2 t hc t (by simp))
   rcases hR.sk with⟨_,hnil⟩|⟨qs,gs,Js,hq1,rfl,hq2⟩
   ·rw[hnil]at XB;cases XB
   have hqp:qs≠pt:=fun e=>hp.2 (by simp[AV.obj,e])
   rw[hl]at hlt
   have Agr:s1.S.length=(S0++t::C0).length:=by rw[hSS]
   have hlv:=Adl (c:=c1) (a0:=S0.length) (J:=Js) hS hlt hit (by rw[hq2,hSS]) (by omega) rfl Agr (by omega) Agq hR.ab.onN
   have hT0:∀σ' c',σ'.length=σ1.length→compact σ1.length (.EY []) ⟨σ',c'⟩=some (.EY [],⟨σ',c'⟩):=fun σ' c' h=>J3 h
   have Ags:∀{σ':List Obj},HY σ1 σ' [4,5,6]→Stk lo σ' (.own qs gs 0 S0.length) S0:=fun f=>.inr ⟨qs,gs,t::C0++Js,hq1,rfl,by rw[f.get hq2 (by simp;omega),hSS,List.append_assoc]⟩
   have hpop:=fun{σ' IZ Ld x} (a:x∈t::C0) b c d e (f:HS G (P8 Df) cn σ' AbF ZL (.own qs gs 0 S0.length) IZ Ld) f'=>hR.pop hlo hl hSS a b c d e f f' (Ags f') (fun o ho=>ho)
   rcases List.eq_nil_or_concat L0 with rfl|⟨L1,⟨u,ku⟩,hLe⟩
   ·have hn1':n=1:=by simp at hn1;omega
    rcases hnx t with⟨hno,hnil⟩|⟨o,g,hno,hoo,ho6,hol⟩
    ·have h0:(nx t).length=0:=by rw[hnil];rfl
     (conv=>whnf);repeat' (first|(rw [htd];conv=>whnf)|(rw [hS.h6];conv=>whnf)|(rw [hS.h1];conv=>whnf)|(rw [hS.h3];conv=>whnf)|(refine Am (hw1 _ (by simp;omega)) ?_;conv=>whnf)|(refine AbE hno ?_;conv=>whnf)|(refine hlv.mono ?_;rintro _ _ ⟨σ2,c2,AbI,AbJ,x,rfl,rfl,hx1,hx2,hS2,hk2,ho2,hs2,ff,fl⟩;refine BO (hT0 _ _ fl) ?_;have Rh:=ff.get htd (by simp;omega);conv=>whnf)|(rw [Rh];conv=>whnf)|(refine kA ?_;conv=>whnf)|(refine Br.mk (fun hc=>?_) fun hc=>?_<;>first|exact hc.elim|conv=>whnf)|(refine kB ?_))
     all_goals first
      |(exfalso;omega)
      |(exfalso;simp at *;omega)
      |exact again.mk ⟨_,Oc (by omega),_,_,_,_,_,_,_,_,_,_,_,_,_,rfl,by simp;omega,hpop hx1 hx2 hk2 ho2 hs2 hS2 ff,hv1,hv2,rfl,rfl⟩
    ·(conv=>whnf);repeat' (first|(rw [htd];conv=>whnf)|(rw [hS.h6];conv=>whnf)|(rw [hS.h1];conv=>whnf)|(rw [hS.h3];conv=>whnf)|(refine Am (hw1 _ (by simp;omega)) ?_;conv=>whnf)|(refine fkA hno (fun _=>?_);conv=>whnf)|(refine hlv.mono ?_;rintro _ _ ⟨σ2,c2,AbI,AbJ,x,rfl,rfl,hx1,hx2,hS2,hk2,ho2,hs2,ff,fl⟩;refine BO (hT0 _ _ fl) ?_;have Rh:=ff.get htd (by simp;omega);conv=>whnf)|(rw [Rh];conv=>whnf)|(refine kA ?_;conv=>whnf)|(refine Br.mk (fun hc=>?_) fun hc=>?_<;>first|exact hc.elim|conv=>whnf)|(refine kB ?_))
     all_goals first
      |(exfalso;omega)
      |(exfalso;simp at *;omega)
      |exact again.mk ⟨_,Oc (by omega),_,_,_,_,_,_,_,_,_,_,_,_,_,rfl,by simp;omega,hpop hx1 hx2 hk2 ho2 hs2 hS2 ff,hv1,hv2,rfl,rfl⟩
   ·rw[List.concat_eq_append]at hLe
    subst hLe
    have hTu:((u,ku):Int×Nat)∈s1.T:=by rw[hT];simp
    have hlu:=hR.ab.low u (hR.tj.sV _ (hR.tj.tS _ hTu))
    have hw2:∀j,j=L1.length→nth W j=some (Un (u,ku)):=fun j hj=>by rw[hW,hj,Aw,vs,List.getElem?_map];simp
    have hL1:(L1++[(u,ku)]).length=L1.length+1:=by simp
    have hlow2:min (s1.low u) (s1.low t)=s1.low u:=hR.tj.AbK (u:=(u,ku)) (k:=(nx t).length) (T1:=L1.reverse) (by rw[hT];simp) hl
    rcases hnx t with⟨hno,hnil⟩|⟨o,g,hno,hoo,ho6,hol⟩
    ·have h0:(nx t).length=0:=by rw[hnil];rfl
     (conv=>whnf);repeat' (first|(rw [htd];conv=>whnf)|(rw [hS.h6];conv=>whnf)|(rw [hS.h1];conv=>whnf)|(rw [hS.h3];conv=>whnf)|(refine Am (hw1 _ (by omega)) ?_;conv=>whnf)|(refine Am (hw2 _ (by omega)) ?_;conv=>whnf)|(refine AbE hno ?_;conv=>whnf)|(refine hlv.mono ?_;rintro _ _ ⟨σ2,c2,AbI,AbJ,x,rfl,rfl,hx1,hx2,hS2,hk2,ho2,hs2,ff,fl⟩;refine BO (hT0 _ _ fl) ?_;have Rh:=ff.get htd (by simp;omega);conv=>whnf)|(rw [Rh];conv=>whnf)|(rw [hS2.h6];conv=>whnf)|(rw [hS2.h3];conv=>whnf)|(refine TD hlt (fun _=>?_);conv=>whnf)|(refine TD hlu (fun _=>?_);conv=>whnf)|(refine Za ?_;conv=>whnf)|(refine hS2.V7 fun σ3 hS3 fB l=>?_;conv=>whnf)|(refine kA ?_;conv=>whnf)|(refine Br.mk (fun hc=>?_) fun hc=>?_<;>first|exact hc.elim|conv=>whnf)|(refine kB ?_))
     all_goals first
       |(exfalso;omega)
       |exact again.mk ⟨_,Oc (by omega),_,_,_,_,_,_,_,_,_,_,_,_,_,rfl,by simp;omega,(hpop hx1 hx2 hk2 ho2 hs2 hS2 ff).up hlo (by show _=((s1.low u:Nat):Int);split<;>omega) hS3 fB,hv1,hv2,rfl,rfl⟩
    ·(conv=>whnf);repeat' (first|(rw [htd];conv=>whnf)|(rw [hS.h6];conv=>whnf)|(rw [hS.h1];conv=>whnf)|(rw [hS.h3];conv=>whnf)|(refine Am (hw1 _ (by omega)) ?_;conv=>whnf)|(refine Am (hw2 _ (by omega)) ?_;conv=>whnf)|(refine fkA hno (fun _=>?_);conv=>whnf)|(refine hlv.mono ?_;rintro _ _ ⟨σ2,c2,AbI,AbJ,x,rfl,rfl,hx1,hx2,hS2,hk2,ho2,hs2,ff,fl⟩;refine BO (hT0 _ _ fl) ?_;have Rh:=ff.get htd (by simp;omega);conv=>whnf)|(rw [Rh];conv=>whnf)|(rw [hS2.h6];conv=>whnf)|(rw [hS2.h3];conv=>whnf)|(refine TD hlt (fun _=>?_);conv=>whnf)|(refine TD hlu (fun _=>?_);conv=>whnf)|(refine Za ?_;conv=>whnf)|(refine hS2.V7 fun σ3 hS3 fB l=>?_;conv=>whnf)|(refine kA ?_;conv=>whnf)|(refine Br.mk (fun hc=>?_) fun hc=>?_<;>first|exact hc.elim|conv=>whnf)|(refine kB ?_))
     all_goals first
       |(exfalso;omega)
       |exact again.mk ⟨_,Oc (by omega),_,_,_,_,_,_,_,_,_,_,_,_,_,rfl,by simp;omega,(hpop hx1 hx2 hk2 ho2 hs2 hS2 ff).up hlo (by show _=((s1.low u:Nat):Int);split<;>omega) hS3 fB,hv1,hv2,rfl,rfl⟩
end
theorem VG {es:List (Int×Int)} {u w v:Int}:Il (es++[(u,w)]) v=if v=u then Il es v++[w]else Il es v:=by
 unfold Il
 rw[List.filter_append,List.map_append]
 by_cases h:v=u
 ·subst h;simp
 ·rw[if_neg h];simp[show ¬u=v from fun e=>h e.symm]
theorem KH {o g:Nat}:Gm (.map o g) (.map o g)=true:=by simp[Gm]
section
variable {G:GS} {Df AfV:List (AV×AV)} {cn cn':Bool} {σ:List Obj} {BM Bc DK:List (Int×Int)} {Dy:List (Int×Bool)} {stk:AV}
theorem HS.Afv {K:List Obj→Prop} (h:HS G Df cn σ BM Bc stk Dy DK) (hK:∀σ',HS G AfV cn' σ' BM Bc stk Dy DK→HY σ σ' [1]→σ'.length=σ.length→K σ'):J9 σ 1 (.mp G.a cn' AfV) K:=
 I4 h.h1 fun σ' f k l=>hK σ' ⟨k,f.get h.h2 (by simp),f.get h.h3 (by simp),f.get h.h4 (by simp),f.get h.h5 (by simp),f.get h.h6 (by simp)⟩ f l
end
theorem Ad2 {M:List (Int×AV)} {k:Int} {v:AV} {K:List (AV×AV)→Prop} (h:K (P8 (BJ M k v))):MW .int (.int .i64 k) v (P8 M) K:=LU (fv:=id) Fe h
structure X4 (Df:List (Int×AV)) (σ:List Obj) (nx:Int→List Int):Prop where
 pt:∀v,(Ba Df v=none∧nx v=[])∨∃o g,Ba Df v=some (.own o g 0 (nx v).length)∧nth σ o=some (.arr g 1 true true (vs (.int .i64) (nx v)))∧6<o
 inj:∀v w o g h n m,Ba Df v=some (.own o g 0 n)→Ba Df w=some (.own o h 0 m)→v=w
section
variable {Df:List (Int×AV)} {σ σ':List Obj} {nx:Int→List Int} {es:List (Int×Int)} {u w:Int} {o g g' n:Nat} {F:List Nat}
theorem X4.start:X4 [] σ (Il []):=⟨fun v=>.inl ⟨rfl,rfl⟩,fun v w o g h n m e=>by cases e⟩
theorem X4.keep (h:X4 Df σ nx) (f:HY σ σ' F) (hF:∀o∈F,o≤6∨σ.length≤o):X4 Df σ' nx:=
 ⟨fun v=>(h.pt v).imp_right fun⟨o,g,a,b,c⟩=>⟨o,g,a,f.get b (fun hm=>by have:=hF o hm;have:=Dh b;omega),c⟩,h.inj⟩
theorem X4.toS (h:X4 Df σ nx):NxS Df σ σ.length nx:=fun v=>(h.pt v).imp_right fun⟨o,g,a,b,c⟩=>⟨o,g,a,b,c,Dh b⟩
theorem X4.new (h:X4 Df σ (Il es)) (hu:Ba Df u=none) (f:HY σ σ' F) (hF:∀o∈F,o≤6∨σ.length≤o) (ho:σ.length≤o) (h6:6<o) (hq:nth σ' o=some (.arr g 1 true true (vs (.int .i64) [w]))):X4 (BJ Df u (.own o g 0 1)) σ' (Il (es++[(u,w)])):=by
 have hn:Il es u=[]:=by
  rcases h.pt u with⟨_,e⟩|⟨_,_,e,_⟩
  ·exact e
  ·rw[hu]at e;cases e
 have hold:∀v o' g' n,Ba Df v=some (.own o' g' 0 n)→o'<σ.length:=fun v o' g' n e=>by
  rcases h.pt v with⟨e',_⟩|⟨_,_,e',hn,_⟩
  ·rw[e]at e';cases e'
  ·rw[e]at e';cases e';exact Dh hn
 refine⟨fun v=>?_,fun v v' o' g' h' n m e e'=>?_⟩
 ·rw[CX,VG]
  by_cases hv:v=u
  ·subst hv;rw[if_pos rfl,if_pos rfl,hn];exact .inr ⟨o,g,rfl,hq,h6⟩
  ·rw[if_neg hv,if_neg hv];exact(h.keep f hF).pt v
 ·rw[CX]at e e'
  by_cases hv:v=u
  ·by_cases hv':v'=u
   ·rw[hv,hv']
   ·rw[if_pos hv]at e;rw[if_neg hv']at e';have:=hold _ _ _ _ e';cases e;omega
  ·by_cases hv':v'=u
   ·rw[if_neg hv]at e;rw[if_pos hv']at e';have:=hold _ _ _ _ e;cases e';omega
   ·rw[if_neg hv]at e;rw[if_neg hv']at e';exact h.inj _ _ _ _ _ _ _ e e'
theorem X4.more {n0:Nat} (h:X4 Df σ (Il es)) (hu:Ba Df u=some (.own o g 0 n0)) (f:HY σ σ' F) (hF:∀p∈F,p≤6∨σ.length≤p∨p=o) (h6:6<o) (hq:nth σ' o=some (.arr g' 1 true true (vs (.int .i64) (Il es u++[w])))) (hn:n=(Il es u).length+1):X4 (BJ Df u (.own o g' 0 n)) σ' (Il (es++[(u,w)])):=by
 subst hn
 refine⟨fun v=>?_,fun v v' o' g' h' n m e e'=>?_⟩
 ·rw[CX,VG]
  by_cases hv:v=u
  ·subst hv;rw[if_pos rfl,if_pos rfl];exact .inr ⟨o,g',by simp,hq,h6⟩
  ·rw[if_neg hv,if_neg hv]
   refine(h.pt v).imp_right fun⟨o',g',a,b,c⟩=>⟨o',g',a,f.get b fun hm=>?_,c⟩
   have:=Dh b
   rcases hF o' hm with k|k|k
   ·omega
   ·omega
   ·subst k;exact hv (h.inj _ _ _ _ _ _ _ a hu)
 ·rw[CX]at e e'
  by_cases hv:v=u
  ·by_cases hv':v'=u
   ·rw[hv,hv']
   ·rw[if_pos hv]at e;rw[if_neg hv']at e';cases e;exact absurd (h.inj _ _ _ _ _ _ _ e' hu) hv'
  ·by_cases hv':v'=u
   ·rw[if_neg hv]at e;rw[if_pos hv']at e';cases e';exact absurd (h.inj _ _ _ _ _ _ _ e hu) hv
   ·rw[if_neg hv]at e;rw[if_neg hv']at e';exact h.inj _ _ _ _ _ _ _ e e'
end
theorem min_self (A:Int):Yx A A=A:=by unfold Yx;split<;>omega
structure Gq (S:List Int) (es:List (Int×Int)) (l:List (Int×Int)):Prop where
 nm:l.map (·.1)=S
 ls:∀p∈l,Least (Il es) p.1 p.2
theorem Gq.uniq {S:List Int} {es:List (Int×Int)} {l m:List (Int×Int)} (h:Gq S es l) (k:Gq S es m):l=m:=by
 have hl:l.length=m.length:=by
  have:=congrArg List.length (h.nm.trans k.nm.symm)
  simpa using this
 apply List.ext_getElem hl
 intro i h1 h2
 have e:(l[i]).1=(m[i]).1:=by
  have e1:(l.map (·.1))[i]'(by simpa using h1)=(m.map (·.1))[i]'(by simpa using h2):=by
   have:=h.nm.trans k.nm.symm
   simp only[this]
  simpa using e1
 have a:=h.ls _ (List.getElem_mem h1)
 have b:=k.ls _ (List.getElem_mem h2)
 rw[e]at a
 exact Prod.ext e (a.uniq b)
theorem VH {ids:List Int} {es:List (Int×Int)}:∀(n:Nat) (out l:List Int),Ik ids es n out=some l→(∀ i (h:i<out.length),Gy es (out.take i) out[i]∧out[i]∉out.take i∧out[i]∈ids)→∀i (h:i<l.length),Gy es (l.take i) l[i]∧l[i]∉l.take i∧l[i]∈ids
 |0,out,l,h,ho=>by cases h;exact ho
 |n+1,out,l,h,ho=>by
  unfold Ik at h
  split at h
  ·rename_i k hk
   obtain⟨h1,h2,h3⟩:=LC hk
   refine VH n _ _ h fun i hi=>?_
   rw[List.length_append,List.length_singleton]at hi
   by_cases e:i<out.length
   ·rw[List.getElem_append_left e,List.take_append_of_le_length (by omega)]
    exact ho i e
   ·have:i=out.length:=by omega
    subst this
    rw[List.getElem_append_right (by omega),List.take_append_of_le_length (by omega),List.take_length]
    simp only[Nat.sub_self,List.getElem_cons_zero]
    exact⟨h3,h2,h1⟩
  ·cases h
theorem ML {ids:List Int} {es:List (Int×Int)} {l:List Int} (h:JY ids es=some l):∀i (hi:i<l.length),Gy es (l.take i) l[i]∧l[i]∉l.take i∧l[i]∈ids:=VH _ _ _ h fun i hi=>absurd hi (by simp)
theorem VI {l:List Int} {i j:Nat} (h:i≤j) {x:Int} (hx:x∈l.take i):x∈l.take j:=by
 rw[List.mem_take_iff_getElem]at hx ⊢
 obtain⟨k,hk,e⟩:=hx
 exact⟨k,by omega,e⟩
theorem O8 {ids:List Int} {es:List (Int×Int)} {l:List Int} (h:JY ids es=some l) {a b:Int} (hr:Ih (Il es) a b):a=b∨∀j (hj:j<l.length),l[j]=b→a∈l.take j:=by
 induction hr with
 |refl=>exact .inl rfl
 |step hr hc ih=>
  rename_i b c
  right
  intro j hj e
  have hb:=(ML h j hj).1 (b,c) (KQ.1 hc) e.symm
  rcases ih with rfl|ih
  ·exact hb
  ·have hb':=hb
   rw[List.mem_take_iff_getElem]at hb'
   obtain⟨i,hi,ei⟩:=hb'
   exact VI (by omega) (ih i (by omega) ei)
theorem Pq {ids:List Int} {es:List (Int×Int)} {l:List Int} (Dx:∀e∈es,e.1∈l∧e.2∈l) (h:JY ids es=some l):
 (∀ e∈es,e.1≠e.2)∧∀a x,a∈l→Least (Il es) a x→x=a:=by
 refine⟨fun e he hl=>?_,fun a x ha hx=>?_⟩
 ·obtain⟨i,hi,ei⟩:=List.getElem_of_mem (Dx e he).2
  have h1:=(ML h i hi)
  have:=h1.1 e he ei.symm
  rw[hl,←ei]at this
  exact h1.2.1 this
 ·rcases O8 h hx.1 with e|h1
  ·exact e.symm
  rcases O8 h hx.2.1 with e|h2
  ·exact e
  exfalso
  obtain⟨i,hi,ei⟩:=List.getElem_of_mem ha
  have h3:=h2 i hi ei
  have h3':=h3
  rw[List.mem_take_iff_getElem]at h3'
  obtain⟨j,hj,ej⟩:=h3'
  have h4:=h1 j (by omega) ej
  have h5:=VI (j:=i) (by omega) h4
  exact(ML h i hi).2.1 (by rw[ei];exact h5)
theorem Pv {ids:List Int} {es:List (Int×Int)} (Dx:∀e∈es,e.1∈ids∧e.2∈ids) (hnl:∀e∈es,e.1≠e.2) (hal:∀a∈ids,Least (Il es) a a) {O:List Int} (hO:∃k∈ids,k∉O):∃k,IW ids es O=some k:=by
 classical
 cases hf:IW ids es O with
 |some k=>exact⟨k,rfl⟩
 |none=>
  exfalso
  have hno:∀k∈ids,k∉O→∃u,(u,k)∈es∧u∉O:=fun k hk hkO=>by
   have h1:=(List.find?_eq_none.1 hf) k hk
   have h2:¬Gy es O k:=fun h=>h1 (decide_eq_true ⟨hkO,h⟩)
   unfold Gy at h2
   obtain⟨e,he⟩:=Classical.not_forall.1 h2
   obtain⟨he1,he2⟩:=Classical.not_imp.1 he
   obtain⟨he3,he4⟩:=Classical.not_imp.1 he2
   exact⟨e.1,by rw[← he3];exact he1,he4⟩
  have key:∀(n:Nat) (k:Int),k∈ids→k∉O→Y9 ids (ids.filter fun y=>decide (Ih (Il es) y k))=n→False:=by
   intro n
   induction n using Nat.strongRecOn with
   |_ n ih=>
    intro k hk hkO hn
    obtain⟨u,hu,huO⟩:=hno k hk hkO
    have huI:=(Dx _ hu).1
    have hne:u≠k:=hnl _ hu
    have hstep:Ih (Il es) u k:=Ih.one (KQ.2 hu)
    have hkn:¬Ih (Il es) k u:=fun hr=>by
      have h1:=(hal u huI).2.2 k hstep hr
      have h2:=(hal k hk).2.2 u hr hstep
      omega
    have hlt:=V6 (ids:=ids) (o:=ids.filter fun y=>decide (Ih (Il es) y u)) (o':=ids.filter fun y=>decide (Ih (Il es) y k)) (fun x hx=>by
      obtain⟨h1,h2⟩:=List.mem_filter.1 hx
      exact List.mem_filter.2 ⟨h1,decide_eq_true ((of_decide_eq_true h2).trans hstep)⟩) hk (fun h=>hkn (of_decide_eq_true (List.mem_filter.1 h).2)) (List.mem_filter.2 ⟨hk,decide_eq_true .refl⟩)
    exact ih _ (by omega) u huI huO rfl
  obtain⟨k,hk,hkO⟩:=hO
  exact key _ k hk hkO rfl
theorem Jg {ids:List Int} {es:List (Int×Int)} (hnd:ids.Nodup) (Dx:∀e∈es,e.1∈ids∧e.2∈ids) (hnl:∀e∈es,e.1≠e.2) (hal:∀a∈ids,Least (Il es) a a):
 ∀(n:Nat) (O:List Int),O.Nodup→(∀ x∈O,x∈ids)→n+O.length=ids.length→∃l,Ik ids es n O=some l
 |0,O,_,_,_=>⟨O,rfl⟩
 |n+1,O,h1,h2,h3=>by
  have hex:∃k∈ids,k∉O:=by
   refine Classical.byContradiction fun hc=>?_
   have hsub:∀x∈ids,x∈O:=fun x hx=>Classical.byContradiction fun hn=>hc ⟨x,hx,hn⟩
   have:=List.Nodup.length_le_of_subset hnd hsub
   omega
  obtain⟨k,hk⟩:=Pv Dx hnl hal hex
  obtain⟨k1,k2,k3⟩:=LC hk
  obtain⟨l,hl⟩:=Jg hnd Dx hnl hal n (O++[k]) (by
   rw[List.nodup_append]
   exact⟨h1,by simp,fun a ha b hb e=>k2 (by rw[List.mem_singleton.1 hb]at e;rw[← e];exact ha)⟩) (fun x hx=>by
   rcases List.mem_append.1 hx with h|h
   ·exact h2 x h
   ·rw[List.mem_singleton.1 h];exact k1) (by rw[List.length_append,List.length_singleton];omega)
  refine⟨l,?_⟩
  show(match IW ids es O with|some k=>Ik ids es n (O++[k])|none=>none)=some l
  rw[hk]
  exact hl
theorem Po {ids:List Int} {es:List (Int×Int)} (hnd:ids.Nodup) (Dx:∀e∈es,e.1∈ids∧e.2∈ids) (hnl:∀e∈es,e.1≠e.2) (hal:∀a∈ids,Least (Il es) a a):∃l,JY ids es=some l:=
 Jg hnd Dx hnl hal _ [] .nil (by simp) (by simp)
end AI
end Go.Proofs.YtjjhejbffgaabaaGreatDoor
