/- common: an entry of a greater table. Triangles of the program: an entry of a greater table. The reference's validity of values: it answers. -/
import Derived.Test.YtchcadfjbkkgmaaGreatDoorECeB
import Derived.Test.YtchcadfjbkkgmaaGreatDoorENd
import Derived.Test.YtchcadfjbkkgmaaGreatDoorEMag
import Derived.Test.YtchcadfjbkkgmaaGreatDoorEMae
set_option linter.unusedVariables false
set_option maxRecDepth 4000
namespace Go.Proofs.YtchcadfjbkkgmaaGreatDoor
namespace AI
section
open Go.RowKit Go.Sort
structure Hold (p:Prop):Prop where
 h:p
section
variable {P:Program} {AP:Nat→Option Ht} {n:Nat}
theorem AW.go (hS:∀N,Ak P (run AP N)) (hm:P.follows .mixedOrders=true) {an:List ED} {x y:Code} {a:AQ} (hx:BI P n an x=some a) {env:Env} {s:Ai} {Q:AL→Env→Ai→Prop} (h:vC AP a env s fun e env s=>Hold (Agd P n y Q e env s)):AW P n (.seq x y) env s Q:=
 AW.seq (AW.of_run hS hm hx ((GY h).mono fun e env s k=>k.h))
theorem AW.fin (hS:∀N,Ak P (run AP N)) (hm:P.follows .mixedOrders=true) {an:List ED} {x:Code} {a:AQ} (hx:BI P n an x=some a) {env:Env} {s:Ai} {Q:AL→Env→Ai→Prop} (h:vC AP a env s fun e env s=>Hold (Q e env s)):AW P n x env s Q:=
 AW.of_run hS hm hx ((GY h).mono fun e env s k=>k.h)
end
def E8:Code→Code
 | .seq a _=>a
 |c=>c
def IB:Code→Code
 | .seq _ b=>b
 |c=>c
def Jy:AQ→AQ
 | .seq a _=>a
 |c=>c
def KH:AQ→AQ
 | .seq _ b=>b
 |c=>c
def Z7 (f:Func):Code:=f.body.getD .skip
def opsOf:Code→Array Oper
 | .region _ o _=>o
 |_=>#[]
def AaZ:Code→Nat
 | .region i _ _=>i
 |_=>0
def inC:Code→Code
 | .block _ c=>c
 | .loop c=>c
 |c=>c
def inA:AQ→AQ
 | .block _ c=>c
 | .loop _ c=>c
 |c=>c
def JW (c:Code) (k:Nat):Oper:=((opsOf c).toList[k]?).getD default
theorem FM {P:Program} {n:Nat} {an:List ED} {i j:Nat} {x:Code} {a:AQ} (h:BI P n an (.block i x)=some (.block j a)):BI P n an x=some a:=by
 simp only[BI]at h
 cases hx:BI P n an x with
 |none=>rw[hx]at h;cases h
 |some b=>rw[hx]at h;simp only[Option.map_some,Option.some.injEq,AQ.block.injEq]at h;rw[h.2]
theorem Nz {P:Program} {n:Nat} {an:List ED} {l:List Nat} {x:Code} {a:AQ} (h:BI P n an (.loop x)=some (.loop l a)):BI P n an x=some a:=by
 simp only[BI]at h
 cases hx:BI P n an x with
 |none=>rw[hx]at h;cases h
 |some b=>rw[hx]at h;simp only[Option.map_some,Option.some.injEq,AQ.loop.injEq]at h;rw[h.2]
theorem Xg {n:Nat} {l:List Nat} (h1:l.Nodup) (h2:∀j∈l,j<n):l.length≤n:=by
 have:=List.Nodup.length_le_of_subset (l₂:=List.range n) h1 fun j hj=>List.mem_range.2 (h2 j hj)
 rwa [List.length_range]at this
abbrev NM:=List (Int×List (Int×Bool))
def fmB (L:List (Int×Bool)):AV:=.fmap (BU L)
def nmV (M:NM):AV:=.fmap (H6 (.int .i64) fmB M)
theorem fkM {M:NM} {k:Int} {L:List (Int×Bool)} {K:Option (Nat×AV)→Prop} (h:Dx M k=some L) (hK:∀i,K (some (i,fmB L))):MW .int (.int .i64 k) (H6 (.int .i64) fmB M) K:=
 IC EG (fun e=>by rw[h]at e;cases e) (fun i w e=>by rw[h]at e;cases e;exact hK i)
theorem fkN {L:List (Int×Bool)} {k:Int} {K:Option (Nat×AV)→Prop} (h:Dx L k=none) (hK:K none):MW .int (.int .i64 k) (BU L) K:=
 IC EG (fun _=>hK) (fun i w e=>by rw[h]at e;cases e)
theorem fkS {L:List (Int×Bool)} {k:Int} {v:Bool} {K:Option (Nat×AV)→Prop} (h:Dx L k=some v) (hK:∀i,K (some (i,.bool v))):MW .int (.int .i64 k) (BU L) K:=
 IC EG (fun e=>by rw[h]at e;cases e) (fun i w e=>by rw[h]at e;cases e;exact hK i)
theorem YD {L L':List (Int×Bool)} (h:BU L=BU L'):L=L':=by
 induction L generalizing L' with
 |nil=>cases L' with
  |nil=>rfl
  |cons p L'=>cases h
 |cons p L ih=>cases L' with
  |nil=>cases h
  |cons q L'=>
   simp only[BU,H6,List.map_cons,List.cons.injEq,Prod.mk.injEq,AV.int.injEq,AV.bool.injEq,true_and]at h
   rw[ih h.2,Prod.ext h.1.1 h.1.2]
theorem AeK {M N:NM} (h:nmV M=nmV N):M=N:=by
 simp only[nmV,AV.fmap.injEq]at h
 induction M generalizing N with
 |nil=>cases N with
  |nil=>rfl
  |cons p N=>cases h
 |cons p M ih=>cases N with
  |nil=>cases h
  |cons q N=>
   simp only[H6,List.map_cons,List.cons.injEq,Prod.mk.injEq,AV.int.injEq,true_and]at h
   obtain⟨⟨h1,h2⟩,h3⟩:=h
   rw[ih h3]
   simp only[fmB,AV.fmap.injEq]at h2
   rw[Prod.ext h1 (YD h2)]
def hasB (L:List (Int×Bool)) (x:Int):Bool:=(Dx L x).getD false
def Fa (A B:List (Int×Bool)):List Int:=(A.filter fun p=>hasB B p.1).map (·.1)
structure CQ where
 M:NM
 a:Int
 b:Int
 A:List (Int×Bool)
 B:List (Int×Bool)
def CQ.enc (q:CQ):List AV:=[nmV q.M,.int .i64 q.a,.int .i64 q.b]
def CQ.ok (q:CQ):Prop:=Dx q.M q.a=some q.A∧Dx q.M q.b=some q.B∧q.A.length≤100000
def CQ.out (q:CQ):AV:=.sl (decide (Fa q.A q.B≠[])) (vs (.int .i64) (F6 (Fa q.A q.B)))
theorem CQ.VJ {p q:CQ} (hp:p.ok) (hq:q.ok) (h:p.enc=q.enc):p=q:=by
 obtain⟨M,a,b,A,B⟩:=p
 obtain⟨M',a',b',A',B'⟩:=q
 obtain⟨h1,h2,_⟩:=hp
 obtain⟨k1,k2,_⟩:=hq
 simp only[CQ.enc,List.cons.injEq,AV.int.injEq,and_true,true_and]at h
 obtain⟨e,rfl,rfl⟩:=h
 obtain rfl:=AeK e
 dsimp only at h1 h2 k1 k2
 rw[h1]at k1
 rw[h2]at k2
 cases k1
 cases k2
 rfl
noncomputable def L6 (args:List AV) (s:Ai):Option (AB×Ai):=by
 classical exact if h:∃q:CQ,q.ok∧args=q.enc∧s=⟨[],0⟩then some (.ok (Classical.choose h).out,⟨[],0⟩)else none
theorem YE {q:CQ} (hq:q.ok):L6 q.enc ⟨[],0⟩=some (.ok q.out,⟨[],0⟩):=by
 have hx:∃p:CQ,p.ok∧q.enc=p.enc∧(⟨[],0⟩:Ai)=⟨[],0⟩:=⟨q,hq,rfl,rfl⟩
 unfold L6
 rw[dif_pos hx]
 have:=CQ.VJ hq (Classical.choose_spec hx).1 (Classical.choose_spec hx).2.1
 rw[← this]
def BQ (A:List (Int×Bool)) (seen:List Nat):List (Int×Bool):=seen.map fun i=>(A[i]?).getD (0,false)
theorem NC {A:List (Int×Bool)} {seen:List Nat} (h:seen.Perm (List.range A.length)):(BQ A seen).Perm A:=by
 have h1:(BQ A seen).Perm (BQ A (List.range A.length)):=h.map _
 have h2:BQ A (List.range A.length)=A:=by
  apply List.ext_getElem
  ·simp[BQ]
  ·intro i h1 h2
   simp[BQ,h2]
 rw[h2]at h1
 exact h1
theorem Aa1 {A A' B:List (Int×Bool)} (h:A.Perm A'):(Fa A B).Perm (Fa A' B):=(h.filter _).map _
theorem Aa2 {A B:List (Int×Bool)} {seen:List Nat} {i:Nat} (h:i<A.length):Fa (BQ A (seen++[i])) B=Fa (BQ A seen) B++if hasB B (A[i]).1 then[(A[i]).1]else[]:=by
 unfold Fa BQ
 rw[List.map_append,List.filter_append,List.map_append]
 simp only[List.map_cons,List.map_nil,List.getElem?_eq_getElem h,Option.getD_some,List.filter_cons,List.filter_nil]
 cases hasB B (A[i]).1<;>rfl
theorem QW {A B:List (Int×Bool)}:(Fa A B).length≤A.length:=by
 unfold Fa
 rw[List.length_map]
 exact List.length_filter_le _ _
noncomputable abbrev cF:Func:=Tryz.f56
noncomputable abbrev cA:FK:=x56.1
noncomputable abbrev cb0:Code:=Z7 cF
noncomputable abbrev cb1:Code:=IB cb0
noncomputable abbrev cb2:Code:=IB cb1
noncomputable abbrev cb3:Code:=IB cb2
noncomputable abbrev cb4:Code:=IB cb3
noncomputable abbrev ce0:AQ:=cA.body
noncomputable abbrev ce1:AQ:=KH ce0
noncomputable abbrev ce2:AQ:=KH ce1
noncomputable abbrev ce3:AQ:=KH ce2
noncomputable abbrev ce4:AQ:=KH ce3
noncomputable abbrev cr0:Code:=E8 (E8 cb2)
noncomputable abbrev crB:Code:=inC (inC (IB (E8 cb2)))
noncomputable abbrev cr1:Code:=E8 crB
noncomputable abbrev crI:Code:=inC (IB (IB crB))
noncomputable abbrev cr2:Code:=E8 crI
noncomputable abbrev crX:Code:=IB crI
theorem Aa3:E8 cb2=.seq (.region (AaZ cr0) (opsOf cr0) false) (.block 0 (.loop (.seq (.region (AaZ cr1) (opsOf cr1) false) (.seq (.cond (.tmp 14) .skip (.exit 0)) (.block 1 (.seq (.region (AaZ cr2) (opsOf cr2) false) crX)))))):=by kernel_rfl
noncomputable abbrev ceB:AQ:=inA (inA (KH (Jy ce2)))
noncomputable abbrev ceI:AQ:=inA (KH (KH ceB))
noncomputable abbrev ceX:AQ:=KH ceI
theorem Acm {an:List ED} (hc:BI Tryz.prog cF.ntmps an (E8 cb2)=some (Jy ce2)):BI Tryz.prog cF.ntmps an crX=some ceX:=by
 have d1:=(Bj (x:=cr0) (y:=IB (E8 cb2)) (a:=Jy (Jy ce2)) (b:=KH (Jy ce2)) hc).2
 have d2:=FM (i:=0) (j:=0) (x:=inC (IB (E8 cb2))) (a:=inA (KH (Jy ce2))) d1
 have d3:=Nz (l:=[0,2,7,12]) (x:=crB) (a:=ceB) d2
 have d4:=(Bj (x:=cr1) (y:=IB crB) (a:=Jy ceB) (b:=KH ceB) d3).2
 have d5:=(Bj (x:=E8 (IB crB)) (y:=IB (IB crB)) (a:=Jy (KH ceB)) (b:=KH (KH ceB)) d4).2
 have d6:=FM (i:=1) (j:=1) (x:=crI) (a:=ceI) d5
 exact(Bj (x:=cr2) (y:=crX) (a:=Jy ceI) (b:=ceX) d6).2
set_option maxHeartbeats 4000000 in
set_option maxRecDepth 10000 in
theorem Acn {q:CQ} (hq:q.ok) {g c:Nat} {an:List ED} (hc:BI Tryz.prog cF.ntmps an (E8 cb2)=some (Jy ce2)) {Q:AL→Env→Ai→Prop}
 (hQ:∀gg c' seen x,seen.Perm (List.range q.A.length)→Q .normal [(14,.bool false),(13,.junk),(0,nmV q.M),(2,.int .i64 q.b),(7,.own 0 gg 0 (Fa (BQ q.A seen) q.B).length),(12,.ref 1 c 0 0)] ⟨[.arr gg 1 (decide (Fa (BQ q.A seen) q.B≠[])) true (vs (.int .i64) (Fa (BQ q.A seen) q.B)),.raw c x],c'⟩):
 AW Tryz.prog cF.ntmps (E8 cb2) [(0,nmV q.M),(1,.int .i64 q.a),(2,.int .i64 q.b),(7,.own 0 g 0 0)] ⟨[.arr g 1 false true []],c⟩ Q:=by
 obtain⟨hA,hB,hl⟩:=hq
 rw[Aa3]
 refine AW.range (AP:=Ac tab) RS mixed (anA:=[]) (anB:=[]) (it:=12) (nx:=13) (more:=14) (pair:=15) (Xh:=[JW cr0 0,JW cr0 1,JW cr0 2]) (oR:=JW cr0 3) (oN:=JW cr1 0) (oX:=JW cr1 1) (oE:=JW cr2 0) (YF:=[JW cr2 1,JW cr2 2])
  (Aco:=[⟨some 9,.Yw (.tmp 0),none⟩,⟨some 10,.Yw (.tmp 1),none⟩,⟨some 11,.lookup .int .CJ false (.tmp 9) (.tmp 10),none⟩]) (Acp:=[⟨some 16,.ext (.tmp 15) 0,none⟩,⟨some 8,.Yw (.tmp 16),none⟩])
  (t:=112) (kt:=3) (et:=4) (xm:=.tmp 11) (am:=.tmp 11)
  (by kernel_rfl) (by kernel_rfl) (by kernel_rfl) (by kernel_rfl) (by kernel_rfl) (by kernel_rfl) (by kernel_rfl) (of_decide_eq_true (by kernel_rfl))
  (by kernel_rfl) (by kernel_rfl) (by kernel_rfl) (by kernel_rfl) (by kernel_rfl) (by kernel_rfl) (by kernel_rfl) (of_decide_eq_true (by kernel_rfl)) (of_decide_eq_true (by kernel_rfl)) (by decide)
  (by kernel_rfl) (by kernel_rfl) (by kernel_rfl) (by kernel_rfl) (of_decide_eq_true (by kernel_rfl)) (by kernel_rfl) (Acm hc) (fz:=[]) rfl (L:=[0,2,7,12]) (ents:=BU q.A)
  (J:=fun x seen env s=>∃(gg c':Nat),seen.Nodup∧(∀ j∈seen,j<q.A.length)∧env=[(0,nmV q.M),(2,.int .i64 q.b),(7,.own 0 gg 0 (Fa (BQ q.A seen) q.B).length),(12,.ref 1 c 0 0)]∧s=⟨[.arr gg 1 (decide (Fa (BQ q.A seen) q.B≠[])) true (vs (.int .i64) (Fa (BQ q.A seen) q.B)),.raw c x],c'⟩) ?_
 refine Gs ?_
 conv=>whnf
 (conv=>whnf);repeat' (first|(refine fkM hA (fun _=>?_);conv=>whnf)|(refine kA ?_;conv=>whnf)|(refine Br.mk (fun hc=>?_) fun hc=>?_<;>first|exact hc.elim|conv=>whnf)|(refine kB ?_))
 refine⟨rfl,rfl,_,_,rfl,rfl,fun x=>⟨_,_,List.nodup_nil,by simp,rfl,rfl⟩,?_,?_,?_⟩
 ·rintro x seen env s ⟨gg,c',_,_,rfl,rfl⟩
  exact⟨rfl,rfl⟩
 ·rintro x x' seen i env s e ⟨gg,c',hnd,hlt,rfl,rfl⟩ he hins
  obtain⟨hi,rfl⟩:∃h:i<q.A.length,e=(AV.int .i64 (q.A[i]).1,AV.bool (q.A[i]).2):=by
   rw[Ar]at he
   obtain⟨h,rfl⟩:=List.getElem?_eq_some_iff.1 he
   have h2:i<q.A.length:=by simpa[BU,H6]using h
   exact⟨h2,by simp[BU,H6]⟩
  have hsl:=Xg hnd hlt
  have hbl:(Fa (BQ q.A seen) q.B).length≤seen.length:=Nat.le_trans QW (by simp[BQ])
  have hbs:=Aa2 (B:=q.B) (seen:=seen) hi
  have AeM:(seen++[i]).Nodup:=List.nodup_append.2 ⟨hnd,by simp,fun x hx y hy=>by simp at hy;subst hy;rintro rfl;exact hins hx⟩
  have hlt2:∀j∈seen++[i],j<q.A.length:=fun j hj=>by
   rcases List.mem_append.1 hj with hj|hj
   ·exact hlt j hj
   ·simp at hj;omega
  refine⟨0,_,_,_,rfl,rfl,GY ?_⟩
  have hh:hasB q.B (q.A[i]).1=(Dx q.B (q.A[i]).1).getD false:=rfl
  rcases hm:Dx q.B (q.A[i]).1 with _|v
  case' some=>cases v
  all_goals (
   rw[hm]at hh
   rw[hh]at hbs
   conv=>whnf
   (conv=>whnf);repeat' (first|(refine fkM hB (fun _=>?_);conv=>whnf)|(refine fkN hm ?_;conv=>whnf)|(refine fkS hm (fun _=>?_);conv=>whnf)|(refine Um (f:=.int .i64) (l:=Fa (BQ q.A seen) q.B) (x:=(q.A[i]).1) (fun _=>rfl) rfl (by omega) ?_;conv=>whnf)|(refine kA ?_;conv=>whnf)|(refine Br.mk (fun hc=>?_) fun hc=>?_<;>first|exact hc.elim|conv=>whnf)|(refine kB ?_)))
  all_goals first
   |(exfalso;omega)
   |(replace hbs:Fa (BQ q.A (seen++[i])) q.B=Fa (BQ q.A seen) q.B++[(q.A[i]).1]:=hbs
     rw[show (Fa (BQ q.A seen) q.B).length+1=(Fa (BQ q.A (seen++[i])) q.B).length from by rw[hbs];simp,←hbs]
     exact⟨.inl rfl,_,_,AeM,hlt2,rfl,by rw[decide_eq_true (show Fa (BQ q.A (seen++[i])) q.B≠[] from by rw[hbs];simp)];rfl⟩)
   |(replace hbs:Fa (BQ q.A (seen++[i])) q.B=Fa (BQ q.A seen) q.B:=hbs.trans (List.append_nil _)
     rw[← hbs]
     exact⟨.inl rfl,_,_,AeM,hlt2,rfl,rfl⟩)
 ·rintro x seen env s ⟨gg,c',hnd,hlt,rfl,rfl⟩ hp
  have hl:(BU q.A).length=q.A.length:=by simp[BU,H6]
  rw[hl]at hp
  exact hQ gg c' seen x hp
set_option maxHeartbeats 4000000 in
set_option maxRecDepth 10000 in
theorem AiM {q:CQ} (hq:q.ok) {an:List ED} (hc:BI Tryz.prog cF.ntmps an cb0=some ce0):AW Tryz.prog cF.ntmps cb0 (params q.enc 0) ⟨[],0⟩ fun e env s=>(e=.normal∨e=.ret)∧∃vs,Fb env s cA.results=some vs∧(DW vs).closed=true∧DW vs=q.out:=by
 have c0:=Bj (x:=E8 cb0) (y:=cb1) (a:=Jy ce0) (b:=ce1) hc
 have c1:=Bj (x:=E8 cb1) (y:=cb2) (a:=Jy ce1) (b:=ce2) c0.2
 have c2:=Bj (x:=E8 cb2) (y:=cb3) (a:=Jy ce2) (b:=ce3) c1.2
 have c3:=Bj (x:=E8 cb3) (y:=cb4) (a:=Jy ce3) (b:=ce4) c2.2
 refine AW.go (x:=E8 cb0) (y:=cb1) RS mixed c0.1 ?_
 conv=>whnf
 (conv=>whnf);repeat' (first  |(refine kA ?_;conv=>whnf)|(refine Br.mk (fun hc=>?_) fun hc=>?_<;>first|exact hc.elim|conv=>whnf)|(refine kB ?_))
 refine⟨?_⟩
 show AW _ _ cb1 _ _ _
 refine AW.go (x:=E8 cb1) (y:=cb2) RS mixed c1.1 ?_
 conv=>whnf
 (conv=>whnf);repeat' (first  |(refine kA ?_;conv=>whnf)|(refine Br.mk (fun hc=>?_) fun hc=>?_<;>first|exact hc.elim|conv=>whnf)|(refine kB ?_))
 refine⟨?_⟩
 refine AW.seq (x:=E8 cb2) (y:=cb3) (Acn hq c2.1 fun gg c2 sn x hp=>?_)
 have hW:=Aa1 (B:=q.B) (NC hp)
 have hl:=QW (A:=BQ q.A sn) (B:=q.B)
 have hbl:(BQ q.A sn).length≤100000:=by
  rw[(NC hp).length_eq];exact hq.2.2
 show AW _ _ cb3 _ _ _
 refine AW.go (x:=E8 cb3) (y:=cb4) RS mixed c3.1 ?_
 conv=>whnf
 (conv=>whnf);repeat' (first  |(refine kA ?_;conv=>whnf)|(refine Br.mk (fun hc=>?_) fun hc=>?_<;>first|exact hc.elim|conv=>whnf)|(refine kB ?_))
 refine(AgP (L:=Fa (BQ q.A sn) q.B) rfl (by omega)).mono ?_
 rintro _ _ ⟨cc,W,rfl,rfl,w1,w2⟩
 conv=>whnf
 apply Dl rfl
 (conv=>whnf);repeat' (first  |(refine kA ?_;conv=>whnf)|(refine Br.mk (fun hc=>?_) fun hc=>?_<;>first|exact hc.elim|conv=>whnf)|(refine kB ?_))
 refine⟨?_⟩
 show AW _ _ cb4 _ _ _
 refine AW.fin (x:=cb4) RS mixed c3.2 ?_
 conv=>whnf
 (conv=>whnf);repeat' (first  |(refine kA ?_;conv=>whnf)|(refine Br.mk (fun hc=>?_) fun hc=>?_<;>first|exact hc.elim|conv=>whnf)|(refine kB ?_))
 have hwl:=w1.length_eq
 have hWs:W=F6 (Fa q.A q.B):=IE (w2.imp fun h=>by have:=JX.1 h;omega) (Oh _) (w1.trans (hW.trans (Gt _).symm))
 refine Ap ⟨rfl,rfl,by rw[lV,hwl];omega⟩ ?_
 conv=>whnf
 (conv=>whnf);repeat' (first  |(refine kA ?_;conv=>whnf)|(refine Br.mk (fun hc=>?_) fun hc=>?_<;>first|exact hc.elim|conv=>whnf)|(refine kB ?_))
 refine⟨?_⟩
 refine⟨.inr rfl,_,rfl,rfl,?_⟩
 show AV.sl (decide (Fa (BQ q.A sn) q.B≠[])) (sub (vs (.int .i64) W) 0 (Fa (BQ q.A sn) q.B).length)=q.out
 rw[← hwl,uV]
 unfold CQ.out
 rw[hWs]
 have:Fa (BQ q.A sn) q.B≠[]↔Fa q.A q.B≠[]:=by
  rw[ne_eq,ne_eq,←List.length_eq_zero_iff,←List.length_eq_zero_iff,hW.length_eq]
 rw[decide_eq_decide.2 this]
theorem AgQ:Ak Tryz.prog fun f' args s=>if f'=56 then L6 args s else none:=by
 intro f0 args s out s' h
 replace h:(if f0=56 then L6 args s else none)=some (out,s'):=h
 rcases Decidable.em (f0=56)with hf|hf
 case inr=>rw[if_neg hf]at h;cases h
 rw[if_pos hf]at h
 subst hf
 unfold L6 at h
 split at h
 case isFalse=>cases h
 rename_i hx
 have hcs:=Classical.choose_spec hx
 simp only[Option.some.injEq,Prod.mk.injEq]at h
 obtain⟨rfl,rfl⟩:=h
 generalize Classical.choose hx=q at hcs
 obtain⟨hq,rfl,rfl⟩:=hcs
 refine fun w0 B Z φ w vs hI hargs=>.inl ⟨⟨_,Tryz.func56,rfl,by decide⟩,?_⟩
 obtain⟨b,hb,hcm,hrs,_⟩:=RU x56.2
 obtain rfl:b=cb0:=by
  have:cF.body=some cb0:=by kernel_rfl
  exact Option.some.inj (hb.symm.trans this)
 refine(Xi (R:=fun v=>v=q.out) Tryz.func56 hb hrs (of_decide_eq_true (by kernel_rfl)) (AiM hq hcm) hI hargs).mono ?_
 rintro e w1 ⟨v,rfl,Z',φ',hI',hL,hR⟩
 exact⟨Z',φ',hI',hL,hR⟩
noncomputable def IG:List (Nat×Ht):=(56,.ext L6)::tab
theorem AiN:Ac tab 56=none:=by kernel_rfl
theorem upM:∀f a,Ac tab f=some a→Ac IG f=some a:=UE AiN
theorem Z8:Oi Tryz.prog (Ac IG):=by
 intro f a h
 simp only[IG,Ac]at h
 cases hb:Nat.beq 56 f with
 |false=>rw[hb,cond_false]at h;exact Acr f a h
 |true=>
  rw[hb,cond_true]at h
  have e:=Nat.eq_of_beq_eq_true hb
  subst e
  cases h
  exact AgQ
theorem Et (n:Nat):Ak Tryz.prog (run (Ac IG) n):=Jz mixed Z8 n
theorem Ak9 {q:CQ} (hq:q.ok):Ah (Ac IG) 56 q.enc (· =q.out):=by
 refine⟨q.out,⟨1,?_⟩,rfl⟩
 have h1:run (Ac IG) 1 56 q.enc ⟨[],0⟩=some (.ok q.out,⟨[],0⟩):=YE hq
 simp only[Cj,h1]
 rfl
end
section
open Go.RowKit Go.Sort
noncomputable def Nr (types:List (List UInt8)) (g:GG):NM:=g.nodes.map fun n=>(n.id,Qu types g.edges n.id)
theorem Akj {types:List (List UInt8)} {g:GG}:AV.fmap (g.nodes.map fun n=>(.int .i64 n.id,.fmap (BU (Qu types g.edges n.id))))=nmV (Nr types g):=by
 unfold nmV Nr H6
 rw[List.map_map]
 rfl
theorem Yr {α:Type} {M:List (Int×α)} {k:Int} {v:α} {x:Int} (h:x∈(EF M k v).map Prod.fst):x=k∨x∈M.map Prod.fst:=by
 induction M with
 |nil=>simp[EF]at h;exact .inl h
 |cons p M ih=>
  simp only[EF]at h
  split at h
  ·rename_i e
   simp only[List.map_cons,List.mem_cons]at h ⊢
   rcases h with h|h
   ·exact .inl h
   ·exact .inr (.inr h)
  ·simp only[List.map_cons,List.mem_cons]at h ⊢
   rcases h with h|h
   ·exact .inr (.inl h)
   ·rcases ih h with h|h
    ·exact .inl h
    ·exact .inr (.inr h)
theorem AaT {types:List (List UInt8)} {ids:List Int} {v x:Int}:∀{es:List GE} {L:Int→List (Int×Bool)},(∀ e∈es,e.fr∈ids∧e.to∈ids)→(∀ v x,x∈(L v).map Prod.fst→x∈ids)→x∈((es.foldl (IW types) L) v).map Prod.fst→x∈ids
 |[],L,_,h,hx=>h v x hx
 |e::es,L,he,h,hx=>by
  refine AaT (es:=es) (L:=IW types L e) (fun e' h'=>he e' (by simp[h'])) (fun u y hy=>?_) hx
  have hee:=he e (by simp)
  unfold IW at hy
  split at hy
  ·dsimp only at hy
   split at hy
   ·rcases Yr hy with rfl|hy
    ·exact hee.1
    ·exact h _ _ hy
   ·split at hy
    ·rcases Yr hy with rfl|hy
     ·exact hee.2
     ·exact h _ _ hy
    ·exact h _ _ hy
  ·exact h _ _ hy
theorem Yt {types:List (List UInt8)} {g:GG} (hck:Bo g=0) {v:Int} (hv:v∈BK g):Dx (Nr types g) v=some (Qu types g.edges v):=by
 obtain⟨n,hn,rfl⟩:=List.mem_map.1 (show v∈g.nodes.map GN.id from hv)
 have hk:(Nr types g).map Prod.fst=BK g:=by unfold Nr;rw[List.map_map];rfl
 exact Oj (p:=(n.id,Qu types g.edges n.id)) (by rw[hk];exact Vx hck) (List.mem_map.2 ⟨n,hn,rfl⟩)
noncomputable def Yu (types:List (List UInt8)) (g:GG) (v x:Int):Nat:=(Fa (Qu types g.edges v) (Qu types g.edges x)).length
def QS (f:Int→Nat) (L:List (Int×Bool)):Nat:=(L.map fun p=>f p.1).sum
noncomputable def twN (types:List (List UInt8)) (g:GG) (v:Int):Nat:=QS (Yu types g v) (Qu types g.edges v)
noncomputable def Yx (types:List (List UInt8)) (g:GG):List (Int×Int):=g.nodes.map fun n=>(n.id,((twN types g n.id / 2:Nat):Int))
theorem Ab2 {f:Int→Nat} {L L':List (Int×Bool)} (h:L.Perm L'):QS f L=QS f L':=(h.map _).sum_nat
theorem WT {f:Int→Nat} {b:Nat} (hf:∀x,f x≤b):∀{L:List (Int×Bool)},QS f L≤L.length*b
 |[]=>by simp[QS]
 |p::L=>by
  have:=WT hf (L:=L)
  have h1:=hf p.1
  simp only[QS,List.map_cons,List.sum_cons,List.length_cons,Nat.succ_mul]at this ⊢
  omega
theorem Ab3 {f:Int→Nat} {A:List (Int×Bool)} {seen:List Nat} {i:Nat} (h:i<A.length):QS f (BQ A (seen++[i]))=QS f (BQ A seen)+f (A[i]).1:=by
 simp[QS,BQ,h]
structure TQ where
 g:GG
 tn:Bool
 types:List (List UInt8)
def TQ.enc (q:TQ):List AV:=[q.g.av,.sl q.tn (vs .str q.types)]
def TQ.ok (q:TQ):Prop:=q.g.ok∧q.g.nodes.length≤1000∧q.g.edges.length≤1000∧q.types.length<2^63
noncomputable def TQ.out (q:TQ):AV:=if Bo q.g=0 then .sl (decide (0<q.g.nodes.length)) (vs pv (Yx q.types q.g))else .sl false []
noncomputable abbrev tF:Func:=Tryz.f21
noncomputable abbrev tA:FK:=x21.1
noncomputable abbrev tb0:Code:=Z7 tF
noncomputable abbrev tb1:Code:=IB tb0
noncomputable abbrev tb2:Code:=IB tb1
noncomputable abbrev tb3:Code:=IB tb2
noncomputable abbrev tb4:Code:=IB tb3
noncomputable abbrev tb5:Code:=IB tb4
noncomputable abbrev te0:AQ:=tA.body
noncomputable abbrev te1:AQ:=KH te0
noncomputable abbrev te2:AQ:=KH te1
noncomputable abbrev te3:AQ:=KH te2
noncomputable abbrev te4:AQ:=KH te3
noncomputable abbrev te5:AQ:=KH te4
noncomputable abbrev tL:Code:=inC (inC (IB (E8 tb4)))
noncomputable abbrev tR1:Code:=IB tL
noncomputable abbrev tR2:Code:=IB tR1
noncomputable abbrev tBk:Code:=inC (E8 tR2)
noncomputable abbrev tB1:Code:=IB tBk
noncomputable abbrev YA:Code:=IB tB1
noncomputable abbrev tr0:Code:=E8 (E8 YA)
noncomputable abbrev trB:Code:=inC (inC (IB (E8 YA)))
noncomputable abbrev tr1:Code:=E8 trB
noncomputable abbrev trI:Code:=inC (IB (IB trB))
noncomputable abbrev tr2:Code:=E8 trI
noncomputable abbrev trX:Code:=IB trI
noncomputable abbrev uL:AQ:=inA (inA (KH (Jy te4)))
noncomputable abbrev uR1:AQ:=KH uL
noncomputable abbrev uR2:AQ:=KH uR1
noncomputable abbrev uBk:AQ:=inA (Jy uR2)
noncomputable abbrev uB1:AQ:=KH uBk
noncomputable abbrev uB2:AQ:=KH uB1
noncomputable abbrev urB:AQ:=inA (inA (KH (Jy uB2)))
noncomputable abbrev urI:AQ:=inA (KH (KH urB))
noncomputable abbrev urX:AQ:=KH urI
theorem Aer:IB (E8 tb4)=.block 0 (.loop tL):=by kernel_rfl
theorem AfY:E8 tR2=.block 1 tBk:=by kernel_rfl
theorem Ab4:E8 YA=.seq (.region (AaZ tr0) (opsOf tr0) false) (.block 2 (.loop (.seq (.region (AaZ tr1) (opsOf tr1) false) (.seq (.cond (.tmp 30) .skip (.exit 2)) (.block 3 (.seq (.region (AaZ tr2) (opsOf tr2) false) trX)))))):=by kernel_rfl
theorem Aes {an:List ED} (hc:BI Tryz.prog tF.ntmps an (E8 YA)=some (Jy uB2)):BI Tryz.prog tF.ntmps an trX=some urX:=by
 have d1:=(Bj (x:=tr0) (y:=IB (E8 YA)) (a:=Jy (Jy uB2)) (b:=KH (Jy uB2)) hc).2
 have d2:=FM (i:=2) (j:=2) (x:=inC (IB (E8 YA))) (a:=inA (KH (Jy uB2))) d1
 have d3:=Nz (l:=[5,6,8,9,18,19,20,28]) (x:=trB) (a:=urB) d2
 have d4:=(Bj (x:=tr1) (y:=IB trB) (a:=Jy urB) (b:=KH urB) d3).2
 have d5:=(Bj (x:=E8 (IB trB)) (y:=IB (IB trB)) (a:=Jy (KH urB)) (b:=KH (KH urB)) d4).2
 have d6:=FM (i:=3) (j:=3) (x:=trI) (a:=urI) d5
 exact(Bj (x:=tr2) (y:=trX) (a:=Jy urI) (b:=urX) d6).2
set_option maxHeartbeats 4000000 in
set_option maxRecDepth 10000 in
theorem Aet {types:List (List UInt8)} {g:GG} (hck:Bo g=0) (hE:g.edges.length≤1000) {i:Nat} (hi:i<g.nodes.length) {ob0 V4:Obj} {g1 no:Nat} {nn:Bool} {xs:List AV} {nc:Int} {gn c:Nat} {an:List ED} (hc:BI Tryz.prog tF.ntmps an (E8 YA)=some (Jy uB2)) {Q:AL→Env→Ai→Prop}
 (hQ:∀c' x,Q .normal [(30,.bool false),(29,.junk),(5,nmV (Nr types g)),(6,.own 1 g1 0 no),(8,.ref 2 gn 0 0),(9,.int .i64 (twN types g (g.nodes[i]).id)),(18,.sl nn xs),(19,.int .i64 nc),(20,.int .i64 i),(28,.ref 3 c 0 0)] ⟨[ob0,V4,.arr gn 3 true true [(g.nodes[i]).av],.raw c x],c'⟩):
 AW Tryz.prog tF.ntmps (E8 YA) [(5,nmV (Nr types g)),(6,.own 1 g1 0 no),(8,.ref 2 gn 0 0),(9,.int .i64 0),(18,.sl nn xs),(19,.int .i64 nc),(20,.int .i64 i)] ⟨[ob0,V4,.arr gn 3 true true [(g.nodes[i]).av]],c⟩ Q:=by
 have hid:(g.nodes[i]).id∈BK g:=List.mem_map.2 ⟨_,List.getElem_mem hi,rfl⟩
 have hA:=Yt (types:=types) hck hid
 have hlA:∀v,(Qu types g.edges v).length≤1000:=fun v=>Nat.le_trans (Wv (n:=0) (fun _=>Nat.le_refl _)) (by omega)
 have hcl:∀x,Yu types g (g.nodes[i]).id x≤1000:=fun x=>Nat.le_trans QW (hlA _)
 rw[Ab4]
 obtain⟨A,hAe⟩:∃A,A=Qu types g.edges (g.nodes[i]).id:=⟨_,rfl⟩
 rw[← hAe]at hA
 refine AW.range (AP:=Ac IG) Et mixed (anA:=[]) (anB:=[]) (it:=28) (nx:=29) (more:=30) (pair:=31) (Xh:=[JW tr0 0,JW tr0 1,JW tr0 2,JW tr0 3]) (oR:=JW tr0 4) (oN:=JW tr1 0) (oX:=JW tr1 1) (oE:=JW tr2 0) (YF:=[JW tr2 1,JW tr2 2])
  (Aco:=[⟨some 24,.Yw (.tmp 5),none⟩,⟨some 25,.Qh 0 (.tmp 8),none⟩,⟨some 26,.load none (.tmp 25),none⟩,⟨some 27,.lookup .int .CJ false (.tmp 24) (.tmp 26),none⟩]) (Acp:=[⟨some 32,.ext (.tmp 31) 0,none⟩,⟨some 10,.Yw (.tmp 32),none⟩])
  (t:=112) (kt:=3) (et:=4) (xm:=.tmp 27) (am:=.tmp 27)
  (by kernel_rfl) (by kernel_rfl) (by kernel_rfl) (by kernel_rfl) (by kernel_rfl) (by kernel_rfl) (by kernel_rfl) (of_decide_eq_true (by kernel_rfl))
  (by kernel_rfl) (by kernel_rfl) (by kernel_rfl) (by kernel_rfl) (by kernel_rfl) (by kernel_rfl) (by kernel_rfl) (of_decide_eq_true (by kernel_rfl)) (of_decide_eq_true (by kernel_rfl)) (by decide)
  (by kernel_rfl) (by kernel_rfl) (by kernel_rfl) (by kernel_rfl) (of_decide_eq_true (by kernel_rfl)) (by kernel_rfl) (Aes hc) (fz:=[]) rfl (L:=[5,6,8,9,18,19,20,28]) (ents:=BU A)
  (J:=fun x seen env s=>∃(c':Nat),seen.Nodup∧(∀ j∈seen,j<A.length)∧env=[(5,nmV (Nr types g)),(6,.own 1 g1 0 no),(8,.ref 2 gn 0 0),(9,.int .i64 (QS (Yu types g (g.nodes[i]).id) (BQ A seen))),(18,.sl nn xs),(19,.int .i64 nc),(20,.int .i64 i),(28,.ref 3 c 0 0)]∧s=⟨[ob0,V4,.arr gn 3 true true [(g.nodes[i]).av],.raw c x],c'⟩) ?_
 refine Gs ?_
 conv=>whnf
 (conv=>whnf);repeat' (first|(refine fkM hA (fun _=>?_);conv=>whnf)|(refine kA ?_;conv=>whnf)|(refine Br.mk (fun hc=>?_) fun hc=>?_<;>first|exact hc.elim|conv=>whnf)|(refine kB ?_))
 refine⟨rfl,rfl,_,_,rfl,rfl,fun x=>⟨_,List.nodup_nil,by simp,rfl,rfl⟩,?_,?_,?_⟩
 ·rintro x seen env s ⟨c',_,_,rfl,rfl⟩
  exact⟨rfl,rfl⟩
 ·rintro x x' seen k env s e ⟨c',hnd,hlt,rfl,rfl⟩ he hins
  obtain⟨hk,rfl⟩:∃h:k<A.length,e=(AV.int .i64 (A[k]).1,AV.bool (A[k]).2):=by
   rw[Ar]at he
   obtain⟨h,rfl⟩:=List.getElem?_eq_some_iff.1 he
   have h2:k<A.length:=by simpa[BU,H6]using h
   exact⟨h2,by simp[BU,H6]⟩
  have hsl:=Xg hnd hlt
  have AeM:(seen++[k]).Nodup:=List.nodup_append.2 ⟨hnd,by simp,fun x hx y hy=>by simp at hy;subst hy;rintro rfl;exact hins hx⟩
  have hlt2:∀j∈seen++[k],j<A.length:=fun j hj=>by
   rcases List.mem_append.1 hj with hj|hj
   ·exact hlt j hj
   ·simp at hj;omega
  have hxs:∀p∈A,p.1∈BK g:=by
   rw[hAe]
   exact fun p hp=>AaT (types:=types) (es:=g.edges) (L:=fun _=>[]) (v:=(g.nodes[i]).id) (Ju hck) (fun v x h=>by cases h) (List.mem_map.2 ⟨p,hp,rfl⟩)
  have hx:=hxs _ (List.getElem_mem hk)
  have hB:=Yt (types:=types) hck hx
  have AoL:A.length≤1000:=by rw[hAe];exact hlA _
  have pC:=Ak9 (q:=⟨Nr types g,(g.nodes[i]).id,(A[k]).1,A,Qu types g.edges (A[k]).1⟩) ⟨hA,hB,by show A.length≤100000;omega⟩
  have hsum:=Ab3 (f:=Yu types g (g.nodes[i]).id) (seen:=seen) hk
  have hb1:=WT hcl (L:=BQ A seen)
  have hb2:=hcl (A[k]).1
  have hb3:(BQ A seen).length=seen.length:=by simp[BQ]
  have hlen:∀x,(F6 (Fa A (Qu types g.edges x))).length=Yu types g (g.nodes[i]).id x:=fun x=>by
   rw[(Gt _).length_eq,hAe];rfl
  have hmul:seen.length*1000≤1000*1000:=Nat.mul_le_mul_right _ (by omega)
  rw[hb3]at hb1
  have hw:IntKind.i64.wrap (((QS (Yu types g (g.nodes[i]).id) (BQ A seen):Nat):Int)+(((F6 (Fa A (Qu types g.edges (A[k]).1))).length:Nat):Int))=((QS (Yu types g (g.nodes[i]).id) (BQ A (seen++[k])):Nat):Int):=by
   rw[hlen,hsum,wrap_i64 (by omega) (by omega)]
   rfl
  refine⟨0,_,_,_,rfl,rfl,GY ?_⟩
  conv=>whnf
  (conv=>whnf);repeat' (first|(refine Aa pC ?_;rintro _ rfl;conv=>whnf)|(refine CW hw ?_;conv=>whnf)|(refine kA ?_;conv=>whnf)|(refine Br.mk (fun hc=>?_) fun hc=>?_<;>first|exact hc.elim|conv=>whnf)|(refine kB ?_))
  exact⟨.inl rfl,_,AeM,hlt2,rfl,rfl⟩
 ·rintro x seen env s ⟨c',hnd,hlt,rfl,rfl⟩ hp
  have hl:(BU A).length=A.length:=by simp[BU,H6]
  rw[hl]at hp
  rw[Ab2 (NC hp),hAe]
  exact hQ c' x
theorem Pz {types:List (List UInt8)} {g:GG}:(Yx types g).length=g.nodes.length:=List.length_map _
set_option maxHeartbeats 4000000 in
set_option maxRecDepth 10000 in
theorem Akm {q:TQ} (hq:q.ok) {an:List ED} (hc:BI Tryz.prog tF.ntmps an tb0=some te0):AW Tryz.prog tF.ntmps tb0 (params q.enc 0) ⟨[],0⟩ fun e env s=>(e=.normal∨e=.ret)∧∃vs,Fb env s tA.results=some vs∧(DW vs).closed=true∧DW vs=q.out:=by
 obtain⟨g,tn,types⟩:=q
 obtain⟨hg,hN,hE,ht⟩:=hq
 dsimp only at hg hN hE ht
 have c0:=Bj (x:=E8 tb0) (y:=tb1) (a:=Jy te0) (b:=te1) hc
 have c1:=Bj (x:=E8 tb1) (y:=tb2) (a:=Jy te1) (b:=te2) c0.2
 have c2:=Bj (x:=E8 tb2) (y:=tb3) (a:=Jy te2) (b:=te3) c1.2
 have c3:=Bj (x:=E8 tb3) (y:=tb4) (a:=Jy te3) (b:=te4) c2.2
 have c4:=Bj (x:=E8 tb4) (y:=tb5) (a:=Jy te4) (b:=te5) c3.2
 have d1:=Bj (x:=E8 (E8 tb4)) (y:=IB (E8 tb4)) (a:=Jy (Jy te4)) (b:=KH (Jy te4)) c4.1
 have d2:=FM (i:=0) (j:=0) (x:=inC (IB (E8 tb4))) (a:=inA (KH (Jy te4))) d1.2
 have d3:=Nz (l:=[5,6,18,19,20]) (x:=tL) (a:=uL) d2
 have d4:=Bj (x:=E8 tL) (y:=tR1) (a:=Jy uL) (b:=uR1) d3
 have d5:=Bj (x:=E8 tR1) (y:=tR2) (a:=Jy uR1) (b:=uR2) d4.2
 have d6:=Bj (x:=E8 tR2) (y:=IB tR2) (a:=Jy uR2) (b:=KH uR2) d5.2
 have d7:=FM (i:=1) (j:=1) (x:=tBk) (a:=uBk) d6.1
 have d8:=Bj (x:=E8 tBk) (y:=tB1) (a:=Jy uBk) (b:=uB1) d7
 have d9:=Bj (x:=E8 tB1) (y:=YA) (a:=Jy uB1) (b:=uB2) d8.2
 have d10:=Bj (x:=E8 YA) (y:=IB YA) (a:=Jy uB2) (b:=KH uB2) d9.2
 have pK:=(YM hg).up upM
 refine AW.go (AP:=Ac IG) (x:=E8 tb0) (y:=tb1) Et mixed c0.1 ?_
 conv=>whnf
 (conv=>whnf);repeat' (first  |(refine kA ?_;conv=>whnf)|(refine Br.mk (fun hc=>?_) fun hc=>?_<;>first|exact hc.elim|conv=>whnf)|(refine kB ?_))
 refine⟨?_⟩
 show AW _ _ tb1 _ _ _
 refine AW.go (AP:=Ac IG) (x:=E8 tb1) (y:=tb2) Et mixed c1.1 ?_
 by_cases hck:Bo g=0
 case neg=>
  generalize he:Bo g=ee at pK hck
  conv=>whnf
  (conv=>whnf);repeat' (first|(refine Aa pK ?_;rintro _ rfl;conv=>whnf)|(refine kA ?_;conv=>whnf)|(refine Br.mk (fun hc=>?_) fun hc=>?_<;>first|exact hc.elim|conv=>whnf)|(refine kB ?_))
  all_goals first
   |(exfalso;omega)
   |(refine ⟨?_⟩;exact⟨.inr rfl,_,rfl,rfl,by unfold TQ.out;rw[if_neg (by dsimp only;rw[he];exact hck)];rfl⟩)
 have pNb:=(Zy (tn:=tn) hg hN hE hck ht).up upM
 rw[Akj]at pNb
 rw[hck]at pK
 conv=>whnf
 (conv=>whnf);repeat' (first|(refine Aa pK ?_;rintro _ rfl;conv=>whnf)|(refine kA ?_;conv=>whnf)|(refine Br.mk (fun hc=>?_) fun hc=>?_<;>first|exact hc.elim|conv=>whnf)|(refine kB ?_))
 refine⟨?_⟩
 show AW _ _ tb2 _ _ _
 refine AW.go (AP:=Ac IG) (x:=E8 tb2) (y:=tb3) Et mixed c2.1 ?_
 conv=>whnf
 (conv=>whnf);repeat' (first|(refine Aa pNb ?_;rintro _ rfl;conv=>whnf)|(refine kA ?_;conv=>whnf)|(refine Br.mk (fun hc=>?_) fun hc=>?_<;>first|exact hc.elim|conv=>whnf)|(refine kB ?_))
 refine⟨?_⟩
 show AW _ _ tb3 _ _ _
 refine AW.go (AP:=Ac IG) (x:=E8 tb3) (y:=tb4) Et mixed c3.1 ?_
 conv=>whnf
 (conv=>whnf);repeat' (first  |(refine kA ?_;conv=>whnf)|(refine Br.mk (fun hc=>?_) fun hc=>?_<;>first|exact hc.elim|conv=>whnf)|(refine kB ?_))
 refine⟨?_⟩
 show AW _ _ tb4 _ _ _
 refine AW.seq (x:=E8 tb4) (y:=tb5) ?_
 refine AW.go (AP:=Ac IG) (x:=E8 (E8 tb4)) (y:=IB (E8 tb4)) Et mixed d1.1 ?_
 conv=>whnf
 (conv=>whnf);repeat' (first  |(refine kA ?_;conv=>whnf)|(refine Br.mk (fun hc=>?_) fun hc=>?_<;>first|exact hc.elim|conv=>whnf)|(refine kB ?_))
 refine⟨?_⟩
 show AW _ _ (IB (E8 tb4)) _ _ _
 rw[Aer]
 refine AW.block ?_
 refine AW.loop (fun m env s=>∃(i c g1:Nat),m=g.nodes.length-i∧i≤g.nodes.length∧env=[(5,nmV (Nr types g)),(6,.own 1 g1 0 i),(18,.sl g.nn (vs GN.av g.nodes)),(19,.int .i64 g.nodes.length),(20,.int .i64 i)]∧s=⟨[.arr 0 4 true true [g.av],.arr g1 2 (decide (0<i)) true (vs pv ((Yx types g).take i))],c⟩) ?_ (m:=g.nodes.length) ⟨0,_,_,rfl,by omega,rfl,rfl⟩
 rintro _ _ _ ⟨i,c,g1,rfl,hi,rfl,rfl⟩
 have htk:((Yx types g).take i).length=i:=by rw[List.length_take,Pz];omega
 refine AW.go (AP:=Ac IG) (x:=E8 tL) (y:=tR1) Et mixed d4.1 ?_
 by_cases hlt:i<g.nodes.length
 case neg=>
  have hie:i=g.nodes.length:=by omega
  subst hie
  rw[List.take_of_length_le (by rw[Pz];exact Nat.le_refl _)]
  conv=>whnf
  (conv=>whnf);repeat' (first  |(refine kA ?_;conv=>whnf)|(refine Br.mk (fun hc=>?_) fun hc=>?_<;>first|exact hc.elim|conv=>whnf)|(refine kB ?_))
  all_goals first|(exfalso;omega)|skip
  refine⟨?_⟩
  show AW _ _ tR1 _ _ _
  refine AW.go (AP:=Ac IG) (x:=E8 tR1) (y:=tR2) Et mixed d5.1 ?_
  conv=>whnf
  (conv=>whnf);repeat' (first  |(refine kA ?_;conv=>whnf)|(refine Br.mk (fun hc=>?_) fun hc=>?_<;>first|exact hc.elim|conv=>whnf)|(refine kB ?_))
  refine⟨?_⟩
  refine .inr ⟨(fun h=>by cases h),?_⟩
  show AW _ _ tb5 _ _ _
  refine AW.fin (AP:=Ac IG) (x:=tb5) Et mixed c4.2 ?_
  conv=>whnf
  (conv=>whnf);repeat' (first  |(refine kA ?_;conv=>whnf)|(refine Br.mk (fun hc=>?_) fun hc=>?_<;>first|exact hc.elim|conv=>whnf)|(refine kB ?_))
  have htS:sub (vs pv (Yx types g)) 0 g.nodes.length=vs pv (Yx types g):=by
   have:sub (vs pv (Yx types g)) 0 (Yx types g).length=vs pv (Yx types g):=uV
   rwa [Pz]at this
  refine Ap ⟨rfl,rfl,by rw[lV,Pz];omega⟩ ?_
  conv=>whnf
  refine A8 htS ?_
  conv=>whnf
  (conv=>whnf);repeat' (first  |(refine kA ?_;conv=>whnf)|(refine Br.mk (fun hc=>?_) fun hc=>?_<;>first|exact hc.elim|conv=>whnf)|(refine kB ?_))
  refine⟨?_⟩
  exact⟨.inr rfl,_,rfl,rfl,by unfold TQ.out;rw[if_pos hck];rfl⟩
 conv=>whnf
 (conv=>whnf);repeat' (first  |(refine kA ?_;conv=>whnf)|(refine Br.mk (fun hc=>?_) fun hc=>?_<;>first|exact hc.elim|conv=>whnf)|(refine kB ?_))
 all_goals first|(exfalso;omega)|skip
 refine⟨?_⟩
 show AW _ _ tR1 _ _ _
 refine AW.go (AP:=Ac IG) (x:=E8 tR1) (y:=tR2) Et mixed d5.1 ?_
 conv=>whnf
 (conv=>whnf);repeat' (first  |(refine kA ?_;conv=>whnf)|(refine Br.mk (fun hc=>?_) fun hc=>?_<;>first|exact hc.elim|conv=>whnf)|(refine kB ?_))
 refine⟨?_⟩
 show AW _ _ tR2 _ _ _
 refine AW.seq (x:=E8 tR2) (y:=IB tR2) ?_
 rw[AfY]
 refine AW.block ?_
 refine AW.go (AP:=Ac IG) (x:=E8 tBk) (y:=tB1) Et mixed d8.1 ?_
 conv=>whnf
 (conv=>whnf);repeat' (first  |(refine kA ?_;conv=>whnf)|(refine Br.mk (fun hc=>?_) fun hc=>?_<;>first|exact hc.elim|conv=>whnf)|(refine kB ?_))
 refine⟨?_⟩
 show AW _ _ tB1 _ _ _
 refine AW.go (AP:=Ac IG) (x:=E8 tB1) (y:=YA) Et mixed d9.1 ?_
 conv=>whnf
 (conv=>whnf);repeat' (first  |(refine kA ?_;conv=>whnf)|(refine Br.mk (fun hc=>?_) fun hc=>?_<;>first|exact hc.elim|conv=>whnf)|(refine kB ?_))
 refine⟨?_⟩
 refine AW.seq (x:=E8 YA) (y:=IB YA) (Aet hck hE hlt d10.1 fun c' x=>?_)
 show AW _ _ (IB YA) _ _ _
 have htw:twN types g (g.nodes[i]).id<2^62:=by
  have hlA:∀v,(Qu types g.edges v).length≤1000:=fun v=>Nat.le_trans (Wv (n:=0) (fun _=>Nat.le_refl _)) (by omega)
  have h1:=WT (f:=Yu types g (g.nodes[i]).id) (b:=1000) (fun x=>Nat.le_trans QW (hlA _)) (L:=Qu types g.edges (g.nodes[i]).id)
  have h2:=Nat.mul_le_mul_right 1000 (hlA (g.nodes[i]).id)
  unfold twN
  omega
 have hsn:(Yx types g).take (i+1)=(Yx types g).take i++[((g.nodes[i]).id,((twN types g (g.nodes[i]).id / 2:Nat):Int))]:=by
  rw[List.take_succ_eq_append_getElem (by rw[Pz];exact hlt)];unfold Yx;rw[List.getElem_map]
 refine AW.fin (AP:=Ac IG) (x:=IB YA) Et mixed d10.2 ?_
 conv=>whnf
 (conv=>whnf);repeat' (first|(refine AjE (twN types g (g.nodes[i]).id) 2 rfl (by omega) ?_;conv=>whnf)|(refine Um (f:=pv) (l:=(Yx types g).take i) (x:=((g.nodes[i]).id,((twN types g (g.nodes[i]).id / 2:Nat):Int))) AfF (by rw[htk]) (by rw[htk];omega) ?_;conv=>whnf)|(refine kA ?_;conv=>whnf)|(refine Br.mk (fun hc=>?_) fun hc=>?_<;>first|exact hc.elim|conv=>whnf)|(refine kB ?_))
 refine⟨?_⟩
 show AW _ _ (IB tR2) _ _ _
 refine AW.fin (AP:=Ac IG) (x:=IB tR2) Et mixed d6.2 ?_
 conv=>whnf
 (conv=>whnf);repeat' (first  |(refine kA ?_;conv=>whnf)|(refine Br.mk (fun hc=>?_) fun hc=>?_<;>first|exact hc.elim|conv=>whnf)|(refine kB ?_))
 refine⟨?_⟩
 rw[htk,←hsn]
 exact .inl ⟨rfl,g.nodes.length-(i+1),by omega,i+1,_,_,rfl,by omega,rfl,by rw[decide_eq_true (show 0<i+1 by omega)]⟩
noncomputable def MP (args:List AV) (s:Ai):Option (AB×Ai):=by
 classical exact if h:∃q:TQ,q.ok∧args=q.enc∧s=⟨[],0⟩then some (.ok (Classical.choose h).out,⟨[],0⟩)else none
theorem GP.Jo {p q:GP} (h:p.av=q.av):p=q:=by
 obtain⟨k,a,b,c,d,e,f⟩:=p
 obtain⟨k',a',b',c',d',e',f'⟩:=q
 simp only[GP.av,AV.agg.injEq,List.cons.injEq,AV.str.injEq,AV.int.injEq,AV.sl.injEq,and_true,true_and]at h
 obtain⟨rfl,rfl,rfl,rfl,rfl,rfl,rfl⟩:=h
 rfl
theorem KG {α:Type} {f:α→AV} (hf:∀a b,f a=f b→a=b):∀{l m:List α},vs f l=vs f m→l=m
 |[],[],_=>rfl
 |[],_::_,h=>by cases h
 |_::_,[],h=>by cases h
 |a::l,b::m,h=>by
  simp only[vs,List.map_cons,List.cons.injEq]at h
  rw[hf _ _ h.1,KG hf h.2]
theorem GN.Jo {p q:GN} (h:p.av=q.av):p=q:=by
 obtain⟨a,b,c,d,e⟩:=p
 obtain⟨a',b',c',d',e'⟩:=q
 simp only[GN.av,AV.agg.injEq,List.cons.injEq,AV.int.injEq,AV.sl.injEq,and_true,true_and]at h
 obtain⟨rfl,⟨rfl,h1⟩,rfl,h2⟩:=h
 obtain rfl:=KG (fun a b h=>AV.str.inj h) h1
 obtain rfl:=KG (fun a b h=>GP.Jo h) h2
 rfl
theorem GE.Jo {p q:GE} (h:p.av=q.av):p=q:=by
 obtain⟨a,b,c,d,e,f⟩:=p
 obtain⟨a',b',c',d',e',f'⟩:=q
 simp only[GE.av,AV.agg.injEq,List.cons.injEq,AV.int.injEq,AV.str.injEq,AV.sl.injEq,and_true,true_and]at h
 obtain⟨rfl,rfl,rfl,rfl,rfl,h2⟩:=h
 obtain rfl:=KG (fun a b h=>GP.Jo h) h2
 rfl
theorem GG.Jo {p q:GG} (h:p.av=q.av):p=q:=by
 obtain⟨a,b,c,d,e,f⟩:=p
 obtain⟨a',b',c',d',e',f'⟩:=q
 simp only[GG.av,AV.agg.injEq,List.cons.injEq,AV.int.injEq,AV.sl.injEq,and_true,true_and]at h
 obtain⟨⟨rfl,h1⟩,⟨rfl,h2⟩,rfl,rfl⟩:=h
 obtain rfl:=KG (fun a b h=>GN.Jo h) h1
 obtain rfl:=KG (fun a b h=>GE.Jo h) h2
 rfl
theorem TQ.VJ {p q:TQ} (h:p.enc=q.enc):p=q:=by
 obtain⟨a,c,d⟩:=p
 obtain⟨a',c',d'⟩:=q
 simp only[TQ.enc,List.cons.injEq,AV.sl.injEq,and_true]at h
 obtain⟨h1,rfl,h2⟩:=h
 obtain rfl:=GG.Jo h1
 obtain rfl:=KG (fun a b h=>AV.str.inj h) h2
 rfl
theorem ZP {q:TQ} (hq:q.ok):MP q.enc ⟨[],0⟩=some (.ok q.out,⟨[],0⟩):=by
 have hx:∃p:TQ,p.ok∧q.enc=p.enc∧(⟨[],0⟩:Ai)=⟨[],0⟩:=⟨q,hq,rfl,rfl⟩
 unfold MP
 rw[dif_pos hx]
 have:=TQ.VJ (Classical.choose_spec hx).2.1
 rw[← this]
theorem Aik:Ak Tryz.prog fun f' args s=>if f'=21 then MP args s else none:=by
 intro f0 args s out s' h
 replace h:(if f0=21 then MP args s else none)=some (out,s'):=h
 rcases Decidable.em (f0=21)with hf|hf
 case inr=>rw[if_neg hf]at h;cases h
 rw[if_pos hf]at h
 subst hf
 unfold MP at h
 split at h
 case isFalse=>cases h
 rename_i hx
 have hcs:=Classical.choose_spec hx
 simp only[Option.some.injEq,Prod.mk.injEq]at h
 obtain⟨rfl,rfl⟩:=h
 generalize Classical.choose hx=q at hcs
 obtain⟨hq,rfl,rfl⟩:=hcs
 refine fun w0 B Z φ w vs hI hargs=>.inl ⟨⟨_,Tryz.func21,rfl,by decide⟩,?_⟩
 obtain⟨b,hb,hcm,hrs,_⟩:=RU x21.2
 obtain rfl:b=tb0:=by
  have:tF.body=some tb0:=by kernel_rfl
  exact Option.some.inj (hb.symm.trans this)
 refine(Xi (R:=fun v=>v=q.out) Tryz.func21 hb hrs (of_decide_eq_true (by kernel_rfl)) (Akm hq hcm) hI hargs).mono ?_
 rintro e w1 ⟨v,rfl,Z',φ',hI',hL,hR⟩
 exact⟨Z',φ',hI',hL,hR⟩
noncomputable def Sj:List (Nat×Ht):=(21,.ext MP)::IG
theorem Akn:Ac IG 21=none:=by kernel_rfl
theorem upT:∀f a,Ac IG f=some a→Ac Sj f=some a:=UE Akn
theorem upC:∀f a,Ac tab f=some a→Ac Sj f=some a:=fun f a h=>upT f a (upM f a h)
theorem AfZ:Oi Tryz.prog (Ac Sj):=by
 intro f a h
 simp only[Sj,Ac]at h
 cases hb:Nat.beq 21 f with
 |false=>rw[hb,cond_false]at h;exact Z8 f a h
 |true=>
  rw[hb,cond_true]at h
  have e:=Nat.eq_of_beq_eq_true hb
  subst e
  cases h
  exact Aik
theorem Ae4 (n:Nat):Ak Tryz.prog (run (Ac Sj) n):=Jz mixed AfZ n
theorem TQ.closed (q:TQ):q.out.closed=true:=by unfold TQ.out;split<;>rfl
theorem YQ {q:TQ} (hq:q.ok):Ah (Ac Sj) 21 q.enc (· =q.out):=by
 refine⟨q.out,⟨1,?_⟩,rfl⟩
 have h1:run (Ac Sj) 1 21 q.enc ⟨[],0⟩=some (.ok q.out,⟨[],0⟩):=ZP hq
 simp only[Cj,h1]
 unfold TQ.out
 split<;>rfl
end
theorem bare {g:GV} {n d s l:Bool}:Ah (Ac tab) 189 [g.av,.bool n,.bool d,.bool s,.bool l] (fun v=>∃b,v=.bool b):=by
 cases n<;>cases d<;>cases s<;>cases l<;>(
 refine Ae rfl rfl ?_
 (conv=>whnf);repeat' (first|(refine kA ?_;conv=>whnf)|(refine Br.mk (fun hc=>?_) fun hc=>?_<;>first|exact hc.elim|conv=>whnf)  |(refine kB ?_))
 all_goals exact⟨_,rfl⟩)
theorem Alc {n:Int}:Ah (Ac tab) 190 [.int .i64 n] (fun v=>∃b,v=.bool b):=by
 refine Ae rfl rfl ?_
 (conv=>whnf);repeat' (first|(refine kA ?_;conv=>whnf)|(refine Br.mk (fun hc=>?_) fun hc=>?_<;>first|exact hc.elim|conv=>whnf)  |(refine kB ?_))
 all_goals exact⟨_,rfl⟩
theorem size {n:Int} (h1:-2^62≤n) (h2:n≤2^62):Ah (Ac tab) 45 [.int .i64 n] (fun v=>∃z,v=.int .i64 z∧0≤z∧(z=n∨z=-n)):=by
 refine Ae rfl rfl ?_
 (conv=>whnf);repeat' (first|(refine kA ?_;conv=>whnf)|(refine Br.mk (fun hc=>?_) fun hc=>?_<;>first|exact hc.elim|conv=>whnf)  |(refine kB ?_))
 all_goals exact⟨_,rfl,by omega,by omega⟩
theorem gcd {a b:Int} (h1:0≤a) (h2:0≤b):Ah (Ac tab) 41 [.int .i64 a,.int .i64 b] (fun v=>∃z,v=.int .i64 z):=by
 refine Ae rfl rfl ?_
 (conv=>whnf);repeat' (first|(refine kA ?_;conv=>whnf)|(refine Br.mk (fun hc=>?_) fun hc=>?_<;>first|exact hc.elim|conv=>whnf)  |(refine kB ?_))
 refine Aj (fun m env s=>∃(a b:Int),m=b.toNat∧0≤a∧0≤b∧env=[(0,.int .i64 a),(1,.int .i64 b)]∧s=⟨[],0⟩) ?_ _ _ _ ⟨a,b,rfl,h1,h2,rfl,rfl⟩
 clear h1 h2 a b
 rintro _ _ _ ⟨a,b,rfl,h1,h2,rfl,rfl⟩
 refine⟨rfl,?_⟩
 (conv=>whnf);repeat' (first|(refine kA ?_;conv=>whnf)|(refine Br.mk (fun hc=>?_) fun hc=>?_<;>first|exact hc.elim|conv=>whnf)  |(refine kB ?_))
 ·have e:a.tmod b=a % b:=Int.tmod_eq_emod_of_nonneg h1
  have:=Int.emod_lt_of_pos a (by omega:0<b)
  have:=Int.emod_nonneg a (by omega:b≠0)
  exact again.mk ⟨_,by rw[e];omega,_,_,rfl,h2,by rw[e];omega,rfl,rfl⟩
 ·exact⟨_,rfl⟩
theorem AgZ {n d:Int}:Ah (Ac tab) 40 [.agg [.int .i64 n,.int .i64 d]] (fun v=>∃b,v=.bool b∧(b=true→1≤d∧d≤1000000000000000∧-1000000000000000≤n∧n≤1000000000000000)):=by
 refine Ae rfl rfl ?_
 (conv=>whnf);repeat' (first|(refine kA ?_;conv=>whnf)|(refine Br.mk (fun hc=>?_) fun hc=>?_<;>first|exact hc.elim|conv=>whnf)|(refine Aa (size (n:=n) (by omega) (by omega)) ?_;rintro _ ⟨z,rfl,hz1,hz2⟩;conv=>whnf)|(refine Aa (gcd (by omega) (by omega)) ?_;rintro _ ⟨z2,rfl⟩;conv=>whnf)|(refine kB ?_))
 all_goals first|exact⟨_,rfl,fun _=>by omega⟩|exact⟨_,rfl,fun h=>absurd h Bool.false_ne_true⟩
theorem AiX {s:List UInt8} (hl:s.length<2^63):Ah (Ac tab) 191 [.str s] (fun v=>∃b,v=.bool b):=by
 refine Ae rfl rfl ?_
 (conv=>whnf);repeat' (first|(refine kA ?_;conv=>whnf)|(refine Br.mk (fun hc=>?_) fun hc=>?_<;>first|exact hc.elim|conv=>whnf)  |(refine kB ?_))
 refine Aj (fun m env s'=>∃i:Nat,m=s.length-i∧env=[(0,.str s),(3,.int .i64 i)]∧s'=⟨[],0⟩) ?_ _ _ _ ⟨0,rfl,rfl,rfl⟩
 rintro _ _ _ ⟨i,rfl,rfl,rfl⟩
 refine⟨rfl,?_⟩
 (conv=>whnf);repeat' (first|(refine kA ?_;conv=>whnf)|(refine Br.mk (fun hc=>?_) fun hc=>?_<;>first|exact hc.elim|conv=>whnf)  |(refine kB ?_))
 all_goals first|exact⟨_,rfl⟩|exact again.mk ⟨_,by omega,i+1,rfl,rfl,rfl⟩
theorem AbG {g:GV} {n:Int} (h:g.k=5∨g.k=6):Ah (Ac tab) 163 [g.av,.int .i64 n] (fun v=>∃b,v=.bool b):=by
 refine Ae rfl rfl ?_
 (conv=>whnf);repeat' (first|(refine kA ?_;conv=>whnf)|(refine Br.mk (fun hc=>?_) fun hc=>?_<;>first|exact hc.elim|conv=>whnf)|(refine Aa (bare (g:=g)) ?_;rintro _ ⟨b,rfl⟩;conv=>whnf)|(refine kB ?_))
 all_goals exact⟨_,rfl⟩
theorem Ag0 {l:List AV} {nn:Bool} (hl:l.length<2^63) (h:∀x∈l,Like Tryz.prog 50 x):Ah (Ac tab) 192 [.sl nn l] (fun v=>∃b,v=.bool b):=by
 refine Ae rfl rfl ?_
 (conv=>whnf);repeat' (first|(refine kA ?_;conv=>whnf)|(refine Br.mk (fun hc=>?_) fun hc=>?_<;>first|exact hc.elim|conv=>whnf)  |(refine kB ?_))
 all_goals first|exact⟨_,rfl⟩|skip
 refine Aj (fun m env s'=>∃i:Nat,m=l.length-i∧env=[(0,.sl nn l),(3,.int .i64 i)]∧s'=⟨[],0⟩) ?_ _ _ _ ⟨0,rfl,rfl,rfl⟩
 rintro _ _ _ ⟨i,rfl,rfl,rfl⟩
 refine⟨rfl,?_⟩
 obtain⟨gx,hgx⟩:=VL h i
 (conv=>whnf);repeat' (first|(refine kA ?_;conv=>whnf)|(refine Br.mk (fun hc=>?_) fun hc=>?_<;>first|exact hc.elim|conv=>whnf)|(apply Au;(· exact(hgx (by omega)).1);conv=>whnf)|(refine Aa (AbG (g:=gx) (by omega)) ?_;rintro _ ⟨b,rfl⟩;conv=>whnf)|(refine kB ?_))
 all_goals first|exact⟨_,rfl⟩|exact again.mk ⟨_,by omega,i+1,rfl,rfl,rfl⟩
end AI
end Go.Proofs.YtchcadfjbkkgmaaGreatDoor
