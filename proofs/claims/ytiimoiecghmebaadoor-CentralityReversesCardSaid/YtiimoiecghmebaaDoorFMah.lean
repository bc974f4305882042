/- common: an entry of a greater table. Triangles of the program: an entry of a greater table. The reference's validity of values: it answers. The reference's validity of values, with lists in lists. The reference's bare values and strings. The reference's check of values that may be stored, of labels and properties. The reference's Check of a graph. The reference's triangles. -/
import Derived.Test.YtiimoiecghmebaaDoorFCeB
import Derived.Test.YtiimoiecghmebaaDoorFNd
import Derived.Test.YtiimoiecghmebaaDoorFMae
import Derived.Test.YtiimoiecghmebaaDoorFMaf
import Derived.Test.YtiimoiecghmebaaDoorFMad
import Derived.Test.YtiimoiecghmebaaDoorFMag
set_option linter.unusedVariables false
namespace Go.Proofs.YtiimoiecghmebaaDoor
namespace AI
section
open Go.RowKit Go.Sort
structure Hold (p:Prop):Prop where
 h:p
section
variable {P:Program} {AP:Nat→Option Hf} {n:Nat}
theorem AW.go (hS:∀N,Ar P (run AP N)) (hm:P.follows .mixedOrders=true) {an:List EP} {x y:Code} {a:AY} (hx:BH P n an x=some a) {env:Env} {s:Ag} {Q:Az→Env→Ag→Prop} (h:vC AP a env s fun e env s=>Hold (AfR P n y Q e env s)):AW P n (.seq x y) env s Q:=
 AW.seq (AW.of_run hS hm hx ((GU h).mono fun e env s k=>k.h))
theorem AW.fin (hS:∀N,Ar P (run AP N)) (hm:P.follows .mixedOrders=true) {an:List EP} {x:Code} {a:AY} (hx:BH P n an x=some a) {env:Env} {s:Ag} {Q:Az→Env→Ag→Prop} (h:vC AP a env s fun e env s=>Hold (Q e env s)):AW P n x env s Q:=
 AW.of_run hS hm hx ((GU h).mono fun e env s k=>k.h)
end
def ER:Code→Code
 | .seq a _=>a
 |c=>c
def IG:Code→Code
 | .seq _ b=>b
 |c=>c
def Jt:AY→AY
 | .seq a _=>a
 |c=>c
def Kr:AY→AY
 | .seq _ b=>b
 |c=>c
def Aab (f:Func):Code:=f.body.getD .skip
def opsOf:Code→Array Oper
 | .region _ o _=>o
 |_=>#[]
def Abh:Code→Nat
 | .region i _ _=>i
 |_=>0
def inC:Code→Code
 | .block _ c=>c
 | .loop c=>c
 |c=>c
def inA:AY→AY
 | .block _ c=>c
 | .loop _ c=>c
 |c=>c
def J5 (c:Code) (k:Nat):Oper:=((opsOf c).toList[k]?).getD default
theorem FM {P:Program} {n:Nat} {an:List EP} {i j:Nat} {x:Code} {a:AY} (h:BH P n an (.block i x)=some (.block j a)):BH P n an x=some a:=by
 simp only[BH]at h
 cases hx:BH P n an x with
 |none=>rw[hx]at h;cases h
 |some b=>rw[hx]at h;simp only[Option.map_some,Option.some.injEq,AY.block.injEq]at h;rw[h.2]
theorem Nz {P:Program} {n:Nat} {an:List EP} {l:List Nat} {x:Code} {a:AY} (h:BH P n an (.loop x)=some (.loop l a)):BH P n an x=some a:=by
 simp only[BH]at h
 cases hx:BH P n an x with
 |none=>rw[hx]at h;cases h
 |some b=>rw[hx]at h;simp only[Option.map_some,Option.some.injEq,AY.loop.injEq]at h;rw[h.2]
theorem XP {n:Nat} {l:List Nat} (h1:l.Nodup) (h2:∀j∈l,j<n):l.length≤n:=by
 have:=List.Nodup.length_le_of_subset (l₂:=List.range n) h1 fun j hj=>List.mem_range.2 (h2 j hj)
 rwa [List.length_range]at this
abbrev NM:=List (Int×List (Int×Bool))
def fmB (L:List (Int×Bool)):AV:=.fmap (BQ L)
def nmV (M:NM):AV:=.fmap (Hq (.int .i64) fmB M)
theorem fkM {M:NM} {k:Int} {L:List (Int×Bool)} {K:Option (Nat×AV)→Prop} (h:Dq M k=some L) (hK:∀i,K (some (i,fmB L))):MN .int (.int .i64 k) (Hq (.int .i64) fmB M) K:=
 IC Es (fun e=>by rw[h]at e;cases e) (fun i w e=>by rw[h]at e;cases e;exact hK i)
theorem fkN {L:List (Int×Bool)} {k:Int} {K:Option (Nat×AV)→Prop} (h:Dq L k=none) (hK:K none):MN .int (.int .i64 k) (BQ L) K:=
 IC Es (fun _=>hK) (fun i w e=>by rw[h]at e;cases e)
theorem fkS {L:List (Int×Bool)} {k:Int} {v:Bool} {K:Option (Nat×AV)→Prop} (h:Dq L k=some v) (hK:∀i,K (some (i,.bool v))):MN .int (.int .i64 k) (BQ L) K:=
 IC Es (fun e=>by rw[h]at e;cases e) (fun i w e=>by rw[h]at e;cases e;exact hK i)
theorem Zi {L L':List (Int×Bool)} (h:BQ L=BQ L'):L=L':=by
 induction L generalizing L' with
 |nil=>cases L' with
  |nil=>rfl
  |cons p L'=>cases h
 |cons p L ih=>cases L' with
  |nil=>cases h
  |cons q L'=>
   simp only[BQ,Hq,List.map_cons,List.cons.injEq,Prod.mk.injEq,AV.int.injEq,AV.bool.injEq,true_and]at h
   rw[ih h.2,Prod.ext h.1.1 h.1.2]
theorem Ae8 {M N:NM} (h:nmV M=nmV N):M=N:=by
 simp only[nmV,AV.fmap.injEq]at h
 induction M generalizing N with
 |nil=>cases N with
  |nil=>rfl
  |cons p N=>cases h
 |cons p M ih=>cases N with
  |nil=>cases h
  |cons q N=>
   simp only[Hq,List.map_cons,List.cons.injEq,Prod.mk.injEq,AV.int.injEq,true_and]at h
   obtain⟨⟨h1,h2⟩,h3⟩:=h
   rw[ih h3]
   simp only[fmB,AV.fmap.injEq]at h2
   rw[Prod.ext h1 (Zi h2)]
def hasB (L:List (Int×Bool)) (x:Int):Bool:=(Dq L x).getD false
def EG (A B:List (Int×Bool)):List Int:=(A.filter fun p=>hasB B p.1).map (·.1)
structure CQ where
 M:NM
 a:Int
 b:Int
 A:List (Int×Bool)
 B:List (Int×Bool)
def CQ.enc (q:CQ):List AV:=[nmV q.M,.int .i64 q.a,.int .i64 q.b]
def CQ.ok (q:CQ):Prop:=Dq q.M q.a=some q.A∧Dq q.M q.b=some q.B∧q.A.length≤100000
def CQ.out (q:CQ):AV:=.sl (decide (EG q.A q.B≠[])) (vs (.int .i64) (FQ (EG q.A q.B)))
theorem CQ.V7 {p q:CQ} (hp:p.ok) (hq:q.ok) (h:p.enc=q.enc):p=q:=by
 obtain⟨M,a,b,A,B⟩:=p
 obtain⟨M',a',b',A',B'⟩:=q
 obtain⟨h1,h2,_⟩:=hp
 obtain⟨k1,k2,_⟩:=hq
 simp only[CQ.enc,List.cons.injEq,AV.int.injEq,and_true,true_and]at h
 obtain⟨e,rfl,rfl⟩:=h
 obtain rfl:=Ae8 e
 dsimp only at h1 h2 k1 k2
 rw[h1]at k1
 rw[h2]at k2
 cases k1
 cases k2
 rfl
noncomputable def MF (args:List AV) (s:Ag):Option (AL×Ag):=by
 classical exact if h:∃q:CQ,q.ok∧args=q.enc∧s=⟨[],0⟩then some (.ok (Classical.choose h).out,⟨[],0⟩)else none
theorem Zj {q:CQ} (hq:q.ok):MF q.enc ⟨[],0⟩=some (.ok q.out,⟨[],0⟩):=by
 have hx:∃p:CQ,p.ok∧q.enc=p.enc∧(⟨[],0⟩:Ag)=⟨[],0⟩:=⟨q,hq,rfl,rfl⟩
 unfold MF
 rw[dif_pos hx]
 have:=CQ.V7 hq (Classical.choose_spec hx).1 (Classical.choose_spec hx).2.1
 rw[← this]
def BO (A:List (Int×Bool)) (seen:List Nat):List (Int×Bool):=seen.map fun i=>(A[i]?).getD (0,false)
theorem NC {A:List (Int×Bool)} {seen:List Nat} (h:seen.Perm (List.range A.length)):(BO A seen).Perm A:=by
 have h1:(BO A seen).Perm (BO A (List.range A.length)):=h.map _
 have h2:BO A (List.range A.length)=A:=by
  apply List.ext_getElem
  ·simp[BO]
  ·intro i h1 h2
   simp[BO,h2]
 rw[h2]at h1
 exact h1
theorem Abu {A A' B:List (Int×Bool)} (h:A.Perm A'):(EG A B).Perm (EG A' B):=(h.filter _).map _
theorem Abv {A B:List (Int×Bool)} {seen:List Nat} {i:Nat} (h:i<A.length):EG (BO A (seen++[i])) B=EG (BO A seen) B++if hasB B (A[i]).1 then[(A[i]).1]else[]:=by
 unfold EG BO
 rw[List.map_append,List.filter_append,List.map_append]
 simp only[List.map_cons,List.map_nil,List.getElem?_eq_getElem h,Option.getD_some,List.filter_cons,List.filter_nil]
 cases hasB B (A[i]).1<;>rfl
theorem Q5 {A B:List (Int×Bool)}:(EG A B).length≤A.length:=by
 unfold EG
 rw[List.length_map]
 exact List.length_filter_le _ _
noncomputable abbrev cF:Func:=Tryd.f16
noncomputable abbrev cA:FC:=x16.1
noncomputable abbrev cb0:Code:=Aab cF
noncomputable abbrev cb1:Code:=IG cb0
noncomputable abbrev cb2:Code:=IG cb1
noncomputable abbrev cb3:Code:=IG cb2
noncomputable abbrev cb4:Code:=IG cb3
noncomputable abbrev ce0:AY:=cA.body
noncomputable abbrev ce1:AY:=Kr ce0
noncomputable abbrev ce2:AY:=Kr ce1
noncomputable abbrev ce3:AY:=Kr ce2
noncomputable abbrev ce4:AY:=Kr ce3
noncomputable abbrev cr0:Code:=ER (ER cb2)
noncomputable abbrev crB:Code:=inC (inC (IG (ER cb2)))
noncomputable abbrev cr1:Code:=ER crB
noncomputable abbrev crI:Code:=inC (IG (IG crB))
noncomputable abbrev cr2:Code:=ER crI
noncomputable abbrev crX:Code:=IG crI
theorem Abw:ER cb2=.seq (.region (Abh cr0) (opsOf cr0) false) (.block 0 (.loop (.seq (.region (Abh cr1) (opsOf cr1) false) (.seq (.cond (.tmp 14) .skip (.exit 0)) (.block 1 (.seq (.region (Abh cr2) (opsOf cr2) false) crX)))))):=by kernel_rfl
noncomputable abbrev ceB:AY:=inA (inA (Kr (Jt ce2)))
noncomputable abbrev ceI:AY:=inA (Kr (Kr ceB))
noncomputable abbrev ceX:AY:=Kr ceI
theorem Adx {an:List EP} (hc:BH Tryd.prog cF.ntmps an (ER cb2)=some (Jt ce2)):BH Tryd.prog cF.ntmps an crX=some ceX:=by
 have d1:=(Bc (x:=cr0) (y:=IG (ER cb2)) (a:=Jt (Jt ce2)) (b:=Kr (Jt ce2)) hc).2
 have d2:=FM (i:=0) (j:=0) (x:=inC (IG (ER cb2))) (a:=inA (Kr (Jt ce2))) d1
 have d3:=Nz (l:=[0,2,7,12]) (x:=crB) (a:=ceB) d2
 have d4:=(Bc (x:=cr1) (y:=IG crB) (a:=Jt ceB) (b:=Kr ceB) d3).2
 have d5:=(Bc (x:=ER (IG crB)) (y:=IG (IG crB)) (a:=Jt (Kr ceB)) (b:=Kr (Kr ceB)) d4).2
 have d6:=FM (i:=1) (j:=1) (x:=crI) (a:=ceI) d5
 exact(Bc (x:=cr2) (y:=crX) (a:=Jt ceI) (b:=ceX) d6).2
set_option maxHeartbeats 4000000 in
set_option maxRecDepth 10000 in
theorem Ady {q:CQ} (hq:q.ok) {g c:Nat} {an:List EP} (hc:BH Tryd.prog cF.ntmps an (ER cb2)=some (Jt ce2)) {Q:Az→Env→Ag→Prop}
 (hQ:∀gg c' seen x,seen.Perm (List.range q.A.length)→Q .normal [(14,.bool false),(13,.junk),(0,nmV q.M),(2,.int .i64 q.b),(7,.own 0 gg 0 (EG (BO q.A seen) q.B).length),(12,.ref 1 c 0 0)] ⟨[.arr gg 1 (decide (EG (BO q.A seen) q.B≠[])) true (vs (.int .i64) (EG (BO q.A seen) q.B)),.raw c x],c'⟩):
 AW Tryd.prog cF.ntmps (ER cb2) [(0,nmV q.M),(1,.int .i64 q.a),(2,.int .i64 q.b),(7,.own 0 g 0 0)] ⟨[.arr g 1 false true []],c⟩ Q:=by
 obtain⟨hA,hB,hl⟩:=hq
 rw[Abw]
 refine AW.range (AP:=Ad tab) Rt mixed (anA:=[]) (anB:=[]) (it:=12) (nx:=13) (more:=14) (pair:=15) (XO:=[J5 cr0 0,J5 cr0 1,J5 cr0 2]) (oR:=J5 cr0 3) (oN:=J5 cr1 0) (oX:=J5 cr1 1) (oE:=J5 cr2 0) (Y1:=[J5 cr2 1,J5 cr2 2])
  (AcU:=[⟨some 9,.Yg (.tmp 0),none⟩,⟨some 10,.Yg (.tmp 1),none⟩,⟨some 11,.lookup .int .Cj false (.tmp 9) (.tmp 10),none⟩]) (AcV:=[⟨some 16,.ext (.tmp 15) 0,none⟩,⟨some 8,.Yg (.tmp 16),none⟩])
  (t:=54) (kt:=3) (et:=4) (xm:=.tmp 11) (am:=.tmp 11)
  (by kernel_rfl) (by kernel_rfl) (by kernel_rfl) (by kernel_rfl) (by kernel_rfl) (by kernel_rfl) (by kernel_rfl) (of_decide_eq_true (by kernel_rfl))
  (by kernel_rfl) (by kernel_rfl) (by kernel_rfl) (by kernel_rfl) (by kernel_rfl) (by kernel_rfl) (by kernel_rfl) (of_decide_eq_true (by kernel_rfl)) (of_decide_eq_true (by kernel_rfl)) (by decide)
  (by kernel_rfl) (by kernel_rfl) (by kernel_rfl) (by kernel_rfl) (of_decide_eq_true (by kernel_rfl)) (by kernel_rfl) (Adx hc) (fz:=[]) rfl (L:=[0,2,7,12]) (ents:=BQ q.A)
  (J:=fun x seen env s=>∃(gg c':Nat),seen.Nodup∧(∀ j∈seen,j<q.A.length)∧env=[(0,nmV q.M),(2,.int .i64 q.b),(7,.own 0 gg 0 (EG (BO q.A seen) q.B).length),(12,.ref 1 c 0 0)]∧s=⟨[.arr gg 1 (decide (EG (BO q.A seen) q.B≠[])) true (vs (.int .i64) (EG (BO q.A seen) q.B)),.raw c x],c'⟩) ?_
 refine Gv ?_
 conv=>whnf
 (conv=>whnf);repeat' (first|(refine fkM hA (fun _=>?_);conv=>whnf)|(refine kA ?_;conv=>whnf)|(refine Br.mk (fun hc=>?_) fun hc=>?_<;>first|exact hc.elim|conv=>whnf)|(refine kB ?_))
 refine⟨rfl,rfl,_,_,rfl,rfl,fun x=>⟨_,_,List.nodup_nil,by simp,rfl,rfl⟩,?_,?_,?_⟩
 ·rintro x seen env s ⟨gg,c',_,_,rfl,rfl⟩
  exact⟨rfl,rfl⟩
 ·rintro x x' seen i env s e ⟨gg,c',hnd,hlt,rfl,rfl⟩ he hins
  obtain⟨hi,rfl⟩:∃h:i<q.A.length,e=(AV.int .i64 (q.A[i]).1,AV.bool (q.A[i]).2):=by
   rw[Aj]at he
   obtain⟨h,rfl⟩:=List.getElem?_eq_some_iff.1 he
   have h2:i<q.A.length:=by simpa[BQ,Hq]using h
   exact⟨h2,by simp[BQ,Hq]⟩
  have hsl:=XP hnd hlt
  have hbl:(EG (BO q.A seen) q.B).length≤seen.length:=Nat.le_trans Q5 (by simp[BO])
  have hbs:=Abv (B:=q.B) (seen:=seen) hi
  have AeH:(seen++[i]).Nodup:=List.nodup_append.2 ⟨hnd,by simp,fun x hx y hy=>by simp at hy;subst hy;rintro rfl;exact hins hx⟩
  have hlt2:∀j∈seen++[i],j<q.A.length:=fun j hj=>by
   rcases List.mem_append.1 hj with hj|hj
   ·exact hlt j hj
   ·simp at hj;omega
  refine⟨0,_,_,_,rfl,rfl,GU ?_⟩
  have hh:hasB q.B (q.A[i]).1=(Dq q.B (q.A[i]).1).getD false:=rfl
  rcases hm:Dq q.B (q.A[i]).1 with _|v
  case' some=>cases v
  all_goals (
   rw[hm]at hh
   rw[hh]at hbs
   conv=>whnf
   (conv=>whnf);repeat' (first|(refine fkM hB (fun _=>?_);conv=>whnf)|(refine fkN hm ?_;conv=>whnf)|(refine fkS hm (fun _=>?_);conv=>whnf)|(refine Vb (f:=.int .i64) (l:=EG (BO q.A seen) q.B) (x:=(q.A[i]).1) (fun _=>rfl) rfl (by omega) ?_;conv=>whnf)|(refine kA ?_;conv=>whnf)|(refine Br.mk (fun hc=>?_) fun hc=>?_<;>first|exact hc.elim|conv=>whnf)|(refine kB ?_)))
  all_goals first
   |(exfalso;omega)
   |(replace hbs:EG (BO q.A (seen++[i])) q.B=EG (BO q.A seen) q.B++[(q.A[i]).1]:=hbs
     rw[show (EG (BO q.A seen) q.B).length+1=(EG (BO q.A (seen++[i])) q.B).length from by rw[hbs];simp,←hbs]
     exact⟨.inl rfl,_,_,AeH,hlt2,rfl,by rw[decide_eq_true (show EG (BO q.A (seen++[i])) q.B≠[] from by rw[hbs];simp)];rfl⟩)
   |(replace hbs:EG (BO q.A (seen++[i])) q.B=EG (BO q.A seen) q.B:=hbs.trans (List.append_nil _)
     rw[← hbs]
     exact⟨.inl rfl,_,_,AeH,hlt2,rfl,rfl⟩)
 ·rintro x seen env s ⟨gg,c',hnd,hlt,rfl,rfl⟩ hp
  have hl:(BQ q.A).length=q.A.length:=by simp[BQ,Hq]
  rw[hl]at hp
  exact hQ gg c' seen x hp
set_option maxHeartbeats 4000000 in
set_option maxRecDepth 10000 in
theorem Ai4 {q:CQ} (hq:q.ok) {an:List EP} (hc:BH Tryd.prog cF.ntmps an cb0=some ce0):AW Tryd.prog cF.ntmps cb0 (params q.enc 0) ⟨[],0⟩ fun e env s=>(e=.normal∨e=.ret)∧∃vs,Fh env s cA.results=some vs∧(EH vs).closed=true∧EH vs=q.out:=by
 have c0:=Bc (x:=ER cb0) (y:=cb1) (a:=Jt ce0) (b:=ce1) hc
 have c1:=Bc (x:=ER cb1) (y:=cb2) (a:=Jt ce1) (b:=ce2) c0.2
 have c2:=Bc (x:=ER cb2) (y:=cb3) (a:=Jt ce2) (b:=ce3) c1.2
 have c3:=Bc (x:=ER cb3) (y:=cb4) (a:=Jt ce3) (b:=ce4) c2.2
 refine AW.go (x:=ER cb0) (y:=cb1) Rt mixed c0.1 ?_
 conv=>whnf
 (conv=>whnf);repeat' (first  |(refine kA ?_;conv=>whnf)|(refine Br.mk (fun hc=>?_) fun hc=>?_<;>first|exact hc.elim|conv=>whnf)|(refine kB ?_))
 refine⟨?_⟩
 show AW _ _ cb1 _ _ _
 refine AW.go (x:=ER cb1) (y:=cb2) Rt mixed c1.1 ?_
 conv=>whnf
 (conv=>whnf);repeat' (first  |(refine kA ?_;conv=>whnf)|(refine Br.mk (fun hc=>?_) fun hc=>?_<;>first|exact hc.elim|conv=>whnf)|(refine kB ?_))
 refine⟨?_⟩
 refine AW.seq (x:=ER cb2) (y:=cb3) (Ady hq c2.1 fun gg c2 sn x hp=>?_)
 have hW:=Abu (B:=q.B) (NC hp)
 have hl:=Q5 (A:=BO q.A sn) (B:=q.B)
 have hbl:(BO q.A sn).length≤100000:=by
  rw[(NC hp).length_eq];exact hq.2.2
 show AW _ _ cb3 _ _ _
 refine AW.go (x:=ER cb3) (y:=cb4) Rt mixed c3.1 ?_
 conv=>whnf
 (conv=>whnf);repeat' (first  |(refine kA ?_;conv=>whnf)|(refine Br.mk (fun hc=>?_) fun hc=>?_<;>first|exact hc.elim|conv=>whnf)|(refine kB ?_))
 refine(Ahc (L:=EG (BO q.A sn) q.B) rfl (by omega)).mono ?_
 rintro _ _ ⟨cc,W,rfl,rfl,w1,w2⟩
 conv=>whnf
 apply Bv rfl
 (conv=>whnf);repeat' (first  |(refine kA ?_;conv=>whnf)|(refine Br.mk (fun hc=>?_) fun hc=>?_<;>first|exact hc.elim|conv=>whnf)|(refine kB ?_))
 refine⟨?_⟩
 show AW _ _ cb4 _ _ _
 refine AW.fin (x:=cb4) Rt mixed c3.2 ?_
 conv=>whnf
 (conv=>whnf);repeat' (first  |(refine kA ?_;conv=>whnf)|(refine Br.mk (fun hc=>?_) fun hc=>?_<;>first|exact hc.elim|conv=>whnf)|(refine kB ?_))
 have hwl:=w1.length_eq
 have hWs:W=FQ (EG q.A q.B):=Ij (w2.imp fun h=>by have:=JL.1 h;omega) (NP _) (w1.trans (hW.trans (Gm _).symm))
 refine Am ⟨rfl,rfl,by rw[lV,hwl];omega⟩ ?_
 conv=>whnf
 (conv=>whnf);repeat' (first  |(refine kA ?_;conv=>whnf)|(refine Br.mk (fun hc=>?_) fun hc=>?_<;>first|exact hc.elim|conv=>whnf)|(refine kB ?_))
 refine⟨?_⟩
 refine⟨.inr rfl,_,rfl,rfl,?_⟩
 show AV.sl (decide (EG (BO q.A sn) q.B≠[])) (sub (vs (.int .i64) W) 0 (EG (BO q.A sn) q.B).length)=q.out
 rw[← hwl,uV]
 unfold CQ.out
 rw[hWs]
 have:EG (BO q.A sn) q.B≠[]↔EG q.A q.B≠[]:=by
  rw[ne_eq,ne_eq,←List.length_eq_zero_iff,←List.length_eq_zero_iff,hW.length_eq]
 rw[decide_eq_decide.2 this]
theorem Ahe:Ar Tryd.prog fun f' args s=>if f'=16 then MF args s else none:=by
 intro f0 args s out s' h
 replace h:(if f0=16 then MF args s else none)=some (out,s'):=h
 rcases Decidable.em (f0=16)with hf|hf
 case inr=>rw[if_neg hf]at h;cases h
 rw[if_pos hf]at h
 subst hf
 unfold MF at h
 split at h
 case isFalse=>cases h
 rename_i hx
 have hcs:=Classical.choose_spec hx
 simp only[Option.some.injEq,Prod.mk.injEq]at h
 obtain⟨rfl,rfl⟩:=h
 generalize Classical.choose hx=q at hcs
 obtain⟨hq,rfl,rfl⟩:=hcs
 refine fun w0 B Z φ w vs hI hargs=>.inl ⟨⟨_,Tryd.func16,rfl,by decide⟩,?_⟩
 obtain⟨b,hb,hcm,hrs,_⟩:=SV x16.2
 obtain rfl:b=cb0:=by
  have:cF.body=some cb0:=by kernel_rfl
  exact Option.some.inj (hb.symm.trans this)
 refine(XQ (R:=fun v=>v=q.out) Tryd.func16 hb hrs (of_decide_eq_true (by kernel_rfl)) (Ai4 hq hcm) hI hargs).mono ?_
 rintro e w1 ⟨v,rfl,Z',φ',hI',hL,hR⟩
 exact⟨Z',φ',hI',hL,hR⟩
noncomputable def II:List (Nat×Hf):=(16,.ext MF)::tab
theorem Ai5:Ad tab 16=none:=by kernel_rfl
theorem upM:∀f a,Ad tab f=some a→Ad II f=some a:=UZ Ai5
theorem Aad:NY Tryd.prog (Ad II):=by
 intro f a h
 simp only[II,Ad]at h
 cases hb:Nat.beq 16 f with
 |false=>rw[hb,cond_false]at h;exact AbO f a h
 |true=>
  rw[hb,cond_true]at h
  have e:=Nat.eq_of_beq_eq_true hb
  subst e
  cases h
  exact Ahe
theorem En (n:Nat):Ar Tryd.prog (run (Ad II) n):=Ji mixed Aad n
theorem AkZ {q:CQ} (hq:q.ok):Aw (Ad II) 16 q.enc (· =q.out):=by
 refine⟨q.out,⟨1,?_⟩,rfl⟩
 have h1:run (Ad II) 1 16 q.enc ⟨[],0⟩=some (.ok q.out,⟨[],0⟩):=Zj hq
 simp only[Ce,h1]
 rfl
end
section
open Go.RowKit Go.Sort
noncomputable def MO (types:List (List UInt8)) (g:GG):NM:=g.nodes.map fun n=>(n.id,LY types g.edges n.id)
theorem Aiw {types:List (List UInt8)} {g:GG}:AV.fmap (g.nodes.map fun n=>(.int .i64 n.id,.fmap (BQ (LY types g.edges n.id))))=nmV (MO types g):=by
 unfold nmV MO Hq
 rw[List.map_map]
 rfl
theorem SQ {α:Type} {M:List (Int×α)} {k:Int} {v:α} {x:Int} (h:x∈(D9 M k v).map Prod.fst):x=k∨x∈M.map Prod.fst:=by
 induction M with
 |nil=>simp[D9]at h;exact .inl h
 |cons p M ih=>
  simp only[D9]at h
  split at h
  ·rename_i e
   simp only[List.map_cons,List.mem_cons]at h ⊢
   rcases h with h|h
   ·exact .inl h
   ·exact .inr (.inr h)
  ·simp only[List.map_cons,List.mem_cons]at h ⊢
   rcases h with h|h
   ·exact .inr (.inl h)
   ·rcases ih h with h|h
    ·exact .inl h
    ·exact .inr (.inr h)
theorem V5 {types:List (List UInt8)} {ids:List Int} {v x:Int}:∀{es:List GE} {L:Int→List (Int×Bool)},(∀ e∈es,e.fr∈ids∧e.to∈ids)→(∀ v x,x∈(L v).map Prod.fst→x∈ids)→x∈((es.foldl (Ei types) L) v).map Prod.fst→x∈ids
 |[],L,_,h,hx=>h v x hx
 |e::es,L,he,h,hx=>by
  refine V5 (es:=es) (L:=Ei types L e) (fun e' h'=>he e' (by simp[h'])) (fun u y hy=>?_) hx
  have hee:=he e (by simp)
  unfold Ei at hy
  split at hy
  ·dsimp only at hy
   split at hy
   ·rcases SQ hy with rfl|hy
    ·exact hee.1
    ·exact h _ _ hy
   ·split at hy
    ·rcases SQ hy with rfl|hy
     ·exact hee.2
     ·exact h _ _ hy
    ·exact h _ _ hy
  ·exact h _ _ hy
theorem XM {types:List (List UInt8)} {g:GG} (hck:AB g=0) {v:Int} (hv:v∈Bf g):Dq (MO types g) v=some (LY types g.edges v):=by
 obtain⟨n,hn,rfl⟩:=List.mem_map.1 (show v∈g.nodes.map GN.id from hv)
 have hk:(MO types g).map Prod.fst=Bf g:=by unfold MO;rw[List.map_map];rfl
 exact OG (p:=(n.id,LY types g.edges n.id)) (by rw[hk];exact Rj hck) (List.mem_map.2 ⟨n,hn,rfl⟩)
noncomputable def MH (types:List (List UInt8)) (g:GG) (v x:Int):Nat:=(EG (LY types g.edges v) (LY types g.edges x)).length
def OI (f:Int→Nat) (L:List (Int×Bool)):Nat:=(L.map fun p=>f p.1).sum
noncomputable def twN (types:List (List UInt8)) (g:GG) (v:Int):Nat:=OI (MH types g v) (LY types g.edges v)
noncomputable def O7 (types:List (List UInt8)) (g:GG):List (Int×Int):=g.nodes.map fun n=>(n.id,((twN types g n.id / 2:Nat):Int))
theorem Abe {f:Int→Nat} {L L':List (Int×Bool)} (h:L.Perm L'):OI f L=OI f L':=(h.map _).sum_nat
theorem V6 {f:Int→Nat} {b:Nat} (hf:∀x,f x≤b):∀{L:List (Int×Bool)},OI f L≤L.length*b
 |[]=>by simp[OI]
 |p::L=>by
  have:=V6 hf (L:=L)
  have h1:=hf p.1
  simp only[OI,List.map_cons,List.sum_cons,List.length_cons,Nat.succ_mul]at this ⊢
  omega
theorem Abf {f:Int→Nat} {A:List (Int×Bool)} {seen:List Nat} {i:Nat} (h:i<A.length):OI f (BO A (seen++[i]))=OI f (BO A seen)+f (A[i]).1:=by
 simp[OI,BO,h]
structure TQ where
 g:GG
 tn:Bool
 types:List (List UInt8)
def TQ.enc (q:TQ):List AV:=[q.g.av,.sl q.tn (vs .str q.types)]
def TQ.ok (q:TQ):Prop:=q.g.ok∧q.g.nodes.length≤1000∧q.g.edges.length≤1000∧q.types.length<2^63
noncomputable def TQ.out (q:TQ):AV:=if AB q.g=0 then .sl (decide (0<q.g.nodes.length)) (vs pv (O7 q.types q.g))else .sl false []
noncomputable abbrev tF:Func:=Tryd.f6
noncomputable abbrev tA:FC:=x6.1
noncomputable abbrev tb0:Code:=Aab tF
noncomputable abbrev tb1:Code:=IG tb0
noncomputable abbrev tb2:Code:=IG tb1
noncomputable abbrev tb3:Code:=IG tb2
noncomputable abbrev tb4:Code:=IG tb3
noncomputable abbrev tb5:Code:=IG tb4
noncomputable abbrev te0:AY:=tA.body
noncomputable abbrev te1:AY:=Kr te0
noncomputable abbrev te2:AY:=Kr te1
noncomputable abbrev te3:AY:=Kr te2
noncomputable abbrev te4:AY:=Kr te3
noncomputable abbrev te5:AY:=Kr te4
noncomputable abbrev tL:Code:=inC (inC (IG (ER tb4)))
noncomputable abbrev tR1:Code:=IG tL
noncomputable abbrev tR2:Code:=IG tR1
noncomputable abbrev tBk:Code:=inC (ER tR2)
noncomputable abbrev tB1:Code:=IG tBk
noncomputable abbrev Yi:Code:=IG tB1
noncomputable abbrev tr0:Code:=ER (ER Yi)
noncomputable abbrev trB:Code:=inC (inC (IG (ER Yi)))
noncomputable abbrev tr1:Code:=ER trB
noncomputable abbrev trI:Code:=inC (IG (IG trB))
noncomputable abbrev tr2:Code:=ER trI
noncomputable abbrev trX:Code:=IG trI
noncomputable abbrev uL:AY:=inA (inA (Kr (Jt te4)))
noncomputable abbrev uR1:AY:=Kr uL
noncomputable abbrev uR2:AY:=Kr uR1
noncomputable abbrev uBk:AY:=inA (Jt uR2)
noncomputable abbrev uB1:AY:=Kr uBk
noncomputable abbrev uB2:AY:=Kr uB1
noncomputable abbrev urB:AY:=inA (inA (Kr (Jt uB2)))
noncomputable abbrev urI:AY:=inA (Kr (Kr urB))
noncomputable abbrev urX:AY:=Kr urI
theorem AcR:IG (ER tb4)=.block 0 (.loop tL):=by kernel_rfl
theorem AeG:ER tR2=.block 1 tBk:=by kernel_rfl
theorem Abg:ER Yi=.seq (.region (Abh tr0) (opsOf tr0) false) (.block 2 (.loop (.seq (.region (Abh tr1) (opsOf tr1) false) (.seq (.cond (.tmp 30) .skip (.exit 2)) (.block 3 (.seq (.region (Abh tr2) (opsOf tr2) false) trX)))))):=by kernel_rfl
theorem AcS {an:List EP} (hc:BH Tryd.prog tF.ntmps an (ER Yi)=some (Jt uB2)):BH Tryd.prog tF.ntmps an trX=some urX:=by
 have d1:=(Bc (x:=tr0) (y:=IG (ER Yi)) (a:=Jt (Jt uB2)) (b:=Kr (Jt uB2)) hc).2
 have d2:=FM (i:=2) (j:=2) (x:=inC (IG (ER Yi))) (a:=inA (Kr (Jt uB2))) d1
 have d3:=Nz (l:=[5,6,8,9,18,19,20,28]) (x:=trB) (a:=urB) d2
 have d4:=(Bc (x:=tr1) (y:=IG trB) (a:=Jt urB) (b:=Kr urB) d3).2
 have d5:=(Bc (x:=ER (IG trB)) (y:=IG (IG trB)) (a:=Jt (Kr urB)) (b:=Kr (Kr urB)) d4).2
 have d6:=FM (i:=3) (j:=3) (x:=trI) (a:=urI) d5
 exact(Bc (x:=tr2) (y:=trX) (a:=Jt urI) (b:=urX) d6).2
set_option maxHeartbeats 4000000 in
set_option maxRecDepth 10000 in
theorem AcT {types:List (List UInt8)} {g:GG} (hck:AB g=0) (hE:g.edges.length≤1000) {i:Nat} (hi:i<g.nodes.length) {ob0 VD:Obj} {g1 no:Nat} {nn:Bool} {xs:List AV} {nc:Int} {gn c:Nat} {an:List EP} (hc:BH Tryd.prog tF.ntmps an (ER Yi)=some (Jt uB2)) {Q:Az→Env→Ag→Prop}
 (hQ:∀c' x,Q .normal [(30,.bool false),(29,.junk),(5,nmV (MO types g)),(6,.own 1 g1 0 no),(8,.ref 2 gn 0 0),(9,.int .i64 (twN types g (g.nodes[i]).id)),(18,.sl nn xs),(19,.int .i64 nc),(20,.int .i64 i),(28,.ref 3 c 0 0)] ⟨[ob0,VD,.arr gn 3 true true [(g.nodes[i]).av],.raw c x],c'⟩):
 AW Tryd.prog tF.ntmps (ER Yi) [(5,nmV (MO types g)),(6,.own 1 g1 0 no),(8,.ref 2 gn 0 0),(9,.int .i64 0),(18,.sl nn xs),(19,.int .i64 nc),(20,.int .i64 i)] ⟨[ob0,VD,.arr gn 3 true true [(g.nodes[i]).av]],c⟩ Q:=by
 have hid:(g.nodes[i]).id∈Bf g:=List.mem_map.2 ⟨_,List.getElem_mem hi,rfl⟩
 have hA:=XM (types:=types) hck hid
 have hlA:∀v,(LY types g.edges v).length≤1000:=fun v=>Nat.le_trans (VZ (n:=0) (fun _=>Nat.le_refl _)) (by omega)
 have hcl:∀x,MH types g (g.nodes[i]).id x≤1000:=fun x=>Nat.le_trans Q5 (hlA _)
 rw[Abg]
 obtain⟨A,hAe⟩:∃A,A=LY types g.edges (g.nodes[i]).id:=⟨_,rfl⟩
 rw[← hAe]at hA
 refine AW.range (AP:=Ad II) En mixed (anA:=[]) (anB:=[]) (it:=28) (nx:=29) (more:=30) (pair:=31) (XO:=[J5 tr0 0,J5 tr0 1,J5 tr0 2,J5 tr0 3]) (oR:=J5 tr0 4) (oN:=J5 tr1 0) (oX:=J5 tr1 1) (oE:=J5 tr2 0) (Y1:=[J5 tr2 1,J5 tr2 2])
  (AcU:=[⟨some 24,.Yg (.tmp 5),none⟩,⟨some 25,.PZ 0 (.tmp 8),none⟩,⟨some 26,.load none (.tmp 25),none⟩,⟨some 27,.lookup .int .Cj false (.tmp 24) (.tmp 26),none⟩]) (AcV:=[⟨some 32,.ext (.tmp 31) 0,none⟩,⟨some 10,.Yg (.tmp 32),none⟩])
  (t:=54) (kt:=3) (et:=4) (xm:=.tmp 27) (am:=.tmp 27)
  (by kernel_rfl) (by kernel_rfl) (by kernel_rfl) (by kernel_rfl) (by kernel_rfl) (by kernel_rfl) (by kernel_rfl) (of_decide_eq_true (by kernel_rfl))
  (by kernel_rfl) (by kernel_rfl) (by kernel_rfl) (by kernel_rfl) (by kernel_rfl) (by kernel_rfl) (by kernel_rfl) (of_decide_eq_true (by kernel_rfl)) (of_decide_eq_true (by kernel_rfl)) (by decide)
  (by kernel_rfl) (by kernel_rfl) (by kernel_rfl) (by kernel_rfl) (of_decide_eq_true (by kernel_rfl)) (by kernel_rfl) (AcS hc) (fz:=[]) rfl (L:=[5,6,8,9,18,19,20,28]) (ents:=BQ A)
  (J:=fun x seen env s=>∃(c':Nat),seen.Nodup∧(∀ j∈seen,j<A.length)∧env=[(5,nmV (MO types g)),(6,.own 1 g1 0 no),(8,.ref 2 gn 0 0),(9,.int .i64 (OI (MH types g (g.nodes[i]).id) (BO A seen))),(18,.sl nn xs),(19,.int .i64 nc),(20,.int .i64 i),(28,.ref 3 c 0 0)]∧s=⟨[ob0,VD,.arr gn 3 true true [(g.nodes[i]).av],.raw c x],c'⟩) ?_
 refine Gv ?_
 conv=>whnf
 (conv=>whnf);repeat' (first|(refine fkM hA (fun _=>?_);conv=>whnf)|(refine kA ?_;conv=>whnf)|(refine Br.mk (fun hc=>?_) fun hc=>?_<;>first|exact hc.elim|conv=>whnf)|(refine kB ?_))
 refine⟨rfl,rfl,_,_,rfl,rfl,fun x=>⟨_,List.nodup_nil,by simp,rfl,rfl⟩,?_,?_,?_⟩
 ·rintro x seen env s ⟨c',_,_,rfl,rfl⟩
  exact⟨rfl,rfl⟩
 ·rintro x x' seen k env s e ⟨c',hnd,hlt,rfl,rfl⟩ he hins
  obtain⟨hk,rfl⟩:∃h:k<A.length,e=(AV.int .i64 (A[k]).1,AV.bool (A[k]).2):=by
   rw[Aj]at he
   obtain⟨h,rfl⟩:=List.getElem?_eq_some_iff.1 he
   have h2:k<A.length:=by simpa[BQ,Hq]using h
   exact⟨h2,by simp[BQ,Hq]⟩
  have hsl:=XP hnd hlt
  have AeH:(seen++[k]).Nodup:=List.nodup_append.2 ⟨hnd,by simp,fun x hx y hy=>by simp at hy;subst hy;rintro rfl;exact hins hx⟩
  have hlt2:∀j∈seen++[k],j<A.length:=fun j hj=>by
   rcases List.mem_append.1 hj with hj|hj
   ·exact hlt j hj
   ·simp at hj;omega
  have hxs:∀p∈A,p.1∈Bf g:=by
   rw[hAe]
   exact fun p hp=>V5 (types:=types) (es:=g.edges) (L:=fun _=>[]) (v:=(g.nodes[i]).id) (Jg hck) (fun v x h=>by cases h) (List.mem_map.2 ⟨p,hp,rfl⟩)
  have hx:=hxs _ (List.getElem_mem hk)
  have hB:=XM (types:=types) hck hx
  have Anm:A.length≤1000:=by rw[hAe];exact hlA _
  have pC:=AkZ (q:=⟨MO types g,(g.nodes[i]).id,(A[k]).1,A,LY types g.edges (A[k]).1⟩) ⟨hA,hB,by show A.length≤100000;omega⟩
  have hsum:=Abf (f:=MH types g (g.nodes[i]).id) (seen:=seen) hk
  have hb1:=V6 hcl (L:=BO A seen)
  have hb2:=hcl (A[k]).1
  have hb3:(BO A seen).length=seen.length:=by simp[BO]
  have hlen:∀x,(FQ (EG A (LY types g.edges x))).length=MH types g (g.nodes[i]).id x:=fun x=>by
   rw[(Gm _).length_eq,hAe];rfl
  have hmul:seen.length*1000≤1000*1000:=Nat.mul_le_mul_right _ (by omega)
  rw[hb3]at hb1
  have hw:IntKind.i64.wrap (((OI (MH types g (g.nodes[i]).id) (BO A seen):Nat):Int)+(((FQ (EG A (LY types g.edges (A[k]).1))).length:Nat):Int))=((OI (MH types g (g.nodes[i]).id) (BO A (seen++[k])):Nat):Int):=by
   rw[hlen,hsum,wrap_i64 (by omega) (by omega)]
   rfl
  refine⟨0,_,_,_,rfl,rfl,GU ?_⟩
  conv=>whnf
  (conv=>whnf);repeat' (first|(refine Ac pC ?_;rintro _ rfl;conv=>whnf)|(refine CP hw ?_;conv=>whnf)|(refine kA ?_;conv=>whnf)|(refine Br.mk (fun hc=>?_) fun hc=>?_<;>first|exact hc.elim|conv=>whnf)|(refine kB ?_))
  exact⟨.inl rfl,_,AeH,hlt2,rfl,rfl⟩
 ·rintro x seen env s ⟨c',hnd,hlt,rfl,rfl⟩ hp
  have hl:(BQ A).length=A.length:=by simp[BQ,Hq]
  rw[hl]at hp
  rw[Abe (NC hp),hAe]
  exact hQ c' x
theorem L8 {types:List (List UInt8)} {g:GG}:(O7 types g).length=g.nodes.length:=List.length_map _
set_option maxHeartbeats 4000000 in
set_option maxRecDepth 10000 in
theorem Aiz {q:TQ} (hq:q.ok) {an:List EP} (hc:BH Tryd.prog tF.ntmps an tb0=some te0):AW Tryd.prog tF.ntmps tb0 (params q.enc 0) ⟨[],0⟩ fun e env s=>(e=.normal∨e=.ret)∧∃vs,Fh env s tA.results=some vs∧(EH vs).closed=true∧EH vs=q.out:=by
 obtain⟨g,tn,types⟩:=q
 obtain⟨hg,hN,hE,ht⟩:=hq
 dsimp only at hg hN hE ht
 have c0:=Bc (x:=ER tb0) (y:=tb1) (a:=Jt te0) (b:=te1) hc
 have c1:=Bc (x:=ER tb1) (y:=tb2) (a:=Jt te1) (b:=te2) c0.2
 have c2:=Bc (x:=ER tb2) (y:=tb3) (a:=Jt te2) (b:=te3) c1.2
 have c3:=Bc (x:=ER tb3) (y:=tb4) (a:=Jt te3) (b:=te4) c2.2
 have c4:=Bc (x:=ER tb4) (y:=tb5) (a:=Jt te4) (b:=te5) c3.2
 have d1:=Bc (x:=ER (ER tb4)) (y:=IG (ER tb4)) (a:=Jt (Jt te4)) (b:=Kr (Jt te4)) c4.1
 have d2:=FM (i:=0) (j:=0) (x:=inC (IG (ER tb4))) (a:=inA (Kr (Jt te4))) d1.2
 have d3:=Nz (l:=[5,6,18,19,20]) (x:=tL) (a:=uL) d2
 have d4:=Bc (x:=ER tL) (y:=tR1) (a:=Jt uL) (b:=uR1) d3
 have d5:=Bc (x:=ER tR1) (y:=tR2) (a:=Jt uR1) (b:=uR2) d4.2
 have d6:=Bc (x:=ER tR2) (y:=IG tR2) (a:=Jt uR2) (b:=Kr uR2) d5.2
 have d7:=FM (i:=1) (j:=1) (x:=tBk) (a:=uBk) d6.1
 have d8:=Bc (x:=ER tBk) (y:=tB1) (a:=Jt uBk) (b:=uB1) d7
 have d9:=Bc (x:=ER tB1) (y:=Yi) (a:=Jt uB1) (b:=uB2) d8.2
 have d10:=Bc (x:=ER Yi) (y:=IG Yi) (a:=Jt uB2) (b:=Kr uB2) d9.2
 have pK:=(Yv hg).up upM
 refine AW.go (AP:=Ad II) (x:=ER tb0) (y:=tb1) En mixed c0.1 ?_
 conv=>whnf
 (conv=>whnf);repeat' (first  |(refine kA ?_;conv=>whnf)|(refine Br.mk (fun hc=>?_) fun hc=>?_<;>first|exact hc.elim|conv=>whnf)|(refine kB ?_))
 refine⟨?_⟩
 show AW _ _ tb1 _ _ _
 refine AW.go (AP:=Ad II) (x:=ER tb1) (y:=tb2) En mixed c1.1 ?_
 by_cases hck:AB g=0
 case neg=>
  generalize he:AB g=ee at pK hck
  conv=>whnf
  (conv=>whnf);repeat' (first|(refine Ac pK ?_;rintro _ rfl;conv=>whnf)|(refine kA ?_;conv=>whnf)|(refine Br.mk (fun hc=>?_) fun hc=>?_<;>first|exact hc.elim|conv=>whnf)|(refine kB ?_))
  all_goals first
   |(exfalso;omega)
   |(refine ⟨?_⟩;exact⟨.inr rfl,_,rfl,rfl,by unfold TQ.out;rw[if_neg (by dsimp only;rw[he];exact hck)];rfl⟩)
 have pNb:=(YW (tn:=tn) hg hN hE hck ht).up upM
 rw[Aiw]at pNb
 rw[hck]at pK
 conv=>whnf
 (conv=>whnf);repeat' (first|(refine Ac pK ?_;rintro _ rfl;conv=>whnf)|(refine kA ?_;conv=>whnf)|(refine Br.mk (fun hc=>?_) fun hc=>?_<;>first|exact hc.elim|conv=>whnf)|(refine kB ?_))
 refine⟨?_⟩
 show AW _ _ tb2 _ _ _
 refine AW.go (AP:=Ad II) (x:=ER tb2) (y:=tb3) En mixed c2.1 ?_
 conv=>whnf
 (conv=>whnf);repeat' (first|(refine Ac pNb ?_;rintro _ rfl;conv=>whnf)|(refine kA ?_;conv=>whnf)|(refine Br.mk (fun hc=>?_) fun hc=>?_<;>first|exact hc.elim|conv=>whnf)|(refine kB ?_))
 refine⟨?_⟩
 show AW _ _ tb3 _ _ _
 refine AW.go (AP:=Ad II) (x:=ER tb3) (y:=tb4) En mixed c3.1 ?_
 conv=>whnf
 (conv=>whnf);repeat' (first  |(refine kA ?_;conv=>whnf)|(refine Br.mk (fun hc=>?_) fun hc=>?_<;>first|exact hc.elim|conv=>whnf)|(refine kB ?_))
 refine⟨?_⟩
 show AW _ _ tb4 _ _ _
 refine AW.seq (x:=ER tb4) (y:=tb5) ?_
 refine AW.go (AP:=Ad II) (x:=ER (ER tb4)) (y:=IG (ER tb4)) En mixed d1.1 ?_
 conv=>whnf
 (conv=>whnf);repeat' (first  |(refine kA ?_;conv=>whnf)|(refine Br.mk (fun hc=>?_) fun hc=>?_<;>first|exact hc.elim|conv=>whnf)|(refine kB ?_))
 refine⟨?_⟩
 show AW _ _ (IG (ER tb4)) _ _ _
 rw[AcR]
 refine AW.block ?_
 refine AW.loop (fun m env s=>∃(i c g1:Nat),m=g.nodes.length-i∧i≤g.nodes.length∧env=[(5,nmV (MO types g)),(6,.own 1 g1 0 i),(18,.sl g.nn (vs GN.av g.nodes)),(19,.int .i64 g.nodes.length),(20,.int .i64 i)]∧s=⟨[.arr 0 4 true true [g.av],.arr g1 2 (decide (0<i)) true (vs pv ((O7 types g).take i))],c⟩) ?_ (m:=g.nodes.length) ⟨0,_,_,rfl,by omega,rfl,rfl⟩
 rintro _ _ _ ⟨i,c,g1,rfl,hi,rfl,rfl⟩
 have htk:((O7 types g).take i).length=i:=by rw[List.length_take,L8];omega
 refine AW.go (AP:=Ad II) (x:=ER tL) (y:=tR1) En mixed d4.1 ?_
 by_cases hlt:i<g.nodes.length
 case neg=>
  have hie:i=g.nodes.length:=by omega
  subst hie
  rw[List.take_of_length_le (by rw[L8];exact Nat.le_refl _)]
  conv=>whnf
  (conv=>whnf);repeat' (first  |(refine kA ?_;conv=>whnf)|(refine Br.mk (fun hc=>?_) fun hc=>?_<;>first|exact hc.elim|conv=>whnf)|(refine kB ?_))
  all_goals first|(exfalso;omega)|skip
  refine⟨?_⟩
  show AW _ _ tR1 _ _ _
  refine AW.go (AP:=Ad II) (x:=ER tR1) (y:=tR2) En mixed d5.1 ?_
  conv=>whnf
  (conv=>whnf);repeat' (first  |(refine kA ?_;conv=>whnf)|(refine Br.mk (fun hc=>?_) fun hc=>?_<;>first|exact hc.elim|conv=>whnf)|(refine kB ?_))
  refine⟨?_⟩
  refine .inr ⟨(fun h=>by cases h),?_⟩
  show AW _ _ tb5 _ _ _
  refine AW.fin (AP:=Ad II) (x:=tb5) En mixed c4.2 ?_
  conv=>whnf
  (conv=>whnf);repeat' (first  |(refine kA ?_;conv=>whnf)|(refine Br.mk (fun hc=>?_) fun hc=>?_<;>first|exact hc.elim|conv=>whnf)|(refine kB ?_))
  have htS:sub (vs pv (O7 types g)) 0 g.nodes.length=vs pv (O7 types g):=by
   have:sub (vs pv (O7 types g)) 0 (O7 types g).length=vs pv (O7 types g):=uV
   rwa [L8]at this
  refine Am ⟨rfl,rfl,by rw[lV,L8];omega⟩ ?_
  conv=>whnf
  refine BI htS ?_
  conv=>whnf
  (conv=>whnf);repeat' (first  |(refine kA ?_;conv=>whnf)|(refine Br.mk (fun hc=>?_) fun hc=>?_<;>first|exact hc.elim|conv=>whnf)|(refine kB ?_))
  refine⟨?_⟩
  exact⟨.inr rfl,_,rfl,rfl,by unfold TQ.out;rw[if_pos hck];rfl⟩
 conv=>whnf
 (conv=>whnf);repeat' (first  |(refine kA ?_;conv=>whnf)|(refine Br.mk (fun hc=>?_) fun hc=>?_<;>first|exact hc.elim|conv=>whnf)|(refine kB ?_))
 all_goals first|(exfalso;omega)|skip
 refine⟨?_⟩
 show AW _ _ tR1 _ _ _
 refine AW.go (AP:=Ad II) (x:=ER tR1) (y:=tR2) En mixed d5.1 ?_
 conv=>whnf
 (conv=>whnf);repeat' (first  |(refine kA ?_;conv=>whnf)|(refine Br.mk (fun hc=>?_) fun hc=>?_<;>first|exact hc.elim|conv=>whnf)|(refine kB ?_))
 refine⟨?_⟩
 show AW _ _ tR2 _ _ _
 refine AW.seq (x:=ER tR2) (y:=IG tR2) ?_
 rw[AeG]
 refine AW.block ?_
 refine AW.go (AP:=Ad II) (x:=ER tBk) (y:=tB1) En mixed d8.1 ?_
 conv=>whnf
 (conv=>whnf);repeat' (first  |(refine kA ?_;conv=>whnf)|(refine Br.mk (fun hc=>?_) fun hc=>?_<;>first|exact hc.elim|conv=>whnf)|(refine kB ?_))
 refine⟨?_⟩
 show AW _ _ tB1 _ _ _
 refine AW.go (AP:=Ad II) (x:=ER tB1) (y:=Yi) En mixed d9.1 ?_
 conv=>whnf
 (conv=>whnf);repeat' (first  |(refine kA ?_;conv=>whnf)|(refine Br.mk (fun hc=>?_) fun hc=>?_<;>first|exact hc.elim|conv=>whnf)|(refine kB ?_))
 refine⟨?_⟩
 refine AW.seq (x:=ER Yi) (y:=IG Yi) (AcT hck hE hlt d10.1 fun c' x=>?_)
 show AW _ _ (IG Yi) _ _ _
 have htw:twN types g (g.nodes[i]).id<2^62:=by
  have hlA:∀v,(LY types g.edges v).length≤1000:=fun v=>Nat.le_trans (VZ (n:=0) (fun _=>Nat.le_refl _)) (by omega)
  have h1:=V6 (f:=MH types g (g.nodes[i]).id) (b:=1000) (fun x=>Nat.le_trans Q5 (hlA _)) (L:=LY types g.edges (g.nodes[i]).id)
  have h2:=Nat.mul_le_mul_right 1000 (hlA (g.nodes[i]).id)
  unfold twN
  omega
 have hsn:(O7 types g).take (i+1)=(O7 types g).take i++[((g.nodes[i]).id,((twN types g (g.nodes[i]).id / 2:Nat):Int))]:=by
  rw[List.take_succ_eq_append_getElem (by rw[L8];exact hlt)];unfold O7;rw[List.getElem_map]
 refine AW.fin (AP:=Ad II) (x:=IG Yi) En mixed d10.2 ?_
 conv=>whnf
 (conv=>whnf);repeat' (first|(refine AhJ (twN types g (g.nodes[i]).id) 2 rfl (by omega) ?_;conv=>whnf)|(refine Vb (f:=pv) (l:=(O7 types g).take i) (x:=((g.nodes[i]).id,((twN types g (g.nodes[i]).id / 2:Nat):Int))) AeC (by rw[htk]) (by rw[htk];omega) ?_;conv=>whnf)|(refine kA ?_;conv=>whnf)|(refine Br.mk (fun hc=>?_) fun hc=>?_<;>first|exact hc.elim|conv=>whnf)|(refine kB ?_))
 refine⟨?_⟩
 show AW _ _ (IG tR2) _ _ _
 refine AW.fin (AP:=Ad II) (x:=IG tR2) En mixed d6.2 ?_
 conv=>whnf
 (conv=>whnf);repeat' (first  |(refine kA ?_;conv=>whnf)|(refine Br.mk (fun hc=>?_) fun hc=>?_<;>first|exact hc.elim|conv=>whnf)|(refine kB ?_))
 refine⟨?_⟩
 rw[htk,←hsn]
 exact .inl ⟨rfl,g.nodes.length-(i+1),by omega,i+1,_,_,rfl,by omega,rfl,by rw[decide_eq_true (show 0<i+1 by omega)]⟩
noncomputable def L9 (args:List AV) (s:Ag):Option (AL×Ag):=by
 classical exact if h:∃q:TQ,q.ok∧args=q.enc∧s=⟨[],0⟩then some (.ok (Classical.choose h).out,⟨[],0⟩)else none
theorem GP.I9 {p q:GP} (h:p.av=q.av):p=q:=by
 obtain⟨k,a,b,c,d,e,f⟩:=p
 obtain⟨k',a',b',c',d',e',f'⟩:=q
 simp only[GP.av,AV.agg.injEq,List.cons.injEq,AV.str.injEq,AV.int.injEq,AV.sl.injEq,and_true,true_and]at h
 obtain⟨rfl,rfl,rfl,rfl,rfl,rfl,rfl⟩:=h
 rfl
theorem J6 {α:Type} {f:α→AV} (hf:∀a b,f a=f b→a=b):∀{l m:List α},vs f l=vs f m→l=m
 |[],[],_=>rfl
 |[],_::_,h=>by cases h
 |_::_,[],h=>by cases h
 |a::l,b::m,h=>by
  simp only[vs,List.map_cons,List.cons.injEq]at h
  rw[hf _ _ h.1,J6 hf h.2]
theorem GN.I9 {p q:GN} (h:p.av=q.av):p=q:=by
 obtain⟨a,b,c,d,e⟩:=p
 obtain⟨a',b',c',d',e'⟩:=q
 simp only[GN.av,AV.agg.injEq,List.cons.injEq,AV.int.injEq,AV.sl.injEq,and_true,true_and]at h
 obtain⟨rfl,⟨rfl,h1⟩,rfl,h2⟩:=h
 obtain rfl:=J6 (fun a b h=>AV.str.inj h) h1
 obtain rfl:=J6 (fun a b h=>GP.I9 h) h2
 rfl
theorem GE.I9 {p q:GE} (h:p.av=q.av):p=q:=by
 obtain⟨a,b,c,d,e,f⟩:=p
 obtain⟨a',b',c',d',e',f'⟩:=q
 simp only[GE.av,AV.agg.injEq,List.cons.injEq,AV.int.injEq,AV.str.injEq,AV.sl.injEq,and_true,true_and]at h
 obtain⟨rfl,rfl,rfl,rfl,rfl,h2⟩:=h
 obtain rfl:=J6 (fun a b h=>GP.I9 h) h2
 rfl
theorem GG.I9 {p q:GG} (h:p.av=q.av):p=q:=by
 obtain⟨a,b,c,d,e,f⟩:=p
 obtain⟨a',b',c',d',e',f'⟩:=q
 simp only[GG.av,AV.agg.injEq,List.cons.injEq,AV.int.injEq,AV.sl.injEq,and_true,true_and]at h
 obtain⟨⟨rfl,h1⟩,⟨rfl,h2⟩,rfl,rfl⟩:=h
 obtain rfl:=J6 (fun a b h=>GN.I9 h) h1
 obtain rfl:=J6 (fun a b h=>GE.I9 h) h2
 rfl
theorem TQ.V7 {p q:TQ} (h:p.enc=q.enc):p=q:=by
 obtain⟨a,c,d⟩:=p
 obtain⟨a',c',d'⟩:=q
 simp only[TQ.enc,List.cons.injEq,AV.sl.injEq,and_true]at h
 obtain⟨h1,rfl,h2⟩:=h
 obtain rfl:=GG.I9 h1
 obtain rfl:=J6 (fun a b h=>AV.str.inj h) h2
 rfl
theorem Y2 {q:TQ} (hq:q.ok):L9 q.enc ⟨[],0⟩=some (.ok q.out,⟨[],0⟩):=by
 have hx:∃p:TQ,p.ok∧q.enc=p.enc∧(⟨[],0⟩:Ag)=⟨[],0⟩:=⟨q,hq,rfl,rfl⟩
 unfold L9
 rw[dif_pos hx]
 have:=TQ.V7 (Classical.choose_spec hx).2.1
 rw[← this]
theorem AgI:Ar Tryd.prog fun f' args s=>if f'=6 then L9 args s else none:=by
 intro f0 args s out s' h
 replace h:(if f0=6 then L9 args s else none)=some (out,s'):=h
 rcases Decidable.em (f0=6)with hf|hf
 case inr=>rw[if_neg hf]at h;cases h
 rw[if_pos hf]at h
 subst hf
 unfold L9 at h
 split at h
 case isFalse=>cases h
 rename_i hx
 have hcs:=Classical.choose_spec hx
 simp only[Option.some.injEq,Prod.mk.injEq]at h
 obtain⟨rfl,rfl⟩:=h
 generalize Classical.choose hx=q at hcs
 obtain⟨hq,rfl,rfl⟩:=hcs
 refine fun w0 B Z φ w vs hI hargs=>.inl ⟨⟨_,Tryd.func6,rfl,by decide⟩,?_⟩
 obtain⟨b,hb,hcm,hrs,_⟩:=SV x6.2
 obtain rfl:b=tb0:=by
  have:tF.body=some tb0:=by kernel_rfl
  exact Option.some.inj (hb.symm.trans this)
 refine(XQ (R:=fun v=>v=q.out) Tryd.func6 hb hrs (of_decide_eq_true (by kernel_rfl)) (Aiz hq hcm) hI hargs).mono ?_
 rintro e w1 ⟨v,rfl,Z',φ',hI',hL,hR⟩
 exact⟨Z',φ',hI',hL,hR⟩
noncomputable def SI:List (Nat×Hf):=(6,.ext L9)::II
theorem AiA:Ad II 6=none:=by kernel_rfl
theorem upT:∀f a,Ad II f=some a→Ad SI f=some a:=UZ AiA
theorem upC:∀f a,Ad tab f=some a→Ad SI f=some a:=fun f a h=>upT f a (upM f a h)
theorem AeI:NY Tryd.prog (Ad SI):=by
 intro f a h
 simp only[SI,Ad]at h
 cases hb:Nat.beq 6 f with
 |false=>rw[hb,cond_false]at h;exact Aad f a h
 |true=>
  rw[hb,cond_true]at h
  have e:=Nat.eq_of_beq_eq_true hb
  subst e
  cases h
  exact AgI
theorem AdL (n:Nat):Ar Tryd.prog (run (Ad SI) n):=Ji mixed AeI n
theorem TQ.closed (q:TQ):q.out.closed=true:=by unfold TQ.out;split<;>rfl
theorem Y3 {q:TQ} (hq:q.ok):Aw (Ad SI) 6 q.enc (· =q.out):=by
 refine⟨q.out,⟨1,?_⟩,rfl⟩
 have h1:run (Ad SI) 1 6 q.enc ⟨[],0⟩=some (.ok q.out,⟨[],0⟩):=Y2 hq
 simp only[Ce,h1]
 unfold TQ.out
 split<;>rfl
end
def AfQ (v:GV) (n d s l:Bool):Prop:=(n=true∨v.n=0)∧(d=true∨v.d=0)∧(s=true∨v.s=[])∧(l=true∨v.l.length=0)
instance (v:GV) (n d s l:Bool):Decidable (AfQ v n d s l):=by unfold AfQ;infer_instance
def atB (T:List (List Bool)) (i k:Nat):Bool:=(T.getD i []).getD k false
def WH (T:List (List Bool)) (i k:Nat):Bool:=decide (i≠k)&&(atB T i k||atB T k i)
def Js (T:List (List Bool)) (v i k:Nat):Bool:=WH T v i&&(WH T v k&&WH T i k)
def cK (T:List (List Bool)) (v i m:Nat):Nat:=((List.range m).filter fun k=>decide (i<k)&&Js T v i k).length
def cI (T:List (List Bool)) (v m:Nat):Nat:=((List.range m).map fun i=>cK T v i T.length).sum
theorem AiW {T:List (List Bool)} {v i m:Nat}:cK T v i m≤m:=by
 unfold cK
 exact Nat.le_trans (List.length_filter_le _ _) (by simp)
theorem AeY {T:List (List Bool)} {v m:Nat}:cI T v (m+1)=cI T v m+cK T v m T.length:=by
 simp[cI,List.range_succ]
theorem Afs {T:List (List Bool)} {v:Nat}:∀{m:Nat},cI T v m≤m*T.length
 |0=>by simp[cI]
 |m+1=>by
  have:=Afs (T:=T) (v:=v) (m:=m)
  have h2:=AiW (T:=T) (v:=v) (i:=m) (m:=T.length)
  rw[AeY,Nat.succ_mul]
  omega
noncomputable def rtL (types:List (List UInt8)) (g:GG):List (Int×Int):=(List.range g.nodes.length).map fun v=>((g.nodes.map GN.id).getD v 0,((cI (Ef types g) v (Ef types g).length:Nat):Int))
end AI
end Go.Proofs.YtiimoiecghmebaaDoor
