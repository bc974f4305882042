/- common: an entry of a greater table. Triangles of the program: an entry of a greater table. Triangles: the program's sum is twice the reference's count. -/
import Derived.Test.YtchcadfjbkkgmaaGreatDoorDMak
import Derived.Test.YtchcadfjbkkgmaaGreatDoorDNd
import Derived.Test.YtchcadfjbkkgmaaGreatDoorDMaj
import Derived.Test.YtchcadfjbkkgmaaGreatDoorDMai
set_option linter.unusedVariables false
set_option maxRecDepth 4000
namespace Go.Proofs.YtchcadfjbkkgmaaGreatDoor
namespace AI
section
open Go.RowKit Go.Sort
structure Hold (p:Prop):Prop where
 h:p
section
variable {P:Program} {AP:Nat→Option Hy} {n:Nat}
theorem AW.go (hS:∀N,Am P (run AP N)) (hm:P.follows .mixedOrders=true) {an:List EJ} {x y:Code} {a:AQ} (hx:BI P n an x=some a) {env:Env} {s:Aj} {Q:AB→Env→Aj→Prop} (h:vC AP a env s fun e env s=>Hold (AgE P n y Q e env s)):AW P n (.seq x y) env s Q:=
 AW.seq (AW.of_run hS hm hx ((G8 h).mono fun e env s k=>k.h))
theorem AW.fin (hS:∀N,Am P (run AP N)) (hm:P.follows .mixedOrders=true) {an:List EJ} {x:Code} {a:AQ} (hx:BI P n an x=some a) {env:Env} {s:Aj} {Q:AB→Env→Aj→Prop} (h:vC AP a env s fun e env s=>Hold (Q e env s)):AW P n x env s Q:=
 AW.of_run hS hm hx ((G8 h).mono fun e env s k=>k.h)
end
def Fb:Code→Code
 | .seq a _=>a
 |c=>c
def IE:Code→Code
 | .seq _ b=>b
 |c=>c
def JE:AQ→AQ
 | .seq a _=>a
 |c=>c
def KI:AQ→AQ
 | .seq _ b=>b
 |c=>c
def Aar (f:Func):Code:=f.body.getD .skip
def opsOf:Code→Array Oper
 | .region _ o _=>o
 |_=>#[]
def AbG:Code→Nat
 | .region i _ _=>i
 |_=>0
def inC:Code→Code
 | .block _ c=>c
 | .loop c=>c
 |c=>c
def inA:AQ→AQ
 | .block _ c=>c
 | .loop _ c=>c
 |c=>c
def J6 (c:Code) (k:Nat):Oper:=((opsOf c).toList[k]?).getD default
theorem FX {P:Program} {n:Nat} {an:List EJ} {i j:Nat} {x:Code} {a:AQ} (h:BI P n an (.block i x)=some (.block j a)):BI P n an x=some a:=by
 simp only[BI]at h
 cases hx:BI P n an x with
 |none=>rw[hx]at h;cases h
 |some b=>rw[hx]at h;simp only[Option.map_some,Option.some.injEq,AQ.block.injEq]at h;rw[h.2]
theorem NQ {P:Program} {n:Nat} {an:List EJ} {l:List Nat} {x:Code} {a:AQ} (h:BI P n an (.loop x)=some (.loop l a)):BI P n an x=some a:=by
 simp only[BI]at h
 cases hx:BI P n an x with
 |none=>rw[hx]at h;cases h
 |some b=>rw[hx]at h;simp only[Option.map_some,Option.some.injEq,AQ.loop.injEq]at h;rw[h.2]
theorem XD {n:Nat} {l:List Nat} (h1:l.Nodup) (h2:∀j∈l,j<n):l.length≤n:=by
 have:=List.Nodup.length_le_of_subset (l₂:=List.range n) h1 fun j hj=>List.mem_range.2 (h2 j hj)
 rwa [List.length_range]at this
abbrev NM:=List (Int×List (Int×Bool))
def fmB (L:List (Int×Bool)):AV:=.fmap (Cb L)
def nmV (M:NM):AV:=.fmap (Ia (.int .i64) fmB M)
theorem fkM {M:NM} {k:Int} {L:List (Int×Bool)} {K:Option (Nat×AV)→Prop} (h:Dz M k=some L) (hK:∀i,K (some (i,fmB L))):Nb .int (.int .i64 k) (Ia (.int .i64) fmB M) K:=
 IG EK (fun e=>by rw[h]at e;cases e) (fun i w e=>by rw[h]at e;cases e;exact hK i)
theorem fkN {L:List (Int×Bool)} {k:Int} {K:Option (Nat×AV)→Prop} (h:Dz L k=none) (hK:K none):Nb .int (.int .i64 k) (Cb L) K:=
 IG EK (fun _=>hK) (fun i w e=>by rw[h]at e;cases e)
theorem fkS {L:List (Int×Bool)} {k:Int} {v:Bool} {K:Option (Nat×AV)→Prop} (h:Dz L k=some v) (hK:∀i,K (some (i,.bool v))):Nb .int (.int .i64 k) (Cb L) K:=
 IG EK (fun e=>by rw[h]at e;cases e) (fun i w e=>by rw[h]at e;cases e;exact hK i)
theorem Zf {L L':List (Int×Bool)} (h:Cb L=Cb L'):L=L':=by
 induction L generalizing L' with
 |nil=>cases L' with
  |nil=>rfl
  |cons p L'=>cases h
 |cons p L ih=>cases L' with
  |nil=>cases h
  |cons q L'=>
   simp only[Cb,Ia,List.map_cons,List.cons.injEq,Prod.mk.injEq,AV.int.injEq,AV.bool.injEq,true_and]at h
   rw[ih h.2,Prod.ext h.1.1 h.1.2]
theorem Aft {M N:NM} (h:nmV M=nmV N):M=N:=by
 simp only[nmV,AV.fmap.injEq]at h
 induction M generalizing N with
 |nil=>cases N with
  |nil=>rfl
  |cons p N=>cases h
 |cons p M ih=>cases N with
  |nil=>cases h
  |cons q N=>
   simp only[Ia,List.map_cons,List.cons.injEq,Prod.mk.injEq,AV.int.injEq,true_and]at h
   obtain⟨⟨h1,h2⟩,h3⟩:=h
   rw[ih h3]
   simp only[fmB,AV.fmap.injEq]at h2
   rw[Prod.ext h1 (Zf h2)]
def hasB (L:List (Int×Bool)) (x:Int):Bool:=(Dz L x).getD false
def Fe (A B:List (Int×Bool)):List Int:=(A.filter fun p=>hasB B p.1).map (·.1)
structure CQ where
 M:NM
 a:Int
 b:Int
 A:List (Int×Bool)
 B:List (Int×Bool)
def CQ.enc (q:CQ):List AV:=[nmV q.M,.int .i64 q.a,.int .i64 q.b]
def CQ.ok (q:CQ):Prop:=Dz q.M q.a=some q.A∧Dz q.M q.b=some q.B∧q.A.length≤100000
def CQ.out (q:CQ):AV:=.sl (decide (Fe q.A q.B≠[])) (vs (.int .i64) (Gf (Fe q.A q.B)))
theorem CQ.Wi {p q:CQ} (hp:p.ok) (hq:q.ok) (h:p.enc=q.enc):p=q:=by
 obtain⟨M,a,b,A,B⟩:=p
 obtain⟨M',a',b',A',B'⟩:=q
 obtain⟨h1,h2,_⟩:=hp
 obtain⟨k1,k2,_⟩:=hq
 simp only[CQ.enc,List.cons.injEq,AV.int.injEq,and_true,true_and]at h
 obtain⟨e,rfl,rfl⟩:=h
 obtain rfl:=Aft e
 dsimp only at h1 h2 k1 k2
 rw[h1]at k1
 rw[h2]at k2
 cases k1
 cases k2
 rfl
noncomputable def MJ (args:List AV) (s:Aj):Option (AA×Aj):=by
 classical exact if h:∃q:CQ,q.ok∧args=q.enc∧s=⟨[],0⟩then some (.ok (Classical.choose h).out,⟨[],0⟩)else none
theorem Zg {q:CQ} (hq:q.ok):MJ q.enc ⟨[],0⟩=some (.ok q.out,⟨[],0⟩):=by
 have hx:∃p:CQ,p.ok∧q.enc=p.enc∧(⟨[],0⟩:Aj)=⟨[],0⟩:=⟨q,hq,rfl,rfl⟩
 unfold MJ
 rw[dif_pos hx]
 have:=CQ.Wi hq (Classical.choose_spec hx).1 (Classical.choose_spec hx).2.1
 rw[← this]
def BQ (A:List (Int×Bool)) (seen:List Nat):List (Int×Bool):=seen.map fun i=>(A[i]?).getD (0,false)
theorem NS {A:List (Int×Bool)} {seen:List Nat} (h:seen.Perm (List.range A.length)):(BQ A seen).Perm A:=by
 have h1:(BQ A seen).Perm (BQ A (List.range A.length)):=h.map _
 have h2:BQ A (List.range A.length)=A:=by
  apply List.ext_getElem
  ·simp[BQ]
  ·intro i h1 h2
   simp[BQ,h2]
 rw[h2]at h1
 exact h1
theorem AbI {A A' B:List (Int×Bool)} (h:A.Perm A'):(Fe A B).Perm (Fe A' B):=(h.filter _).map _
theorem AbJ {A B:List (Int×Bool)} {seen:List Nat} {i:Nat} (h:i<A.length):Fe (BQ A (seen++[i])) B=Fe (BQ A seen) B++if hasB B (A[i]).1 then[(A[i]).1]else[]:=by
 unfold Fe BQ
 rw[List.map_append,List.filter_append,List.map_append]
 simp only[List.map_cons,List.map_nil,List.getElem?_eq_getElem h,Option.getD_some,List.filter_cons,List.filter_nil]
 cases hasB B (A[i]).1<;>rfl
theorem Rh {A B:List (Int×Bool)}:(Fe A B).length≤A.length:=by
 unfold Fe
 rw[List.length_map]
 exact List.length_filter_le _ _
noncomputable abbrev cF:Func:=Tryz.f56
noncomputable abbrev cA:FQ:=x56.1
noncomputable abbrev cb0:Code:=Aar cF
noncomputable abbrev cb1:Code:=IE cb0
noncomputable abbrev cb2:Code:=IE cb1
noncomputable abbrev cb3:Code:=IE cb2
noncomputable abbrev cb4:Code:=IE cb3
noncomputable abbrev ce0:AQ:=cA.body
noncomputable abbrev ce1:AQ:=KI ce0
noncomputable abbrev ce2:AQ:=KI ce1
noncomputable abbrev ce3:AQ:=KI ce2
noncomputable abbrev ce4:AQ:=KI ce3
noncomputable abbrev cr0:Code:=Fb (Fb cb2)
noncomputable abbrev crB:Code:=inC (inC (IE (Fb cb2)))
noncomputable abbrev cr1:Code:=Fb crB
noncomputable abbrev crI:Code:=inC (IE (IE crB))
noncomputable abbrev cr2:Code:=Fb crI
noncomputable abbrev crX:Code:=IE crI
theorem AbK:Fb cb2=.seq (.region (AbG cr0) (opsOf cr0) false) (.block 0 (.loop (.seq (.region (AbG cr1) (opsOf cr1) false) (.seq (.cond (.tmp 14) .skip (.exit 0)) (.block 1 (.seq (.region (AbG cr2) (opsOf cr2) false) crX)))))):=by kernel_rfl
noncomputable abbrev ceB:AQ:=inA (inA (KI (JE ce2)))
noncomputable abbrev ceI:AQ:=inA (KI (KI ceB))
noncomputable abbrev ceX:AQ:=KI ceI
theorem Adi {an:List EJ} (hc:BI Tryz.prog cF.ntmps an (Fb cb2)=some (JE ce2)):BI Tryz.prog cF.ntmps an crX=some ceX:=by
 have d1:=(Bo (x:=cr0) (y:=IE (Fb cb2)) (a:=JE (JE ce2)) (b:=KI (JE ce2)) hc).2
 have d2:=FX (i:=0) (j:=0) (x:=inC (IE (Fb cb2))) (a:=inA (KI (JE ce2))) d1
 have d3:=NQ (l:=[0,2,7,12]) (x:=crB) (a:=ceB) d2
 have d4:=(Bo (x:=cr1) (y:=IE crB) (a:=JE ceB) (b:=KI ceB) d3).2
 have d5:=(Bo (x:=Fb (IE crB)) (y:=IE (IE crB)) (a:=JE (KI ceB)) (b:=KI (KI ceB)) d4).2
 have d6:=FX (i:=1) (j:=1) (x:=crI) (a:=ceI) d5
 exact(Bo (x:=cr2) (y:=crX) (a:=JE ceI) (b:=ceX) d6).2
set_option maxHeartbeats 4000000 in
set_option maxRecDepth 10000 in
theorem Adj {q:CQ} (hq:q.ok) {g c:Nat} {an:List EJ} (hc:BI Tryz.prog cF.ntmps an (Fb cb2)=some (JE ce2)) {Q:AB→Env→Aj→Prop}
 (hQ:∀gg c' seen x,seen.Perm (List.range q.A.length)→Q .normal [(14,.bool false),(13,.junk),(0,nmV q.M),(2,.int .i64 q.b),(7,.own 0 gg 0 (Fe (BQ q.A seen) q.B).length),(12,.ref 1 c 0 0)] ⟨[.arr gg 1 (decide (Fe (BQ q.A seen) q.B≠[])) true (vs (.int .i64) (Fe (BQ q.A seen) q.B)),.raw c x],c'⟩):
 AW Tryz.prog cF.ntmps (Fb cb2) [(0,nmV q.M),(1,.int .i64 q.a),(2,.int .i64 q.b),(7,.own 0 g 0 0)] ⟨[.arr g 1 false true []],c⟩ Q:=by
 obtain⟨hA,hB,hl⟩:=hq
 rw[AbK]
 refine AW.range (AP:=Ac tab) SS mixed (anA:=[]) (anB:=[]) (it:=12) (nx:=13) (more:=14) (pair:=15) (XE:=[J6 cr0 0,J6 cr0 1,J6 cr0 2]) (oR:=J6 cr0 3) (oN:=J6 cr1 0) (oX:=J6 cr1 1) (oE:=J6 cr2 0) (Zh:=[J6 cr2 1,J6 cr2 2])
  (Adk:=[⟨some 9,.YH (.tmp 0),none⟩,⟨some 10,.YH (.tmp 1),none⟩,⟨some 11,.lookup .int .CJ false (.tmp 9) (.tmp 10),none⟩]) (Adl:=[⟨some 16,.ext (.tmp 15) 0,none⟩,⟨some 8,.YH (.tmp 16),none⟩])
  (t:=112) (kt:=3) (et:=4) (xm:=.tmp 11) (am:=.tmp 11)
  (by kernel_rfl) (by kernel_rfl) (by kernel_rfl) (by kernel_rfl) (by kernel_rfl) (by kernel_rfl) (by kernel_rfl) (of_decide_eq_true (by kernel_rfl))
  (by kernel_rfl) (by kernel_rfl) (by kernel_rfl) (by kernel_rfl) (by kernel_rfl) (by kernel_rfl) (by kernel_rfl) (of_decide_eq_true (by kernel_rfl)) (of_decide_eq_true (by kernel_rfl)) (by decide)
  (by kernel_rfl) (by kernel_rfl) (by kernel_rfl) (by kernel_rfl) (of_decide_eq_true (by kernel_rfl)) (by kernel_rfl) (Adi hc) (fz:=[]) rfl (L:=[0,2,7,12]) (ents:=Cb q.A)
  (J:=fun x seen env s=>∃(gg c':Nat),seen.Nodup∧(∀ j∈seen,j<q.A.length)∧env=[(0,nmV q.M),(2,.int .i64 q.b),(7,.own 0 gg 0 (Fe (BQ q.A seen) q.B).length),(12,.ref 1 c 0 0)]∧s=⟨[.arr gg 1 (decide (Fe (BQ q.A seen) q.B≠[])) true (vs (.int .i64) (Fe (BQ q.A seen) q.B)),.raw c x],c'⟩) ?_
 refine Gz ?_
 conv=>whnf
 (conv=>whnf);repeat' (first|(refine fkM hA (fun _=>?_);conv=>whnf)|(refine kA ?_;conv=>whnf)|(refine Br.mk (fun hc=>?_) fun hc=>?_<;>first|exact hc.elim|conv=>whnf)|(refine kB ?_))
 refine⟨rfl,rfl,_,_,rfl,rfl,fun x=>⟨_,_,List.nodup_nil,by simp,rfl,rfl⟩,?_,?_,?_⟩
 ·rintro x seen env s ⟨gg,c',_,_,rfl,rfl⟩
  exact⟨rfl,rfl⟩
 ·rintro x x' seen i env s e ⟨gg,c',hnd,hlt,rfl,rfl⟩ he hins
  obtain⟨hi,rfl⟩:∃h:i<q.A.length,e=(AV.int .i64 (q.A[i]).1,AV.bool (q.A[i]).2):=by
   rw[Ar]at he
   obtain⟨h,rfl⟩:=List.getElem?_eq_some_iff.1 he
   have h2:i<q.A.length:=by simpa[Cb,Ia]using h
   exact⟨h2,by simp[Cb,Ia]⟩
  have hsl:=XD hnd hlt
  have hbl:(Fe (BQ q.A seen) q.B).length≤seen.length:=Nat.le_trans Rh (by simp[BQ])
  have hbs:=AbJ (B:=q.B) (seen:=seen) hi
  have Afv:(seen++[i]).Nodup:=List.nodup_append.2 ⟨hnd,by simp,fun x hx y hy=>by simp at hy;subst hy;rintro rfl;exact hins hx⟩
  have hlt2:∀j∈seen++[i],j<q.A.length:=fun j hj=>by
   rcases List.mem_append.1 hj with hj|hj
   ·exact hlt j hj
   ·simp at hj;omega
  refine⟨0,_,_,_,rfl,rfl,G8 ?_⟩
  have hh:hasB q.B (q.A[i]).1=(Dz q.B (q.A[i]).1).getD false:=rfl
  rcases hm:Dz q.B (q.A[i]).1 with _|v
  case' some=>cases v
  all_goals (
   rw[hm]at hh
   rw[hh]at hbs
   conv=>whnf
   (conv=>whnf);repeat' (first|(refine fkM hB (fun _=>?_);conv=>whnf)|(refine fkN hm ?_;conv=>whnf)|(refine fkS hm (fun _=>?_);conv=>whnf)|(refine Sm (f:=.int .i64) (l:=Fe (BQ q.A seen) q.B) (x:=(q.A[i]).1) (fun _=>rfl) rfl (by omega) ?_;conv=>whnf)|(refine kA ?_;conv=>whnf)|(refine Br.mk (fun hc=>?_) fun hc=>?_<;>first|exact hc.elim|conv=>whnf)|(refine kB ?_)))
  all_goals first
   |(exfalso;omega)
   |(replace hbs:Fe (BQ q.A (seen++[i])) q.B=Fe (BQ q.A seen) q.B++[(q.A[i]).1]:=hbs
     rw[show (Fe (BQ q.A seen) q.B).length+1=(Fe (BQ q.A (seen++[i])) q.B).length from by rw[hbs];simp,←hbs]
     exact⟨.inl rfl,_,_,Afv,hlt2,rfl,by rw[decide_eq_true (show Fe (BQ q.A (seen++[i])) q.B≠[] from by rw[hbs];simp)];rfl⟩)
   |(replace hbs:Fe (BQ q.A (seen++[i])) q.B=Fe (BQ q.A seen) q.B:=hbs.trans (List.append_nil _)
     rw[← hbs]
     exact⟨.inl rfl,_,_,Afv,hlt2,rfl,rfl⟩)
 ·rintro x seen env s ⟨gg,c',hnd,hlt,rfl,rfl⟩ hp
  have hl:(Cb q.A).length=q.A.length:=by simp[Cb,Ia]
  rw[hl]at hp
  exact hQ gg c' seen x hp
set_option maxHeartbeats 4000000 in
set_option maxRecDepth 10000 in
theorem Ajk {q:CQ} (hq:q.ok) {an:List EJ} (hc:BI Tryz.prog cF.ntmps an cb0=some ce0):AW Tryz.prog cF.ntmps cb0 (params q.enc 0) ⟨[],0⟩ fun e env s=>(e=.normal∨e=.ret)∧∃vs,Fg env s cA.results=some vs∧(DY vs).closed=true∧DY vs=q.out:=by
 have c0:=Bo (x:=Fb cb0) (y:=cb1) (a:=JE ce0) (b:=ce1) hc
 have c1:=Bo (x:=Fb cb1) (y:=cb2) (a:=JE ce1) (b:=ce2) c0.2
 have c2:=Bo (x:=Fb cb2) (y:=cb3) (a:=JE ce2) (b:=ce3) c1.2
 have c3:=Bo (x:=Fb cb3) (y:=cb4) (a:=JE ce3) (b:=ce4) c2.2
 refine AW.go (x:=Fb cb0) (y:=cb1) SS mixed c0.1 ?_
 conv=>whnf
 (conv=>whnf);repeat' (first  |(refine kA ?_;conv=>whnf)|(refine Br.mk (fun hc=>?_) fun hc=>?_<;>first|exact hc.elim|conv=>whnf)|(refine kB ?_))
 refine⟨?_⟩
 show AW _ _ cb1 _ _ _
 refine AW.go (x:=Fb cb1) (y:=cb2) SS mixed c1.1 ?_
 conv=>whnf
 (conv=>whnf);repeat' (first  |(refine kA ?_;conv=>whnf)|(refine Br.mk (fun hc=>?_) fun hc=>?_<;>first|exact hc.elim|conv=>whnf)|(refine kB ?_))
 refine⟨?_⟩
 refine AW.seq (x:=Fb cb2) (y:=cb3) (Adj hq c2.1 fun gg c2 sn x hp=>?_)
 have hW:=AbI (B:=q.B) (NS hp)
 have hl:=Rh (A:=BQ q.A sn) (B:=q.B)
 have hbl:(BQ q.A sn).length≤100000:=by
  rw[(NS hp).length_eq];exact hq.2.2
 show AW _ _ cb3 _ _ _
 refine AW.go (x:=Fb cb3) (y:=cb4) SS mixed c3.1 ?_
 conv=>whnf
 (conv=>whnf);repeat' (first  |(refine kA ?_;conv=>whnf)|(refine Br.mk (fun hc=>?_) fun hc=>?_<;>first|exact hc.elim|conv=>whnf)|(refine kB ?_))
 refine(Aht (L:=Fe (BQ q.A sn) q.B) rfl (by omega)).mono ?_
 rintro _ _ ⟨cc,W,rfl,rfl,w1,w2⟩
 conv=>whnf
 apply Df rfl
 (conv=>whnf);repeat' (first  |(refine kA ?_;conv=>whnf)|(refine Br.mk (fun hc=>?_) fun hc=>?_<;>first|exact hc.elim|conv=>whnf)|(refine kB ?_))
 refine⟨?_⟩
 show AW _ _ cb4 _ _ _
 refine AW.fin (x:=cb4) SS mixed c3.2 ?_
 conv=>whnf
 (conv=>whnf);repeat' (first  |(refine kA ?_;conv=>whnf)|(refine Br.mk (fun hc=>?_) fun hc=>?_<;>first|exact hc.elim|conv=>whnf)|(refine kB ?_))
 have hwl:=w1.length_eq
 have hWs:W=Gf (Fe q.A q.B):=II (w2.imp fun h=>by have:=Jv.1 h;omega) (OB _) (w1.trans (hW.trans (Gy _).symm))
 refine Ak ⟨rfl,rfl,by rw[lV,hwl];omega⟩ ?_
 conv=>whnf
 (conv=>whnf);repeat' (first  |(refine kA ?_;conv=>whnf)|(refine Br.mk (fun hc=>?_) fun hc=>?_<;>first|exact hc.elim|conv=>whnf)|(refine kB ?_))
 refine⟨?_⟩
 refine⟨.inr rfl,_,rfl,rfl,?_⟩
 show AV.sl (decide (Fe (BQ q.A sn) q.B≠[])) (sub (vs (.int .i64) W) 0 (Fe (BQ q.A sn) q.B).length)=q.out
 rw[← hwl,uV]
 unfold CQ.out
 rw[hWs]
 have:Fe (BQ q.A sn) q.B≠[]↔Fe q.A q.B≠[]:=by
  rw[ne_eq,ne_eq,←List.length_eq_zero_iff,←List.length_eq_zero_iff,hW.length_eq]
 rw[decide_eq_decide.2 this]
theorem Ahu:Am Tryz.prog fun f' args s=>if f'=56 then MJ args s else none:=by
 intro f0 args s out s' h
 replace h:(if f0=56 then MJ args s else none)=some (out,s'):=h
 rcases Decidable.em (f0=56)with hf|hf
 case inr=>rw[if_neg hf]at h;cases h
 rw[if_pos hf]at h
 subst hf
 unfold MJ at h
 split at h
 case isFalse=>cases h
 rename_i hx
 have hcs:=Classical.choose_spec hx
 simp only[Option.some.injEq,Prod.mk.injEq]at h
 obtain⟨rfl,rfl⟩:=h
 generalize Classical.choose hx=q at hcs
 obtain⟨hq,rfl,rfl⟩:=hcs
 refine fun w0 B Z φ w vs hI hargs=>.inl ⟨⟨_,Tryz.func56,rfl,by decide⟩,?_⟩
 obtain⟨b,hb,hcm,hrs,_⟩:=SV x56.2
 obtain rfl:b=cb0:=by
  have:cF.body=some cb0:=by kernel_rfl
  exact Option.some.inj (hb.symm.trans this)
 refine(XF (R:=fun v=>v=q.out) Tryz.func56 hb hrs (of_decide_eq_true (by kernel_rfl)) (Ajk hq hcm) hI hargs).mono ?_
 rintro e w1 ⟨v,rfl,Z',φ',hI',hL,hR⟩
 exact⟨Z',φ',hI',hL,hR⟩
noncomputable def IJ:List (Nat×Hy):=(56,.ext MJ)::tab
theorem Ajl:Ac tab 56=none:=by kernel_rfl
theorem upM:∀f a,Ac tab f=some a→Ac IJ f=some a:=U2 Ajl
theorem Aas:OD Tryz.prog (Ac IJ):=by
 intro f a h
 simp only[IJ,Ac]at h
 cases hb:Nat.beq 56 f with
 |false=>rw[hb,cond_false]at h;exact Adm f a h
 |true=>
  rw[hb,cond_true]at h
  have e:=Nat.eq_of_beq_eq_true hb
  subst e
  cases h
  exact Ahu
theorem Ey (n:Nat):Am Tryz.prog (run (Ac IJ) n):=JF mixed Aas n
theorem AlP {q:CQ} (hq:q.ok):Ah (Ac IJ) 56 q.enc (· =q.out):=by
 refine⟨q.out,⟨1,?_⟩,rfl⟩
 have h1:run (Ac IJ) 1 56 q.enc ⟨[],0⟩=some (.ok q.out,⟨[],0⟩):=Zg hq
 simp only[CB,h1]
 rfl
end
section
open Go.RowKit Go.Sort
noncomputable def Ns (types:List (List UInt8)) (g:GG):NM:=g.nodes.map fun n=>(n.id,QC types g.edges n.id)
theorem Aks {types:List (List UInt8)} {g:GG}:AV.fmap (g.nodes.map fun n=>(.int .i64 n.id,.fmap (Cb (QC types g.edges n.id))))=nmV (Ns types g):=by
 unfold nmV Ns Ia
 rw[List.map_map]
 rfl
theorem Yw {α:Type} {M:List (Int×α)} {k:Int} {v:α} {x:Int} (h:x∈(EI M k v).map Prod.fst):x=k∨x∈M.map Prod.fst:=by
 induction M with
 |nil=>simp[EI]at h;exact .inl h
 |cons p M ih=>
  simp only[EI]at h
  split at h
  ·rename_i e
   simp only[List.map_cons,List.mem_cons]at h ⊢
   rcases h with h|h
   ·exact .inl h
   ·exact .inr (.inr h)
  ·simp only[List.map_cons,List.mem_cons]at h ⊢
   rcases h with h|h
   ·exact .inr (.inl h)
   ·rcases ih h with h|h
    ·exact .inl h
    ·exact .inr (.inr h)
theorem Aa8 {types:List (List UInt8)} {ids:List Int} {v x:Int}:∀{es:List GE} {L:Int→List (Int×Bool)},(∀ e∈es,e.fr∈ids∧e.to∈ids)→(∀ v x,x∈(L v).map Prod.fst→x∈ids)→x∈((es.foldl (I4 types) L) v).map Prod.fst→x∈ids
 |[],L,_,h,hx=>h v x hx
 |e::es,L,he,h,hx=>by
  refine Aa8 (es:=es) (L:=I4 types L e) (fun e' h'=>he e' (by simp[h'])) (fun u y hy=>?_) hx
  have hee:=he e (by simp)
  unfold I4 at hy
  split at hy
  ·dsimp only at hy
   split at hy
   ·rcases Yw hy with rfl|hy
    ·exact hee.1
    ·exact h _ _ hy
   ·split at hy
    ·rcases Yw hy with rfl|hy
     ·exact hee.2
     ·exact h _ _ hy
    ·exact h _ _ hy
  ·exact h _ _ hy
theorem Yx {types:List (List UInt8)} {g:GG} (hck:Bd g=0) {v:Int} (hv:v∈Ba g):Dz (Ns types g) v=some (QC types g.edges v):=by
 obtain⟨n,hn,rfl⟩:=List.mem_map.1 (show v∈g.nodes.map GN.id from hv)
 have hk:(Ns types g).map Prod.fst=Ba g:=by unfold Ns;rw[List.map_map];rfl
 exact O9 (p:=(n.id,QC types g.edges n.id)) (by rw[hk];exact VW hck) (List.mem_map.2 ⟨n,hn,rfl⟩)
noncomputable def Yy (types:List (List UInt8)) (g:GG) (v x:Int):Nat:=(Fe (QC types g.edges v) (QC types g.edges x)).length
def QU (f:Int→Nat) (L:List (Int×Bool)):Nat:=(L.map fun p=>f p.1).sum
noncomputable def twN (types:List (List UInt8)) (g:GG) (v:Int):Nat:=QU (Yy types g v) (QC types g.edges v)
noncomputable def YJ (types:List (List UInt8)) (g:GG):List (Int×Int):=g.nodes.map fun n=>(n.id,((twN types g n.id / 2:Nat):Int))
theorem Ack {f:Int→Nat} {L L':List (Int×Bool)} (h:L.Perm L'):QU f L=QU f L':=(h.map _).sum_nat
theorem Xa {f:Int→Nat} {b:Nat} (hf:∀x,f x≤b):∀{L:List (Int×Bool)},QU f L≤L.length*b
 |[]=>by simp[QU]
 |p::L=>by
  have:=Xa hf (L:=L)
  have h1:=hf p.1
  simp only[QU,List.map_cons,List.sum_cons,List.length_cons,Nat.succ_mul]at this ⊢
  omega
theorem Acl {f:Int→Nat} {A:List (Int×Bool)} {seen:List Nat} {i:Nat} (h:i<A.length):QU f (BQ A (seen++[i]))=QU f (BQ A seen)+f (A[i]).1:=by
 simp[QU,BQ,h]
structure TQ where
 g:GG
 tn:Bool
 types:List (List UInt8)
def TQ.enc (q:TQ):List AV:=[q.g.av,.sl q.tn (vs .str q.types)]
def TQ.ok (q:TQ):Prop:=q.g.ok∧q.g.nodes.length≤1000∧q.g.edges.length≤1000∧q.types.length<2^63
noncomputable def TQ.out (q:TQ):AV:=if Bd q.g=0 then .sl (decide (0<q.g.nodes.length)) (vs pv (YJ q.types q.g))else .sl false []
noncomputable abbrev tF:Func:=Tryz.f21
noncomputable abbrev tA:FQ:=x21.1
noncomputable abbrev tb0:Code:=Aar tF
noncomputable abbrev tb1:Code:=IE tb0
noncomputable abbrev tb2:Code:=IE tb1
noncomputable abbrev tb3:Code:=IE tb2
noncomputable abbrev tb4:Code:=IE tb3
noncomputable abbrev tb5:Code:=IE tb4
noncomputable abbrev te0:AQ:=tA.body
noncomputable abbrev te1:AQ:=KI te0
noncomputable abbrev te2:AQ:=KI te1
noncomputable abbrev te3:AQ:=KI te2
noncomputable abbrev te4:AQ:=KI te3
noncomputable abbrev te5:AQ:=KI te4
noncomputable abbrev tL:Code:=inC (inC (IE (Fb tb4)))
noncomputable abbrev tR1:Code:=IE tL
noncomputable abbrev tR2:Code:=IE tR1
noncomputable abbrev tBk:Code:=inC (Fb tR2)
noncomputable abbrev tB1:Code:=IE tBk
noncomputable abbrev YK:Code:=IE tB1
noncomputable abbrev tr0:Code:=Fb (Fb YK)
noncomputable abbrev trB:Code:=inC (inC (IE (Fb YK)))
noncomputable abbrev tr1:Code:=Fb trB
noncomputable abbrev trI:Code:=inC (IE (IE trB))
noncomputable abbrev tr2:Code:=Fb trI
noncomputable abbrev trX:Code:=IE trI
noncomputable abbrev uL:AQ:=inA (inA (KI (JE te4)))
noncomputable abbrev uR1:AQ:=KI uL
noncomputable abbrev uR2:AQ:=KI uR1
noncomputable abbrev uBk:AQ:=inA (JE uR2)
noncomputable abbrev uB1:AQ:=KI uBk
noncomputable abbrev uB2:AQ:=KI uB1
noncomputable abbrev urB:AQ:=inA (inA (KI (JE uB2)))
noncomputable abbrev urI:AQ:=inA (KI (KI urB))
noncomputable abbrev urX:AQ:=KI urI
theorem AeF:IE (Fb tb4)=.block 0 (.loop tL):=by kernel_rfl
theorem Agi:Fb tR2=.block 1 tBk:=by kernel_rfl
theorem Acm:Fb YK=.seq (.region (AbG tr0) (opsOf tr0) false) (.block 2 (.loop (.seq (.region (AbG tr1) (opsOf tr1) false) (.seq (.cond (.tmp 30) .skip (.exit 2)) (.block 3 (.seq (.region (AbG tr2) (opsOf tr2) false) trX)))))):=by kernel_rfl
theorem AeG {an:List EJ} (hc:BI Tryz.prog tF.ntmps an (Fb YK)=some (JE uB2)):BI Tryz.prog tF.ntmps an trX=some urX:=by
 have d1:=(Bo (x:=tr0) (y:=IE (Fb YK)) (a:=JE (JE uB2)) (b:=KI (JE uB2)) hc).2
 have d2:=FX (i:=2) (j:=2) (x:=inC (IE (Fb YK))) (a:=inA (KI (JE uB2))) d1
 have d3:=NQ (l:=[5,6,8,9,18,19,20,28]) (x:=trB) (a:=urB) d2
 have d4:=(Bo (x:=tr1) (y:=IE trB) (a:=JE urB) (b:=KI urB) d3).2
 have d5:=(Bo (x:=Fb (IE trB)) (y:=IE (IE trB)) (a:=JE (KI urB)) (b:=KI (KI urB)) d4).2
 have d6:=FX (i:=3) (j:=3) (x:=trI) (a:=urI) d5
 exact(Bo (x:=tr2) (y:=trX) (a:=JE urI) (b:=urX) d6).2
set_option maxHeartbeats 4000000 in
set_option maxRecDepth 10000 in
theorem AeH {types:List (List UInt8)} {g:GG} (hck:Bd g=0) (hE:g.edges.length≤1000) {i:Nat} (hi:i<g.nodes.length) {ob0 VR:Obj} {g1 no:Nat} {nn:Bool} {xs:List AV} {nc:Int} {gn c:Nat} {an:List EJ} (hc:BI Tryz.prog tF.ntmps an (Fb YK)=some (JE uB2)) {Q:AB→Env→Aj→Prop}
 (hQ:∀c' x,Q .normal [(30,.bool false),(29,.junk),(5,nmV (Ns types g)),(6,.own 1 g1 0 no),(8,.ref 2 gn 0 0),(9,.int .i64 (twN types g (g.nodes[i]).id)),(18,.sl nn xs),(19,.int .i64 nc),(20,.int .i64 i),(28,.ref 3 c 0 0)] ⟨[ob0,VR,.arr gn 3 true true [(g.nodes[i]).av],.raw c x],c'⟩):
 AW Tryz.prog tF.ntmps (Fb YK) [(5,nmV (Ns types g)),(6,.own 1 g1 0 no),(8,.ref 2 gn 0 0),(9,.int .i64 0),(18,.sl nn xs),(19,.int .i64 nc),(20,.int .i64 i)] ⟨[ob0,VR,.arr gn 3 true true [(g.nodes[i]).av]],c⟩ Q:=by
 have hid:(g.nodes[i]).id∈Ba g:=List.mem_map.2 ⟨_,List.getElem_mem hi,rfl⟩
 have hA:=Yx (types:=types) hck hid
 have hlA:∀v,(QC types g.edges v).length≤1000:=fun v=>Nat.le_trans (WQ (n:=0) (fun _=>Nat.le_refl _)) (by omega)
 have hcl:∀x,Yy types g (g.nodes[i]).id x≤1000:=fun x=>Nat.le_trans Rh (hlA _)
 rw[Acm]
 obtain⟨A,hAe⟩:∃A,A=QC types g.edges (g.nodes[i]).id:=⟨_,rfl⟩
 rw[← hAe]at hA
 refine AW.range (AP:=Ac IJ) Ey mixed (anA:=[]) (anB:=[]) (it:=28) (nx:=29) (more:=30) (pair:=31) (XE:=[J6 tr0 0,J6 tr0 1,J6 tr0 2,J6 tr0 3]) (oR:=J6 tr0 4) (oN:=J6 tr1 0) (oX:=J6 tr1 1) (oE:=J6 tr2 0) (Zh:=[J6 tr2 1,J6 tr2 2])
  (Adk:=[⟨some 24,.YH (.tmp 5),none⟩,⟨some 25,.Qq 0 (.tmp 8),none⟩,⟨some 26,.load none (.tmp 25),none⟩,⟨some 27,.lookup .int .CJ false (.tmp 24) (.tmp 26),none⟩]) (Adl:=[⟨some 32,.ext (.tmp 31) 0,none⟩,⟨some 10,.YH (.tmp 32),none⟩])
  (t:=112) (kt:=3) (et:=4) (xm:=.tmp 27) (am:=.tmp 27)
  (by kernel_rfl) (by kernel_rfl) (by kernel_rfl) (by kernel_rfl) (by kernel_rfl) (by kernel_rfl) (by kernel_rfl) (of_decide_eq_true (by kernel_rfl))
  (by kernel_rfl) (by kernel_rfl) (by kernel_rfl) (by kernel_rfl) (by kernel_rfl) (by kernel_rfl) (by kernel_rfl) (of_decide_eq_true (by kernel_rfl)) (of_decide_eq_true (by kernel_rfl)) (by decide)
  (by kernel_rfl) (by kernel_rfl) (by kernel_rfl) (by kernel_rfl) (of_decide_eq_true (by kernel_rfl)) (by kernel_rfl) (AeG hc) (fz:=[]) rfl (L:=[5,6,8,9,18,19,20,28]) (ents:=Cb A)
  (J:=fun x seen env s=>∃(c':Nat),seen.Nodup∧(∀ j∈seen,j<A.length)∧env=[(5,nmV (Ns types g)),(6,.own 1 g1 0 no),(8,.ref 2 gn 0 0),(9,.int .i64 (QU (Yy types g (g.nodes[i]).id) (BQ A seen))),(18,.sl nn xs),(19,.int .i64 nc),(20,.int .i64 i),(28,.ref 3 c 0 0)]∧s=⟨[ob0,VR,.arr gn 3 true true [(g.nodes[i]).av],.raw c x],c'⟩) ?_
 refine Gz ?_
 conv=>whnf
 (conv=>whnf);repeat' (first|(refine fkM hA (fun _=>?_);conv=>whnf)|(refine kA ?_;conv=>whnf)|(refine Br.mk (fun hc=>?_) fun hc=>?_<;>first|exact hc.elim|conv=>whnf)|(refine kB ?_))
 refine⟨rfl,rfl,_,_,rfl,rfl,fun x=>⟨_,List.nodup_nil,by simp,rfl,rfl⟩,?_,?_,?_⟩
 ·rintro x seen env s ⟨c',_,_,rfl,rfl⟩
  exact⟨rfl,rfl⟩
 ·rintro x x' seen k env s e ⟨c',hnd,hlt,rfl,rfl⟩ he hins
  obtain⟨hk,rfl⟩:∃h:k<A.length,e=(AV.int .i64 (A[k]).1,AV.bool (A[k]).2):=by
   rw[Ar]at he
   obtain⟨h,rfl⟩:=List.getElem?_eq_some_iff.1 he
   have h2:k<A.length:=by simpa[Cb,Ia]using h
   exact⟨h2,by simp[Cb,Ia]⟩
  have hsl:=XD hnd hlt
  have Afv:(seen++[k]).Nodup:=List.nodup_append.2 ⟨hnd,by simp,fun x hx y hy=>by simp at hy;subst hy;rintro rfl;exact hins hx⟩
  have hlt2:∀j∈seen++[k],j<A.length:=fun j hj=>by
   rcases List.mem_append.1 hj with hj|hj
   ·exact hlt j hj
   ·simp at hj;omega
  have hxs:∀p∈A,p.1∈Ba g:=by
   rw[hAe]
   exact fun p hp=>Aa8 (types:=types) (es:=g.edges) (L:=fun _=>[]) (v:=(g.nodes[i]).id) (Lc hck) (fun v x h=>by cases h) (List.mem_map.2 ⟨p,hp,rfl⟩)
  have hx:=hxs _ (List.getElem_mem hk)
  have hB:=Yx (types:=types) hck hx
  have AoY:A.length≤1000:=by rw[hAe];exact hlA _
  have pC:=AlP (q:=⟨Ns types g,(g.nodes[i]).id,(A[k]).1,A,QC types g.edges (A[k]).1⟩) ⟨hA,hB,by show A.length≤100000;omega⟩
  have hsum:=Acl (f:=Yy types g (g.nodes[i]).id) (seen:=seen) hk
  have hb1:=Xa hcl (L:=BQ A seen)
  have hb2:=hcl (A[k]).1
  have hb3:(BQ A seen).length=seen.length:=by simp[BQ]
  have hlen:∀x,(Gf (Fe A (QC types g.edges x))).length=Yy types g (g.nodes[i]).id x:=fun x=>by
   rw[(Gy _).length_eq,hAe];rfl
  have hmul:seen.length*1000≤1000*1000:=Nat.mul_le_mul_right _ (by omega)
  rw[hb3]at hb1
  have hw:IntKind.i64.wrap (((QU (Yy types g (g.nodes[i]).id) (BQ A seen):Nat):Int)+(((Gf (Fe A (QC types g.edges (A[k]).1))).length:Nat):Int))=((QU (Yy types g (g.nodes[i]).id) (BQ A (seen++[k])):Nat):Int):=by
   rw[hlen,hsum,wrap_i64 (by omega) (by omega)]
   rfl
  refine⟨0,_,_,_,rfl,rfl,G8 ?_⟩
  conv=>whnf
  (conv=>whnf);repeat' (first|(refine Aa pC ?_;rintro _ rfl;conv=>whnf)|(refine CW hw ?_;conv=>whnf)|(refine kA ?_;conv=>whnf)|(refine Br.mk (fun hc=>?_) fun hc=>?_<;>first|exact hc.elim|conv=>whnf)|(refine kB ?_))
  exact⟨.inl rfl,_,Afv,hlt2,rfl,rfl⟩
 ·rintro x seen env s ⟨c',hnd,hlt,rfl,rfl⟩ hp
  have hl:(Cb A).length=A.length:=by simp[Cb,Ia]
  rw[hl]at hp
  rw[Ack (NS hp),hAe]
  exact hQ c' x
theorem Po {types:List (List UInt8)} {g:GG}:(YJ types g).length=g.nodes.length:=List.length_map _
set_option maxHeartbeats 4000000 in
set_option maxRecDepth 10000 in
theorem Akv {q:TQ} (hq:q.ok) {an:List EJ} (hc:BI Tryz.prog tF.ntmps an tb0=some te0):AW Tryz.prog tF.ntmps tb0 (params q.enc 0) ⟨[],0⟩ fun e env s=>(e=.normal∨e=.ret)∧∃vs,Fg env s tA.results=some vs∧(DY vs).closed=true∧DY vs=q.out:=by
 obtain⟨g,tn,types⟩:=q
 obtain⟨hg,hN,hE,ht⟩:=hq
 dsimp only at hg hN hE ht
 have c0:=Bo (x:=Fb tb0) (y:=tb1) (a:=JE te0) (b:=te1) hc
 have c1:=Bo (x:=Fb tb1) (y:=tb2) (a:=JE te1) (b:=te2) c0.2
 have c2:=Bo (x:=Fb tb2) (y:=tb3) (a:=JE te2) (b:=te3) c1.2
 have c3:=Bo (x:=Fb tb3) (y:=tb4) (a:=JE te3) (b:=te4) c2.2
 have c4:=Bo (x:=Fb tb4) (y:=tb5) (a:=JE te4) (b:=te5) c3.2
 have d1:=Bo (x:=Fb (Fb tb4)) (y:=IE (Fb tb4)) (a:=JE (JE te4)) (b:=KI (JE te4)) c4.1
 have d2:=FX (i:=0) (j:=0) (x:=inC (IE (Fb tb4))) (a:=inA (KI (JE te4))) d1.2
 have d3:=NQ (l:=[5,6,18,19,20]) (x:=tL) (a:=uL) d2
 have d4:=Bo (x:=Fb tL) (y:=tR1) (a:=JE uL) (b:=uR1) d3
 have d5:=Bo (x:=Fb tR1) (y:=tR2) (a:=JE uR1) (b:=uR2) d4.2
 have d6:=Bo (x:=Fb tR2) (y:=IE tR2) (a:=JE uR2) (b:=KI uR2) d5.2
 have d7:=FX (i:=1) (j:=1) (x:=tBk) (a:=uBk) d6.1
 have d8:=Bo (x:=Fb tBk) (y:=tB1) (a:=JE uBk) (b:=uB1) d7
 have d9:=Bo (x:=Fb tB1) (y:=YK) (a:=JE uB1) (b:=uB2) d8.2
 have d10:=Bo (x:=Fb YK) (y:=IE YK) (a:=JE uB2) (b:=KI uB2) d9.2
 have pK:=(V9 hg).up upM
 refine AW.go (AP:=Ac IJ) (x:=Fb tb0) (y:=tb1) Ey mixed c0.1 ?_
 conv=>whnf
 (conv=>whnf);repeat' (first  |(refine kA ?_;conv=>whnf)|(refine Br.mk (fun hc=>?_) fun hc=>?_<;>first|exact hc.elim|conv=>whnf)|(refine kB ?_))
 refine⟨?_⟩
 show AW _ _ tb1 _ _ _
 refine AW.go (AP:=Ac IJ) (x:=Fb tb1) (y:=tb2) Ey mixed c1.1 ?_
 by_cases hck:Bd g=0
 case neg=>
  generalize he:Bd g=ee at pK hck
  conv=>whnf
  (conv=>whnf);repeat' (first|(refine Aa pK ?_;rintro _ rfl;conv=>whnf)|(refine kA ?_;conv=>whnf)|(refine Br.mk (fun hc=>?_) fun hc=>?_<;>first|exact hc.elim|conv=>whnf)|(refine kB ?_))
  all_goals first
   |(exfalso;omega)
   |(refine ⟨?_⟩;exact⟨.inr rfl,_,rfl,rfl,by unfold TQ.out;rw[if_neg (by dsimp only;rw[he];exact hck)];rfl⟩)
 have pNb:=(ZK (tn:=tn) hg hN hE hck ht).up upM
 rw[Aks]at pNb
 rw[hck]at pK
 conv=>whnf
 (conv=>whnf);repeat' (first|(refine Aa pK ?_;rintro _ rfl;conv=>whnf)|(refine kA ?_;conv=>whnf)|(refine Br.mk (fun hc=>?_) fun hc=>?_<;>first|exact hc.elim|conv=>whnf)|(refine kB ?_))
 refine⟨?_⟩
 show AW _ _ tb2 _ _ _
 refine AW.go (AP:=Ac IJ) (x:=Fb tb2) (y:=tb3) Ey mixed c2.1 ?_
 conv=>whnf
 (conv=>whnf);repeat' (first|(refine Aa pNb ?_;rintro _ rfl;conv=>whnf)|(refine kA ?_;conv=>whnf)|(refine Br.mk (fun hc=>?_) fun hc=>?_<;>first|exact hc.elim|conv=>whnf)|(refine kB ?_))
 refine⟨?_⟩
 show AW _ _ tb3 _ _ _
 refine AW.go (AP:=Ac IJ) (x:=Fb tb3) (y:=tb4) Ey mixed c3.1 ?_
 conv=>whnf
 (conv=>whnf);repeat' (first  |(refine kA ?_;conv=>whnf)|(refine Br.mk (fun hc=>?_) fun hc=>?_<;>first|exact hc.elim|conv=>whnf)|(refine kB ?_))
 refine⟨?_⟩
 show AW _ _ tb4 _ _ _
 refine AW.seq (x:=Fb tb4) (y:=tb5) ?_
 refine AW.go (AP:=Ac IJ) (x:=Fb (Fb tb4)) (y:=IE (Fb tb4)) Ey mixed d1.1 ?_
 conv=>whnf
 (conv=>whnf);repeat' (first  |(refine kA ?_;conv=>whnf)|(refine Br.mk (fun hc=>?_) fun hc=>?_<;>first|exact hc.elim|conv=>whnf)|(refine kB ?_))
 refine⟨?_⟩
 show AW _ _ (IE (Fb tb4)) _ _ _
 rw[AeF]
 refine AW.block ?_
 refine AW.loop (fun m env s=>∃(i c g1:Nat),m=g.nodes.length-i∧i≤g.nodes.length∧env=[(5,nmV (Ns types g)),(6,.own 1 g1 0 i),(18,.sl g.nn (vs GN.av g.nodes)),(19,.int .i64 g.nodes.length),(20,.int .i64 i)]∧s=⟨[.arr 0 4 true true [g.av],.arr g1 2 (decide (0<i)) true (vs pv ((YJ types g).take i))],c⟩) ?_ (m:=g.nodes.length) ⟨0,_,_,rfl,by omega,rfl,rfl⟩
 rintro _ _ _ ⟨i,c,g1,rfl,hi,rfl,rfl⟩
 have htk:((YJ types g).take i).length=i:=by rw[List.length_take,Po];omega
 refine AW.go (AP:=Ac IJ) (x:=Fb tL) (y:=tR1) Ey mixed d4.1 ?_
 by_cases hlt:i<g.nodes.length
 case neg=>
  have hie:i=g.nodes.length:=by omega
  subst hie
  rw[List.take_of_length_le (by rw[Po];exact Nat.le_refl _)]
  conv=>whnf
  (conv=>whnf);repeat' (first  |(refine kA ?_;conv=>whnf)|(refine Br.mk (fun hc=>?_) fun hc=>?_<;>first|exact hc.elim|conv=>whnf)|(refine kB ?_))
  all_goals first|(exfalso;omega)|skip
  refine⟨?_⟩
  show AW _ _ tR1 _ _ _
  refine AW.go (AP:=Ac IJ) (x:=Fb tR1) (y:=tR2) Ey mixed d5.1 ?_
  conv=>whnf
  (conv=>whnf);repeat' (first  |(refine kA ?_;conv=>whnf)|(refine Br.mk (fun hc=>?_) fun hc=>?_<;>first|exact hc.elim|conv=>whnf)|(refine kB ?_))
  refine⟨?_⟩
  refine .inr ⟨(fun h=>by cases h),?_⟩
  show AW _ _ tb5 _ _ _
  refine AW.fin (AP:=Ac IJ) (x:=tb5) Ey mixed c4.2 ?_
  conv=>whnf
  (conv=>whnf);repeat' (first  |(refine kA ?_;conv=>whnf)|(refine Br.mk (fun hc=>?_) fun hc=>?_<;>first|exact hc.elim|conv=>whnf)|(refine kB ?_))
  have htS:sub (vs pv (YJ types g)) 0 g.nodes.length=vs pv (YJ types g):=by
   have:sub (vs pv (YJ types g)) 0 (YJ types g).length=vs pv (YJ types g):=uV
   rwa [Po]at this
  refine Ak ⟨rfl,rfl,by rw[lV,Po];omega⟩ ?_
  conv=>whnf
  refine AU htS ?_
  conv=>whnf
  (conv=>whnf);repeat' (first  |(refine kA ?_;conv=>whnf)|(refine Br.mk (fun hc=>?_) fun hc=>?_<;>first|exact hc.elim|conv=>whnf)|(refine kB ?_))
  refine⟨?_⟩
  exact⟨.inr rfl,_,rfl,rfl,by unfold TQ.out;rw[if_pos hck];rfl⟩
 conv=>whnf
 (conv=>whnf);repeat' (first  |(refine kA ?_;conv=>whnf)|(refine Br.mk (fun hc=>?_) fun hc=>?_<;>first|exact hc.elim|conv=>whnf)|(refine kB ?_))
 all_goals first|(exfalso;omega)|skip
 refine⟨?_⟩
 show AW _ _ tR1 _ _ _
 refine AW.go (AP:=Ac IJ) (x:=Fb tR1) (y:=tR2) Ey mixed d5.1 ?_
 conv=>whnf
 (conv=>whnf);repeat' (first  |(refine kA ?_;conv=>whnf)|(refine Br.mk (fun hc=>?_) fun hc=>?_<;>first|exact hc.elim|conv=>whnf)|(refine kB ?_))
 refine⟨?_⟩
 show AW _ _ tR2 _ _ _
 refine AW.seq (x:=Fb tR2) (y:=IE tR2) ?_
 rw[Agi]
 refine AW.block ?_
 refine AW.go (AP:=Ac IJ) (x:=Fb tBk) (y:=tB1) Ey mixed d8.1 ?_
 conv=>whnf
 (conv=>whnf);repeat' (first  |(refine kA ?_;conv=>whnf)|(refine Br.mk (fun hc=>?_) fun hc=>?_<;>first|exact hc.elim|conv=>whnf)|(refine kB ?_))
 refine⟨?_⟩
 show AW _ _ tB1 _ _ _
 refine AW.go (AP:=Ac IJ) (x:=Fb tB1) (y:=YK) Ey mixed d9.1 ?_
 conv=>whnf
 (conv=>whnf);repeat' (first  |(refine kA ?_;conv=>whnf)|(refine Br.mk (fun hc=>?_) fun hc=>?_<;>first|exact hc.elim|conv=>whnf)|(refine kB ?_))
 refine⟨?_⟩
 refine AW.seq (x:=Fb YK) (y:=IE YK) (AeH hck hE hlt d10.1 fun c' x=>?_)
 show AW _ _ (IE YK) _ _ _
 have htw:twN types g (g.nodes[i]).id<2^62:=by
  have hlA:∀v,(QC types g.edges v).length≤1000:=fun v=>Nat.le_trans (WQ (n:=0) (fun _=>Nat.le_refl _)) (by omega)
  have h1:=Xa (f:=Yy types g (g.nodes[i]).id) (b:=1000) (fun x=>Nat.le_trans Rh (hlA _)) (L:=QC types g.edges (g.nodes[i]).id)
  have h2:=Nat.mul_le_mul_right 1000 (hlA (g.nodes[i]).id)
  unfold twN
  omega
 have hsn:(YJ types g).take (i+1)=(YJ types g).take i++[((g.nodes[i]).id,((twN types g (g.nodes[i]).id / 2:Nat):Int))]:=by
  rw[List.take_succ_eq_append_getElem (by rw[Po];exact hlt)];unfold YJ;rw[List.getElem_map]
 refine AW.fin (AP:=Ac IJ) (x:=IE YK) Ey mixed d10.2 ?_
 conv=>whnf
 (conv=>whnf);repeat' (first|(refine Akm (twN types g (g.nodes[i]).id) 2 rfl (by omega) ?_;conv=>whnf)|(refine Sm (f:=pv) (l:=(YJ types g).take i) (x:=((g.nodes[i]).id,((twN types g (g.nodes[i]).id / 2:Nat):Int))) Agj (by rw[htk]) (by rw[htk];omega) ?_;conv=>whnf)|(refine kA ?_;conv=>whnf)|(refine Br.mk (fun hc=>?_) fun hc=>?_<;>first|exact hc.elim|conv=>whnf)|(refine kB ?_))
 refine⟨?_⟩
 show AW _ _ (IE tR2) _ _ _
 refine AW.fin (AP:=Ac IJ) (x:=IE tR2) Ey mixed d6.2 ?_
 conv=>whnf
 (conv=>whnf);repeat' (first  |(refine kA ?_;conv=>whnf)|(refine Br.mk (fun hc=>?_) fun hc=>?_<;>first|exact hc.elim|conv=>whnf)|(refine kB ?_))
 refine⟨?_⟩
 rw[htk,←hsn]
 exact .inl ⟨rfl,g.nodes.length-(i+1),by omega,i+1,_,_,rfl,by omega,rfl,by rw[decide_eq_true (show 0<i+1 by omega)]⟩
noncomputable def MQ (args:List AV) (s:Aj):Option (AA×Aj):=by
 classical exact if h:∃q:TQ,q.ok∧args=q.enc∧s=⟨[],0⟩then some (.ok (Classical.choose h).out,⟨[],0⟩)else none
theorem GP.Jr {p q:GP} (h:p.av=q.av):p=q:=by
 obtain⟨k,a,b,c,d,e,f⟩:=p
 obtain⟨k',a',b',c',d',e',f'⟩:=q
 simp only[GP.av,AV.agg.injEq,List.cons.injEq,AV.str.injEq,AV.int.injEq,AV.sl.injEq,and_true,true_and]at h
 obtain⟨rfl,rfl,rfl,rfl,rfl,rfl,rfl⟩:=h
 rfl
theorem KE {α:Type} {f:α→AV} (hf:∀a b,f a=f b→a=b):∀{l m:List α},vs f l=vs f m→l=m
 |[],[],_=>rfl
 |[],_::_,h=>by cases h
 |_::_,[],h=>by cases h
 |a::l,b::m,h=>by
  simp only[vs,List.map_cons,List.cons.injEq]at h
  rw[hf _ _ h.1,KE hf h.2]
theorem GN.Jr {p q:GN} (h:p.av=q.av):p=q:=by
 obtain⟨a,b,c,d,e⟩:=p
 obtain⟨a',b',c',d',e'⟩:=q
 simp only[GN.av,AV.agg.injEq,List.cons.injEq,AV.int.injEq,AV.sl.injEq,and_true,true_and]at h
 obtain⟨rfl,⟨rfl,h1⟩,rfl,h2⟩:=h
 obtain rfl:=KE (fun a b h=>AV.str.inj h) h1
 obtain rfl:=KE (fun a b h=>GP.Jr h) h2
 rfl
theorem GE.Jr {p q:GE} (h:p.av=q.av):p=q:=by
 obtain⟨a,b,c,d,e,f⟩:=p
 obtain⟨a',b',c',d',e',f'⟩:=q
 simp only[GE.av,AV.agg.injEq,List.cons.injEq,AV.int.injEq,AV.str.injEq,AV.sl.injEq,and_true,true_and]at h
 obtain⟨rfl,rfl,rfl,rfl,rfl,h2⟩:=h
 obtain rfl:=KE (fun a b h=>GP.Jr h) h2
 rfl
theorem GG.Jr {p q:GG} (h:p.av=q.av):p=q:=by
 obtain⟨a,b,c,d,e,f⟩:=p
 obtain⟨a',b',c',d',e',f'⟩:=q
 simp only[GG.av,AV.agg.injEq,List.cons.injEq,AV.int.injEq,AV.sl.injEq,and_true,true_and]at h
 obtain⟨⟨rfl,h1⟩,⟨rfl,h2⟩,rfl,rfl⟩:=h
 obtain rfl:=KE (fun a b h=>GN.Jr h) h1
 obtain rfl:=KE (fun a b h=>GE.Jr h) h2
 rfl
theorem TQ.Wi {p q:TQ} (h:p.enc=q.enc):p=q:=by
 obtain⟨a,c,d⟩:=p
 obtain⟨a',c',d'⟩:=q
 simp only[TQ.enc,List.cons.injEq,AV.sl.injEq,and_true]at h
 obtain⟨h1,rfl,h2⟩:=h
 obtain rfl:=GG.Jr h1
 obtain rfl:=KE (fun a b h=>AV.str.inj h) h2
 rfl
theorem ZY {q:TQ} (hq:q.ok):MQ q.enc ⟨[],0⟩=some (.ok q.out,⟨[],0⟩):=by
 have hx:∃p:TQ,p.ok∧q.enc=p.enc∧(⟨[],0⟩:Aj)=⟨[],0⟩:=⟨q,hq,rfl,rfl⟩
 unfold MQ
 rw[dif_pos hx]
 have:=TQ.Wi (Classical.choose_spec hx).2.1
 rw[← this]
theorem Aiy:Am Tryz.prog fun f' args s=>if f'=21 then MQ args s else none:=by
 intro f0 args s out s' h
 replace h:(if f0=21 then MQ args s else none)=some (out,s'):=h
 rcases Decidable.em (f0=21)with hf|hf
 case inr=>rw[if_neg hf]at h;cases h
 rw[if_pos hf]at h
 subst hf
 unfold MQ at h
 split at h
 case isFalse=>cases h
 rename_i hx
 have hcs:=Classical.choose_spec hx
 simp only[Option.some.injEq,Prod.mk.injEq]at h
 obtain⟨rfl,rfl⟩:=h
 generalize Classical.choose hx=q at hcs
 obtain⟨hq,rfl,rfl⟩:=hcs
 refine fun w0 B Z φ w vs hI hargs=>.inl ⟨⟨_,Tryz.func21,rfl,by decide⟩,?_⟩
 obtain⟨b,hb,hcm,hrs,_⟩:=SV x21.2
 obtain rfl:b=tb0:=by
  have:tF.body=some tb0:=by kernel_rfl
  exact Option.some.inj (hb.symm.trans this)
 refine(XF (R:=fun v=>v=q.out) Tryz.func21 hb hrs (of_decide_eq_true (by kernel_rfl)) (Akv hq hcm) hI hargs).mono ?_
 rintro e w1 ⟨v,rfl,Z',φ',hI',hL,hR⟩
 exact⟨Z',φ',hI',hL,hR⟩
noncomputable def TU:List (Nat×Hy):=(21,.ext MQ)::IJ
theorem Akw:Ac IJ 21=none:=by kernel_rfl
theorem upT:∀f a,Ac IJ f=some a→Ac TU f=some a:=U2 Akw
theorem upC:∀f a,Ac tab f=some a→Ac TU f=some a:=fun f a h=>upT f a (upM f a h)
theorem Agk:OD Tryz.prog (Ac TU):=by
 intro f a h
 simp only[TU,Ac]at h
 cases hb:Nat.beq 21 f with
 |false=>rw[hb,cond_false]at h;exact Aas f a h
 |true=>
  rw[hb,cond_true]at h
  have e:=Nat.eq_of_beq_eq_true hb
  subst e
  cases h
  exact Aiy
theorem Af6 (n:Nat):Am Tryz.prog (run (Ac TU) n):=JF mixed Agk n
theorem TQ.closed (q:TQ):q.out.closed=true:=by unfold TQ.out;split<;>rfl
theorem Z4 {q:TQ} (hq:q.ok):Ah (Ac TU) 21 q.enc (· =q.out):=by
 refine⟨q.out,⟨1,?_⟩,rfl⟩
 have h1:run (Ac TU) 1 21 q.enc ⟨[],0⟩=some (.ok q.out,⟨[],0⟩):=ZY hq
 simp only[CB,h1]
 unfold TQ.out
 split<;>rfl
end
def NR (types:List (List UInt8)) (es:List GE) (x y:Int):Prop:=x≠y∧(JN types es x y∨JN types es y x)
noncomputable instance (types:List (List UInt8)) (es:List GE) (x y:Int):Decidable (NR types es x y):=Classical.propDecidable _
theorem Ahn {types:List (List UInt8)} {es:List GE} {a b:Int}:JN types es a b↔∃e∈es,JP types a b e:=by
 constructor
 ·rintro⟨i,h,hp⟩
  exact⟨_,List.getElem_mem h,hp⟩
 ·rintro⟨e,he,hp⟩
  obtain⟨i,h,rfl⟩:=List.getElem_of_mem he
  exact⟨i,h,hp⟩
structure Ya (L:List (Int×Bool)):Prop where
 nd:(L.map Prod.fst).Nodup
 tt:∀p∈L,p.2=true
theorem AfU {α:Type} {M:List (Int×α)} {k:Int} {v:α} (h:Dz M k=some v):(k,v)∈M:=by
 induction M with
 |nil=>cases h
 |cons p M ih=>
  simp only[Dz]at h
  split at h
  ·rename_i e
   cases h
   rw[e]
   exact List.mem_cons_self
  ·exact List.mem_cons_of_mem _ (ih h)
theorem Ya.put {L:List (Int×Bool)} (h:Ya L) (k:Int):Ya (EI L k true):=by
 have hn:((EI L k true).map Prod.fst).Nodup:=Zl h.nd k true
 refine⟨hn,fun p hp=>?_⟩
 have h1:=O9 hn hp
 rw[JI]at h1
 split at h1
 ·exact(Option.some.inj h1).symm
 ·exact h.tt _ (AfU h1)
theorem Ya.has {L:List (Int×Bool)} (h:Ya L) (x:Int):hasB L x=decide (x∈L.map Prod.fst):=by
 unfold hasB
 by_cases hx:x∈L.map Prod.fst
 ·rw[decide_eq_true hx]
  obtain⟨p,hp,rfl⟩:=List.mem_map.1 hx
  rw[O9 h.nd hp,h.tt p hp]
  rfl
 ·rw[decide_eq_false hx,MK.2 hx]
  rfl
def idA (g:GG) (k:Nat):Int:=(g.nodes.map GN.id).getD k 0
theorem Js {g:GG} {k:Nat} (h:k<g.nodes.length):idA g k=(g.nodes[k]).id:=by simp[idA,h]
theorem Afp {g:GG} (hck:Bd g=0) {i k:Nat} (hi:i<g.nodes.length) (hk:k<g.nodes.length):idA g i=idA g k↔i=k:=by
 rw[Js hi,Js hk]
 refine⟨fun h=>?_,fun h=>by subst h;rfl⟩
 have hnd:=VW hck
 have h1:(Ba g)[i]'(by rw[CV];exact hi)=(Ba g)[k]'(by rw[CV];exact hk):=by rw[Gg hi,Gg hk,h]
 exact(List.getElem_inj hnd).1 h1
end AI
end Go.Proofs.YtchcadfjbkkgmaaGreatDoor
