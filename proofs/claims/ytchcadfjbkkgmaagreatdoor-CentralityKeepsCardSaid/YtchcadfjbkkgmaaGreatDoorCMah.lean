/- A call of an entry that the model answers. Sorting in place: lists of a store against arrays of the library's plain sort. Sorting numbers in place: the order. Sorting numbers in place: slices.Sort as an entry of the table. common: an entry of a greater table. Triangles of the program: an entry of a greater table. -/
import Derived.Test.YtchcadfjbkkgmaaGreatDoorCVa
import Derived.Test.YtchcadfjbkkgmaaGreatDoorCGrCode
import Derived.Test.YtchcadfjbkkgmaaGreatDoorCMaa
import Derived.Sort.AssemblyPlain
import Derived.Test.YtchcadfjbkkgmaaGreatDoorCSqI
import Derived.Test.YtchcadfjbkkgmaaGreatDoorCMag
import Derived.Test.YtchcadfjbkkgmaaGreatDoorCNd
set_option linter.unusedVariables false
set_option maxRecDepth 4000
namespace Go.Proofs.YtchcadfjbkkgmaaGreatDoor
namespace AI
theorem Kw {AP:Nat→Option G9} {f:Nat} {sp:List AV→Am→Option (AX×Am)} {args:List AV} {s s':Am} {out:AX} {K:AX→Am→Prop} (hf:AP f=some (.ext sp)) (h:sp args s=some (out,s')) (hK:K out s'):A8 AP f args s K:=
 ⟨1,out,s',by simp only[run,hf];exact h,hK⟩
section
open Go.Sort
section
variable {α:Type} [Inhabited α] {f:α→AV}
@[simp] theorem Uw (d:Array α) (i j:Nat):(swp d i j).size=d.size:=by simp[swp]
variable {lt:α→α→Bool} {a b i j hi first root:Nat} {d:Array α}
@[simp] theorem YQ:∀{j:Nat} {d:Array α},(insInner lt a j d).size=d.size
 |0,d=>rfl
 |j+1,d=>by
  rw[insInner]
  split
  ·rw[YQ,Uw]
  ·rfl
theorem Afc (h:hi≤2*root+1):siftDown lt hi first root d=d:=by
 rw[siftDown,dif_pos h]
theorem YR {lt:α→α→Bool} {hi first:Nat}:∀(n root:Nat) (d:Array α),hi-root≤n→(siftDown lt hi first root d).size=d.size:=by
 intro n
 induction n with
 |zero=>intro root d h;rw[Afc (by omega)]
 |succ n ih=>
  intro root d h
  rw[siftDown]
  split
  ·rfl
  ·split
   ·split
    ·rfl
    ·split
     ·rw[ih _ _ (by omega),Uw]
     ·rfl
   ·split
    ·rfl
    ·rw[ih _ _ (by omega),Uw]
@[simp] theorem Aht:(siftDown lt hi first root d).size=d.size:=YR (hi-root) root d (Nat.le_refl _)
@[simp] theorem Xr:∀{k:Nat} {d:Array α},(heapBuild lt hi first k d).size=d.size
 |0,d=>rfl
 |k+1,d=>by rw[heapBuild,Xr,Aht]
end
theorem Al2 {z:Int} {K:AV→Prop} (n k:Nat) (hz:z=n) (h:n<2^63) (h2:K (.int .i64 ((n / k:Nat):Int))):Ko .i64 (z.tdiv k) K:=by
 subst hz
 have e:(n:Int).tdiv k=((n / k:Nat):Int):=by
  rw[Int.tdiv_eq_ediv_of_nonneg (by omega)];rfl
 rw[e]
 have h3:n / k≤n:=Nat.div_le_self ..
 revert h2 h3 e
 generalize n / k=m
 intro h2 e h3
 exact DC (wrap_i64 (by omega) (by omega)) h2
end
section
open Go.Sort
def ltJ (x y:Int):Bool:=decide (x<y)
theorem AbZ {x y:Int}:ltJ x y=true↔x<y:=by unfold ltJ;rw[decide_eq_true_eq]
theorem AaQ {x y:Int}:ltJ x y=false↔¬x<y:=by rw[← AbZ];simp
theorem Apw {x:Int}:Af (Ad tab) 106 [.int .i64 x] (· =.bool (decide False)):=by
 refine Ac rfl rfl ?_
 (conv=>whnf);repeat' (first  |(refine kA ?_;conv=>whnf)|(refine Br.mk (fun hc=>?_) fun hc=>?_<;>first|exact hc.elim|conv=>whnf)|(refine kB ?_))
 all_goals first|exact absurd rfl hc|rfl
theorem Amq {x y:Int}:Af (Ad tab) 66 [.int .i64 x,.int .i64 y] (· =.bool (ltJ x y)):=by
 refine Ac rfl rfl ?_
 (conv=>whnf);repeat' (first|(refine BX Apw (fun hc=>absurd hc id) (fun _=>?_);conv=>whnf)|(refine kA ?_;conv=>whnf)|(refine Br.mk (fun hc=>?_) fun hc=>?_<;>first|exact hc.elim|conv=>whnf)|(refine kB ?_))
 all_goals first|exact BD (by first|assumption|omega)|exact AY (by first|assumption|omega)
attribute [irreducible] ltJ
end
section
open Go.Sort
theorem AhK (L:List Int):(Hw L).Pairwise fun x y=>ltJ y x=false:=(Pz L).imp fun h=>AaQ.2 (by omega)
theorem AhM (L:List Int):YX (vs (.int .i64) L)=some L:=YZ L
theorem Akh {ob0:Obj} {g len c:Nat} {nn cl:Bool} {L:List Int} (hl:L.length=len) (hs:len≤1099511627776):
 A8 (Ad tab) 64 [.own 0 g 0 len] ⟨[.arr g 1 nn cl (vs (.int .i64) L),ob0],c⟩ fun out s'=>∃c' W,out=.ok (.Cb [])∧s'=⟨[.arr g 1 nn cl (vs (.int .i64) W),ob0],c'⟩∧W.Perm L∧W.Pairwise (fun x y=>ltJ y x=false):=by
 have hsp:J6 [.own 0 g 0 len] ⟨[.arr g 1 nn cl (vs (.int .i64) L),ob0],c⟩=some (.ok (.Cb []),⟨[.arr g 1 nn cl (vs (.int .i64) (Hw L)),ob0],c⟩):=by
  show(if g=g∧1=1∧len=(vs (AV.int .i64) L).length∧len≤1099511627776 then _ else none)=_
  rw[if_pos ⟨rfl,rfl,by rw[lV,hl],hs⟩,AhM]
  rfl
 exact Kw rfl hsp ⟨c,Hw L,rfl,rfl,EW L,AhK L⟩
end
section
open Go.RowKit Go.Sort
structure Hold (p:Prop):Prop where
 h:p
section
variable {P:Program} {AP:Nat→Option G9} {n:Nat}
theorem AW.go (hS:∀N,Au P (run AP N)) (hm:P.follows .mixedOrders=true) {an:List FH} {x y:Code} {a:Bd} (hx:Ci P n an x=some a) {env:Env} {s:Am} {Q:AZ→Env→Am→Prop} (h:vC AP a env s fun e env s=>Hold (AiU P n y Q e env s)):AW P n (.seq x y) env s Q:=
 AW.seq (AW.of_run hS hm hx ((FW h).mono fun e env s k=>k.h))
theorem AW.fin (hS:∀N,Au P (run AP N)) (hm:P.follows .mixedOrders=true) {an:List FH} {x:Code} {a:Bd} (hx:Ci P n an x=some a) {env:Env} {s:Am} {Q:AZ→Env→Am→Prop} (h:vC AP a env s fun e env s=>Hold (Q e env s)):AW P n x env s Q:=
 AW.of_run hS hm hx ((FW h).mono fun e env s k=>k.h)
end
def Gi:Code→Code
 | .seq a _=>a
 |c=>c
def Jr:Code→Code
 | .seq _ b=>b
 |c=>c
def Kv:Bd→Bd
 | .seq a _=>a
 |c=>c
def LP:Bd→Bd
 | .seq _ b=>b
 |c=>c
def AbU (f:Func):Code:=f.body.getD .skip
def opsOf:Code→Array Oper
 | .region _ o _=>o
 |_=>#[]
def AcZ:Code→Nat
 | .region i _ _=>i
 |_=>0
def inC:Code→Code
 | .block _ c=>c
 | .loop c=>c
 |c=>c
def inA:Bd→Bd
 | .block _ c=>c
 | .loop _ c=>c
 |c=>c
def Le (c:Code) (k:Nat):Oper:=((opsOf c).toList[k]?).getD default
theorem GX {P:Program} {n:Nat} {an:List FH} {i j:Nat} {x:Code} {a:Bd} (h:Ci P n an (.block i x)=some (.block j a)):Ci P n an x=some a:=by
 simp only[Ci]at h
 cases hx:Ci P n an x with
 |none=>rw[hx]at h;cases h
 |some b=>rw[hx]at h;simp only[Option.map_some,Option.some.injEq,Bd.block.injEq]at h;rw[h.2]
theorem OT {P:Program} {n:Nat} {an:List FH} {l:List Nat} {x:Code} {a:Bd} (h:Ci P n an (.loop x)=some (.loop l a)):Ci P n an x=some a:=by
 simp only[Ci]at h
 cases hx:Ci P n an x with
 |none=>rw[hx]at h;cases h
 |some b=>rw[hx]at h;simp only[Option.map_some,Option.some.injEq,Bd.loop.injEq]at h;rw[h.2]
theorem YV {n:Nat} {l:List Nat} (h1:l.Nodup) (h2:∀j∈l,j<n):l.length≤n:=by
 have:=List.Nodup.length_le_of_subset (l₂:=List.range n) h1 fun j hj=>List.mem_range.2 (h2 j hj)
 rwa [List.length_range]at this
abbrev NM:=List (Int×List (Int×Bool))
def fmB (L:List (Int×Bool)):AV:=.fmap (Dj L)
def nmV (M:NM):AV:=.fmap (IW (.int .i64) fmB M)
theorem fkM {M:NM} {k:Int} {L:List (Int×Bool)} {K:Option (Nat×AV)→Prop} (h:EH M k=some L) (hK:∀i,K (some (i,fmB L))):RU .int (.int .i64 k) (IW (.int .i64) fmB M) K:=
 LD Ic (fun e=>by rw[h]at e;cases e) (fun i w e=>by rw[h]at e;cases e;exact hK i)
theorem fkN {L:List (Int×Bool)} {k:Int} {K:Option (Nat×AV)→Prop} (h:EH L k=none) (hK:K none):RU .int (.int .i64 k) (Dj L) K:=
 LD Ic (fun _=>hK) (fun i w e=>by rw[h]at e;cases e)
theorem fkS {L:List (Int×Bool)} {k:Int} {v:Bool} {K:Option (Nat×AV)→Prop} (h:EH L k=some v) (hK:∀i,K (some (i,.bool v))):RU .int (.int .i64 k) (Dj L) K:=
 LD Ic (fun e=>by rw[h]at e;cases e) (fun i w e=>by rw[h]at e;cases e;exact hK i)
theorem Abh {L L':List (Int×Bool)} (h:Dj L=Dj L'):L=L':=by
 induction L generalizing L' with
 |nil=>cases L' with
  |nil=>rfl
  |cons p L'=>cases h
 |cons p L ih=>cases L' with
  |nil=>cases h
  |cons q L'=>
   simp only[Dj,IW,List.map_cons,List.cons.injEq,Prod.mk.injEq,AV.int.injEq,AV.bool.injEq,true_and]at h
   rw[ih h.2,Prod.ext h.1.1 h.1.2]
theorem Aig {M N:NM} (h:nmV M=nmV N):M=N:=by
 simp only[nmV,AV.fmap.injEq]at h
 induction M generalizing N with
 |nil=>cases N with
  |nil=>rfl
  |cons p N=>cases h
 |cons p M ih=>cases N with
  |nil=>cases h
  |cons q N=>
   simp only[IW,List.map_cons,List.cons.injEq,Prod.mk.injEq,AV.int.injEq,true_and]at h
   obtain⟨⟨h1,h2⟩,h3⟩:=h
   rw[ih h3]
   simp only[fmB,AV.fmap.injEq]at h2
   rw[Prod.ext h1 (Abh h2)]
def hasB (L:List (Int×Bool)) (x:Int):Bool:=(EH L x).getD false
def ER (A B:List (Int×Bool)):List Int:=(A.filter fun p=>hasB B p.1).map (·.1)
structure CQ where
 M:NM
 a:Int
 b:Int
 A:List (Int×Bool)
 B:List (Int×Bool)
def CQ.enc (q:CQ):List AV:=[nmV q.M,.int .i64 q.a,.int .i64 q.b]
def CQ.ok (q:CQ):Prop:=EH q.M q.a=some q.A∧EH q.M q.b=some q.B∧q.A.length≤100000
def CQ.out (q:CQ):AV:=.sl (decide (ER q.A q.B≠[])) (vs (.int .i64) (Hw (ER q.A q.B)))
theorem CQ.Xx {p q:CQ} (hp:p.ok) (hq:q.ok) (h:p.enc=q.enc):p=q:=by
 obtain⟨M,a,b,A,B⟩:=p
 obtain⟨M',a',b',A',B'⟩:=q
 obtain⟨h1,h2,_⟩:=hp
 obtain⟨k1,k2,_⟩:=hq
 simp only[CQ.enc,List.cons.injEq,AV.int.injEq,and_true,true_and]at h
 obtain⟨e,rfl,rfl⟩:=h
 obtain rfl:=Aig e
 dsimp only at h1 h2 k1 k2
 rw[h1]at k1
 rw[h2]at k2
 cases k1
 cases k2
 rfl
noncomputable def Oe (args:List AV) (s:Am):Option (AX×Am):=by
 classical exact if h:∃q:CQ,q.ok∧args=q.enc∧s=⟨[],0⟩then some (.ok (Classical.choose h).out,⟨[],0⟩)else none
theorem Abi {q:CQ} (hq:q.ok):Oe q.enc ⟨[],0⟩=some (.ok q.out,⟨[],0⟩):=by
 have hx:∃p:CQ,p.ok∧q.enc=p.enc∧(⟨[],0⟩:Am)=⟨[],0⟩:=⟨q,hq,rfl,rfl⟩
 unfold Oe
 rw[dif_pos hx]
 have:=CQ.Xx hq (Classical.choose_spec hx).1 (Classical.choose_spec hx).2.1
 rw[← this]
def CY (A:List (Int×Bool)) (seen:List Nat):List (Int×Bool):=seen.map fun i=>(A[i]?).getD (0,false)
theorem OU {A:List (Int×Bool)} {seen:List Nat} (h:seen.Perm (List.range A.length)):(CY A seen).Perm A:=by
 have h1:(CY A seen).Perm (CY A (List.range A.length)):=h.map _
 have h2:CY A (List.range A.length)=A:=by
  apply List.ext_getElem
  ·simp[CY]
  ·intro i h1 h2
   simp[CY,h2]
 rw[h2]at h1
 exact h1
theorem Adx {A A' B:List (Int×Bool)} (h:A.Perm A'):(ER A B).Perm (ER A' B):=(h.filter _).map _
theorem Ady {A B:List (Int×Bool)} {seen:List Nat} {i:Nat} (h:i<A.length):ER (CY A (seen++[i])) B=ER (CY A seen) B++if hasB B (A[i]).1 then[(A[i]).1]else[]:=by
 unfold ER CY
 rw[List.map_append,List.filter_append,List.map_append]
 simp only[List.map_cons,List.map_nil,List.getElem?_eq_getElem h,Option.getD_some,List.filter_cons,List.filter_nil]
 cases hasB B (A[i]).1<;>rfl
theorem NP {A B:List (Int×Bool)}:(ER A B).length≤A.length:=by
 unfold ER
 rw[List.length_map]
 exact List.length_filter_le _ _
noncomputable abbrev cF:Func:=Tryz.f56
noncomputable abbrev cA:GU:=x56.1
noncomputable abbrev cb0:Code:=AbU cF
noncomputable abbrev cb1:Code:=Jr cb0
noncomputable abbrev cb2:Code:=Jr cb1
noncomputable abbrev cb3:Code:=Jr cb2
noncomputable abbrev cb4:Code:=Jr cb3
noncomputable abbrev ce0:Bd:=cA.body
noncomputable abbrev ce1:Bd:=LP ce0
noncomputable abbrev ce2:Bd:=LP ce1
noncomputable abbrev ce3:Bd:=LP ce2
noncomputable abbrev ce4:Bd:=LP ce3
noncomputable abbrev cr0:Code:=Gi (Gi cb2)
noncomputable abbrev crB:Code:=inC (inC (Jr (Gi cb2)))
noncomputable abbrev cr1:Code:=Gi crB
noncomputable abbrev crI:Code:=inC (Jr (Jr crB))
noncomputable abbrev cr2:Code:=Gi crI
noncomputable abbrev crX:Code:=Jr crI
theorem Adz:Gi cb2=.seq (.region (AcZ cr0) (opsOf cr0) false) (.block 0 (.loop (.seq (.region (AcZ cr1) (opsOf cr1) false) (.seq (.cond (.tmp 14) .skip (.exit 0)) (.block 1 (.seq (.region (AcZ cr2) (opsOf cr2) false) crX)))))):=by kernel_rfl
noncomputable abbrev ceB:Bd:=inA (inA (LP (Kv ce2)))
noncomputable abbrev ceI:Bd:=inA (LP (LP ceB))
noncomputable abbrev ceX:Bd:=LP ceI
theorem Af9 {an:List FH} (hc:Ci Tryz.prog cF.ntmps an (Gi cb2)=some (Kv ce2)):Ci Tryz.prog cF.ntmps an crX=some ceX:=by
 have d1:=(BI (x:=cr0) (y:=Jr (Gi cb2)) (a:=Kv (Kv ce2)) (b:=LP (Kv ce2)) hc).2
 have d2:=GX (i:=0) (j:=0) (x:=inC (Jr (Gi cb2))) (a:=inA (LP (Kv ce2))) d1
 have d3:=OT (l:=[0,2,7,12]) (x:=crB) (a:=ceB) d2
 have d4:=(BI (x:=cr1) (y:=Jr crB) (a:=Kv ceB) (b:=LP ceB) d3).2
 have d5:=(BI (x:=Gi (Jr crB)) (y:=Jr (Jr crB)) (a:=Kv (LP ceB)) (b:=LP (LP ceB)) d4).2
 have d6:=GX (i:=1) (j:=1) (x:=crI) (a:=ceI) d5
 exact(BI (x:=cr2) (y:=crX) (a:=Kv ceI) (b:=ceX) d6).2
set_option maxHeartbeats 4000000 in
set_option maxRecDepth 10000 in
theorem Aga {q:CQ} (hq:q.ok) {g c:Nat} {an:List FH} (hc:Ci Tryz.prog cF.ntmps an (Gi cb2)=some (Kv ce2)) {Q:AZ→Env→Am→Prop}
 (hQ:∀gg c' seen x,seen.Perm (List.range q.A.length)→Q .normal [(14,.bool false),(13,.junk),(0,nmV q.M),(2,.int .i64 q.b),(7,.own 0 gg 0 (ER (CY q.A seen) q.B).length),(12,.ref 1 c 0 0)] ⟨[.arr gg 1 (decide (ER (CY q.A seen) q.B≠[])) true (vs (.int .i64) (ER (CY q.A seen) q.B)),.raw c x],c'⟩):
 AW Tryz.prog cF.ntmps (Gi cb2) [(0,nmV q.M),(1,.int .i64 q.a),(2,.int .i64 q.b),(7,.own 0 g 0 0)] ⟨[.arr g 1 false true []],c⟩ Q:=by
 obtain⟨hA,hB,hl⟩:=hq
 rw[Adz]
 refine AW.range (AP:=Ad tab) TU mixed (anA:=[]) (anB:=[]) (it:=12) (nx:=13) (more:=14) (pair:=15) (YS:=[Le cr0 0,Le cr0 1,Le cr0 2]) (oR:=Le cr0 3) (oN:=Le cr1 0) (oX:=Le cr1 1) (oE:=Le cr2 0) (AaH:=[Le cr2 1,Le cr2 2])
  (Afh:=[⟨some 9,.ZM (.tmp 0),none⟩,⟨some 10,.ZM (.tmp 1),none⟩,⟨some 11,.lookup .int .Dt false (.tmp 9) (.tmp 10),none⟩]) (Afi:=[⟨some 16,.ext (.tmp 15) 0,none⟩,⟨some 8,.ZM (.tmp 16),none⟩])
  (t:=112) (kt:=3) (et:=4) (xm:=.tmp 11) (am:=.tmp 11)
  (by kernel_rfl) (by kernel_rfl) (by kernel_rfl) (by kernel_rfl) (by kernel_rfl) (by kernel_rfl) (by kernel_rfl) (of_decide_eq_true (by kernel_rfl))
  (by kernel_rfl) (by kernel_rfl) (by kernel_rfl) (by kernel_rfl) (by kernel_rfl) (by kernel_rfl) (by kernel_rfl) (of_decide_eq_true (by kernel_rfl)) (of_decide_eq_true (by kernel_rfl)) (by decide)
  (by kernel_rfl) (by kernel_rfl) (by kernel_rfl) (by kernel_rfl) (of_decide_eq_true (by kernel_rfl)) (by kernel_rfl) (Af9 hc) (fz:=[]) rfl (L:=[0,2,7,12]) (ents:=Dj q.A)
  (J:=fun x seen env s=>∃(gg c':Nat),seen.Nodup∧(∀ j∈seen,j<q.A.length)∧env=[(0,nmV q.M),(2,.int .i64 q.b),(7,.own 0 gg 0 (ER (CY q.A seen) q.B).length),(12,.ref 1 c 0 0)]∧s=⟨[.arr gg 1 (decide (ER (CY q.A seen) q.B≠[])) true (vs (.int .i64) (ER (CY q.A seen) q.B)),.raw c x],c'⟩) ?_
 refine H9 ?_
 conv=>whnf
 (conv=>whnf);repeat' (first|(refine fkM hA (fun _=>?_);conv=>whnf)|(refine kA ?_;conv=>whnf)|(refine Br.mk (fun hc=>?_) fun hc=>?_<;>first|exact hc.elim|conv=>whnf)|(refine kB ?_))
 refine⟨rfl,rfl,_,_,rfl,rfl,fun x=>⟨_,_,List.nodup_nil,by simp,rfl,rfl⟩,?_,?_,?_⟩
 ·rintro x seen env s ⟨gg,c',_,_,rfl,rfl⟩
  exact⟨rfl,rfl⟩
 ·rintro x x' seen i env s e ⟨gg,c',hnd,hlt,rfl,rfl⟩ he hins
  obtain⟨hi,rfl⟩:∃h:i<q.A.length,e=(AV.int .i64 (q.A[i]).1,AV.bool (q.A[i]).2):=by
   rw[AA]at he
   obtain⟨h,rfl⟩:=List.getElem?_eq_some_iff.1 he
   have h2:i<q.A.length:=by simpa[Dj,IW]using h
   exact⟨h2,by simp[Dj,IW]⟩
  have hsl:=YV hnd hlt
  have hbl:(ER (CY q.A seen) q.B).length≤seen.length:=Nat.le_trans NP (by simp[CY])
  have hbs:=Ady (B:=q.B) (seen:=seen) hi
  have AhF:(seen++[i]).Nodup:=List.nodup_append.2 ⟨hnd,by simp,fun x hx y hy=>by simp at hy;subst hy;rintro rfl;exact hins hx⟩
  have hlt2:∀j∈seen++[i],j<q.A.length:=fun j hj=>by
   rcases List.mem_append.1 hj with hj|hj
   ·exact hlt j hj
   ·simp at hj;omega
  refine⟨0,_,_,_,rfl,rfl,FW ?_⟩
  have hh:hasB q.B (q.A[i]).1=(EH q.B (q.A[i]).1).getD false:=rfl
  rcases hm:EH q.B (q.A[i]).1 with _|v
  case' some=>cases v
  all_goals (
   rw[hm]at hh
   rw[hh]at hbs
   conv=>whnf
   (conv=>whnf);repeat' (first|(refine fkM hB (fun _=>?_);conv=>whnf)|(refine fkN hm ?_;conv=>whnf)|(refine fkS hm (fun _=>?_);conv=>whnf)|(refine Ij (f:=.int .i64) (l:=ER (CY q.A seen) q.B) (x:=(q.A[i]).1) (fun _=>rfl) rfl (by omega) ?_;conv=>whnf)|(refine kA ?_;conv=>whnf)|(refine Br.mk (fun hc=>?_) fun hc=>?_<;>first|exact hc.elim|conv=>whnf)|(refine kB ?_)))
  all_goals first
   |(exfalso;omega)
   |(replace hbs:ER (CY q.A (seen++[i])) q.B=ER (CY q.A seen) q.B++[(q.A[i]).1]:=hbs
     rw[show (ER (CY q.A seen) q.B).length+1=(ER (CY q.A (seen++[i])) q.B).length from by rw[hbs];simp,←hbs]
     exact⟨.inl rfl,_,_,AhF,hlt2,rfl,by rw[decide_eq_true (show ER (CY q.A (seen++[i])) q.B≠[] from by rw[hbs];simp)];rfl⟩)
   |(replace hbs:ER (CY q.A (seen++[i])) q.B=ER (CY q.A seen) q.B:=hbs.trans (List.append_nil _)
     rw[← hbs]
     exact⟨.inl rfl,_,_,AhF,hlt2,rfl,rfl⟩)
 ·rintro x seen env s ⟨gg,c',hnd,hlt,rfl,rfl⟩ hp
  have hl:(Dj q.A).length=q.A.length:=by simp[Dj,IW]
  rw[hl]at hp
  exact hQ gg c' seen x hp
set_option maxHeartbeats 4000000 in
set_option maxRecDepth 10000 in
theorem AmR {q:CQ} (hq:q.ok) {an:List FH} (hc:Ci Tryz.prog cF.ntmps an cb0=some ce0):AW Tryz.prog cF.ntmps cb0 (params q.enc 0) ⟨[],0⟩ fun e env s=>(e=.normal∨e=.ret)∧∃vs,D7 env s cA.results=some vs∧(En vs).closed=true∧En vs=q.out:=by
 have c0:=BI (x:=Gi cb0) (y:=cb1) (a:=Kv ce0) (b:=ce1) hc
 have c1:=BI (x:=Gi cb1) (y:=cb2) (a:=Kv ce1) (b:=ce2) c0.2
 have c2:=BI (x:=Gi cb2) (y:=cb3) (a:=Kv ce2) (b:=ce3) c1.2
 have c3:=BI (x:=Gi cb3) (y:=cb4) (a:=Kv ce3) (b:=ce4) c2.2
 refine AW.go (x:=Gi cb0) (y:=cb1) TU mixed c0.1 ?_
 conv=>whnf
 (conv=>whnf);repeat' (first  |(refine kA ?_;conv=>whnf)|(refine Br.mk (fun hc=>?_) fun hc=>?_<;>first|exact hc.elim|conv=>whnf)|(refine kB ?_))
 refine⟨?_⟩
 show AW _ _ cb1 _ _ _
 refine AW.go (x:=Gi cb1) (y:=cb2) TU mixed c1.1 ?_
 conv=>whnf
 (conv=>whnf);repeat' (first  |(refine kA ?_;conv=>whnf)|(refine Br.mk (fun hc=>?_) fun hc=>?_<;>first|exact hc.elim|conv=>whnf)|(refine kB ?_))
 refine⟨?_⟩
 refine AW.seq (x:=Gi cb2) (y:=cb3) (Aga hq c2.1 fun gg c2 sn x hp=>?_)
 have hW:=Adx (B:=q.B) (OU hp)
 have hl:=NP (A:=CY q.A sn) (B:=q.B)
 have hbl:(CY q.A sn).length≤100000:=by
  rw[(OU hp).length_eq];exact hq.2.2
 show AW _ _ cb3 _ _ _
 refine AW.go (x:=Gi cb3) (y:=cb4) TU mixed c3.1 ?_
 conv=>whnf
 (conv=>whnf);repeat' (first  |(refine kA ?_;conv=>whnf)|(refine Br.mk (fun hc=>?_) fun hc=>?_<;>first|exact hc.elim|conv=>whnf)|(refine kB ?_))
 refine(Akh (L:=ER (CY q.A sn) q.B) rfl (by omega)).mono ?_
 rintro _ _ ⟨cc,W,rfl,rfl,w1,w2⟩
 conv=>whnf
 apply AL rfl
 (conv=>whnf);repeat' (first  |(refine kA ?_;conv=>whnf)|(refine Br.mk (fun hc=>?_) fun hc=>?_<;>first|exact hc.elim|conv=>whnf)|(refine kB ?_))
 refine⟨?_⟩
 show AW _ _ cb4 _ _ _
 refine AW.fin (x:=cb4) TU mixed c3.2 ?_
 conv=>whnf
 (conv=>whnf);repeat' (first  |(refine kA ?_;conv=>whnf)|(refine Br.mk (fun hc=>?_) fun hc=>?_<;>first|exact hc.elim|conv=>whnf)|(refine kB ?_))
 have hwl:=w1.length_eq
 have hWs:W=Hw (ER q.A q.B):=He (w2.imp fun h=>by have:=AaQ.1 h;omega) (Pz _) (w1.trans (hW.trans (EW _).symm))
 refine FD ⟨rfl,rfl,by rw[lV,hwl];omega⟩ ?_
 conv=>whnf
 (conv=>whnf);repeat' (first  |(refine kA ?_;conv=>whnf)|(refine Br.mk (fun hc=>?_) fun hc=>?_<;>first|exact hc.elim|conv=>whnf)|(refine kB ?_))
 refine⟨?_⟩
 refine⟨.inr rfl,_,rfl,rfl,?_⟩
 show AV.sl (decide (ER (CY q.A sn) q.B≠[])) (sub (vs (.int .i64) W) 0 (ER (CY q.A sn) q.B).length)=q.out
 rw[← hwl,uV]
 unfold CQ.out
 rw[hWs]
 have:ER (CY q.A sn) q.B≠[]↔ER q.A q.B≠[]:=by
  rw[ne_eq,ne_eq,←List.length_eq_zero_iff,←List.length_eq_zero_iff,hW.length_eq]
 rw[decide_eq_decide.2 this]
theorem AkG:Au Tryz.prog fun f' args s=>if f'=56 then Oe args s else none:=by
 intro f0 args s out s' h
 replace h:(if f0=56 then Oe args s else none)=some (out,s'):=h
 rcases Decidable.em (f0=56)with hf|hf
 case inr=>rw[if_neg hf]at h;cases h
 rw[if_pos hf]at h
 subst hf
 unfold Oe at h
 split at h
 case isFalse=>cases h
 rename_i hx
 have hcs:=Classical.choose_spec hx
 simp only[Option.some.injEq,Prod.mk.injEq]at h
 obtain⟨rfl,rfl⟩:=h
 generalize Classical.choose hx=q at hcs
 obtain⟨hq,rfl,rfl⟩:=hcs
 refine fun w0 B Z φ w vs hI hargs=>.inl ⟨⟨_,Tryz.func56,rfl,by decide⟩,?_⟩
 obtain⟨b,hb,hcm,hrs,_⟩:=Uz x56.2
 obtain rfl:b=cb0:=by
  have:cF.body=some cb0:=by kernel_rfl
  exact Option.some.inj (hb.symm.trans this)
 refine(YT (R:=fun v=>v=q.out) Tryz.func56 hb hrs (of_decide_eq_true (by kernel_rfl)) (AmR hq hcm) hI hargs).mono ?_
 rintro e w1 ⟨v,rfl,Z',φ',hI',hL,hR⟩
 exact⟨Z',φ',hI',hL,hR⟩
noncomputable def Js:List (Nat×G9):=(56,.ext Oe)::tab
theorem AmS:Ad tab 56=none:=by kernel_rfl
theorem upM:∀f a,Ad tab f=some a→Ad Js f=some a:=V9 AmS
theorem AbW:PK Tryz.prog (Ad Js):=by
 intro f a h
 simp only[Js,Ad]at h
 cases hb:Nat.beq 56 f with
 |false=>rw[hb,cond_false]at h;exact Aew f a h
 |true=>
  rw[hb,cond_true]at h
  have e:=Nat.eq_of_beq_eq_true hb
  subst e
  cases h
  exact AkG
theorem Fq (n:Nat):Au Tryz.prog (run (Ad Js) n):=J7 mixed AbW n
theorem Alm {q:CQ} (hq:q.ok):Af (Ad Js) 56 q.enc (· =q.out):=by
 refine⟨q.out,⟨1,?_⟩,rfl⟩
 have h1:run (Ad Js) 1 56 q.enc ⟨[],0⟩=some (.ok q.out,⟨[],0⟩):=Abi hq
 simp only[Dp,h1]
 rfl
end
section
open Go.RowKit Go.Sort
noncomputable def MI (types:List (List UInt8)) (g:GG):NM:=g.nodes.map fun n=>(n.id,JD types g.edges n.id)
theorem AiD {types:List (List UInt8)} {g:GG}:AV.fmap (g.nodes.map fun n=>(.int .i64 n.id,.fmap (Dj (JD types g.edges n.id))))=nmV (MI types g):=by
 unfold nmV MI IW
 rw[List.map_map]
 rfl
theorem TA {α:Type} {M:List (Int×α)} {k:Int} {v:α} {x:Int} (h:x∈(Fz M k v).map Prod.fst):x=k∨x∈M.map Prod.fst:=by
 induction M with
 |nil=>simp[Fz]at h;exact .inl h
 |cons p M ih=>
  simp only[Fz]at h
  split at h
  ·rename_i e
   simp only[List.map_cons,List.mem_cons]at h ⊢
   rcases h with h|h
   ·exact .inl h
   ·exact .inr (.inr h)
  ·simp only[List.map_cons,List.mem_cons]at h ⊢
   rcases h with h|h
   ·exact .inr (.inl h)
   ·rcases ih h with h|h
    ·exact .inl h
    ·exact .inr (.inr h)
theorem WQ {types:List (List UInt8)} {ids:List Int} {v x:Int}:∀{es:List GE} {L:Int→List (Int×Bool)},(∀ e∈es,e.fr∈ids∧e.to∈ids)→(∀ v x,x∈(L v).map Prod.fst→x∈ids)→x∈((es.foldl (E5 types) L) v).map Prod.fst→x∈ids
 |[],L,_,h,hx=>h v x hx
 |e::es,L,he,h,hx=>by
  refine WQ (es:=es) (L:=E5 types L e) (fun e' h'=>he e' (by simp[h'])) (fun u y hy=>?_) hx
  have hee:=he e (by simp)
  unfold E5 at hy
  split at hy
  ·dsimp only at hy
   split at hy
   ·rcases TA hy with rfl|hy
    ·exact hee.1
    ·exact h _ _ hy
   ·split at hy
    ·rcases TA hy with rfl|hy
     ·exact hee.2
     ·exact h _ _ hy
    ·exact h _ _ hy
  ·exact h _ _ hy
theorem MH {types:List (List UInt8)} {g:GG} (hck:AB g=0) {v:Int} (hv:v∈Dc g):EH (MI types g) v=some (JD types g.edges v):=by
 obtain⟨n,hn,rfl⟩:=List.mem_map.1 (show v∈g.nodes.map GN.id from hv)
 have hk:(MI types g).map Prod.fst=Dc g:=by unfold MI;rw[List.map_map];rfl
 exact Me (p:=(n.id,JD types g.edges n.id)) (by rw[hk];exact LZ hck) (List.mem_map.2 ⟨n,hn,rfl⟩)
noncomputable def LU (types:List (List UInt8)) (g:GG) (v x:Int):Nat:=(ER (JD types g.edges v) (JD types g.edges x)).length
def Py (f:Int→Nat) (L:List (Int×Bool)):Nat:=(L.map fun p=>f p.1).sum
noncomputable def ZL (types:List (List UInt8)) (g:GG) (v:Int):Nat:=Py (LU types g v) (JD types g.edges v)
noncomputable def Ik (types:List (List UInt8)) (g:GG):List (Int×Int):=g.nodes.map fun n=>(n.id,((ZL types g n.id / 2:Nat):Int))
theorem AcW {f:Int→Nat} {L L':List (Int×Bool)} (h:L.Perm L'):Py f L=Py f L':=(h.map _).sum_nat
theorem SH {f:Int→Nat} {b:Nat} (hf:∀x,f x≤b):∀{L:List (Int×Bool)},Py f L≤L.length*b
 |[]=>by simp[Py]
 |p::L=>by
  have:=SH hf (L:=L)
  have h1:=hf p.1
  simp only[Py,List.map_cons,List.sum_cons,List.length_cons,Nat.succ_mul]at this ⊢
  omega
theorem AcX {f:Int→Nat} {A:List (Int×Bool)} {seen:List Nat} {i:Nat} (h:i<A.length):Py f (CY A (seen++[i]))=Py f (CY A seen)+f (A[i]).1:=by
 simp[Py,CY,h]
structure TQ where
 g:GG
 tn:Bool
 types:List (List UInt8)
def TQ.enc (q:TQ):List AV:=[q.g.av,.sl q.tn (vs .str q.types)]
def TQ.ok (q:TQ):Prop:=q.g.ok∧q.g.nodes.length≤1000∧q.g.edges.length≤1000∧q.types.length<2^63
noncomputable def TQ.out (q:TQ):AV:=if AB q.g=0 then .sl (decide (0<q.g.nodes.length)) (vs pv (Ik q.types q.g))else .sl false []
noncomputable abbrev tF:Func:=Tryz.f21
noncomputable abbrev tA:GU:=x21.1
noncomputable abbrev tb0:Code:=AbU tF
noncomputable abbrev tb1:Code:=Jr tb0
noncomputable abbrev tb2:Code:=Jr tb1
noncomputable abbrev tb3:Code:=Jr tb2
noncomputable abbrev tb4:Code:=Jr tb3
noncomputable abbrev tb5:Code:=Jr tb4
noncomputable abbrev te0:Bd:=tA.body
noncomputable abbrev te1:Bd:=LP te0
noncomputable abbrev te2:Bd:=LP te1
noncomputable abbrev te3:Bd:=LP te2
noncomputable abbrev te4:Bd:=LP te3
noncomputable abbrev te5:Bd:=LP te4
noncomputable abbrev tL:Code:=inC (inC (Jr (Gi tb4)))
noncomputable abbrev tR1:Code:=Jr tL
noncomputable abbrev tR2:Code:=Jr tR1
noncomputable abbrev tBk:Code:=inC (Gi tR2)
noncomputable abbrev tB1:Code:=Jr tBk
noncomputable abbrev ZN:Code:=Jr tB1
noncomputable abbrev tr0:Code:=Gi (Gi ZN)
noncomputable abbrev trB:Code:=inC (inC (Jr (Gi ZN)))
noncomputable abbrev tr1:Code:=Gi trB
noncomputable abbrev trI:Code:=inC (Jr (Jr trB))
noncomputable abbrev tr2:Code:=Gi trI
noncomputable abbrev trX:Code:=Jr trI
noncomputable abbrev uL:Bd:=inA (inA (LP (Kv te4)))
noncomputable abbrev uR1:Bd:=LP uL
noncomputable abbrev uR2:Bd:=LP uR1
noncomputable abbrev uBk:Bd:=inA (Kv uR2)
noncomputable abbrev uB1:Bd:=LP uBk
noncomputable abbrev uB2:Bd:=LP uB1
noncomputable abbrev urB:Bd:=inA (inA (LP (Kv uB2)))
noncomputable abbrev urI:Bd:=inA (LP (LP urB))
noncomputable abbrev urX:Bd:=LP urI
theorem Afo:Jr (Gi tb4)=.block 0 (.loop tL):=by kernel_rfl
theorem AhE:Gi tR2=.block 1 tBk:=by kernel_rfl
theorem AcY:Gi ZN=.seq (.region (AcZ tr0) (opsOf tr0) false) (.block 2 (.loop (.seq (.region (AcZ tr1) (opsOf tr1) false) (.seq (.cond (.tmp 30) .skip (.exit 2)) (.block 3 (.seq (.region (AcZ tr2) (opsOf tr2) false) trX)))))):=by kernel_rfl
theorem Afp {an:List FH} (hc:Ci Tryz.prog tF.ntmps an (Gi ZN)=some (Kv uB2)):Ci Tryz.prog tF.ntmps an trX=some urX:=by
 have d1:=(BI (x:=tr0) (y:=Jr (Gi ZN)) (a:=Kv (Kv uB2)) (b:=LP (Kv uB2)) hc).2
 have d2:=GX (i:=2) (j:=2) (x:=inC (Jr (Gi ZN))) (a:=inA (LP (Kv uB2))) d1
 have d3:=OT (l:=[5,6,8,9,18,19,20,28]) (x:=trB) (a:=urB) d2
 have d4:=(BI (x:=tr1) (y:=Jr trB) (a:=Kv urB) (b:=LP urB) d3).2
 have d5:=(BI (x:=Gi (Jr trB)) (y:=Jr (Jr trB)) (a:=Kv (LP urB)) (b:=LP (LP urB)) d4).2
 have d6:=GX (i:=3) (j:=3) (x:=trI) (a:=urI) d5
 exact(BI (x:=tr2) (y:=trX) (a:=Kv urI) (b:=urX) d6).2
set_option maxHeartbeats 4000000 in
set_option maxRecDepth 10000 in
theorem Afq {types:List (List UInt8)} {g:GG} (hck:AB g=0) (hE:g.edges.length≤1000) {i:Nat} (hi:i<g.nodes.length) {ob0 Xm:Obj} {g1 no:Nat} {nn:Bool} {xs:List AV} {nc:Int} {gn c:Nat} {an:List FH} (hc:Ci Tryz.prog tF.ntmps an (Gi ZN)=some (Kv uB2)) {Q:AZ→Env→Am→Prop}
 (hQ:∀c' x,Q .normal [(30,.bool false),(29,.junk),(5,nmV (MI types g)),(6,.own 1 g1 0 no),(8,.ref 2 gn 0 0),(9,.int .i64 (ZL types g (g.nodes[i]).id)),(18,.sl nn xs),(19,.int .i64 nc),(20,.int .i64 i),(28,.ref 3 c 0 0)] ⟨[ob0,Xm,.arr gn 3 true true [(g.nodes[i]).av],.raw c x],c'⟩):
 AW Tryz.prog tF.ntmps (Gi ZN) [(5,nmV (MI types g)),(6,.own 1 g1 0 no),(8,.ref 2 gn 0 0),(9,.int .i64 0),(18,.sl nn xs),(19,.int .i64 nc),(20,.int .i64 i)] ⟨[ob0,Xm,.arr gn 3 true true [(g.nodes[i]).av]],c⟩ Q:=by
 have hid:(g.nodes[i]).id∈Dc g:=List.mem_map.2 ⟨_,List.getElem_mem hi,rfl⟩
 have hA:=MH (types:=types) hck hid
 have hlA:∀v,(JD types g.edges v).length≤1000:=fun v=>Nat.le_trans (QN (n:=0) (fun _=>Nat.le_refl _)) (by omega)
 have hcl:∀x,LU types g (g.nodes[i]).id x≤1000:=fun x=>Nat.le_trans NP (hlA _)
 rw[AcY]
 obtain⟨A,hAe⟩:∃A,A=JD types g.edges (g.nodes[i]).id:=⟨_,rfl⟩
 rw[← hAe]at hA
 refine AW.range (AP:=Ad Js) Fq mixed (anA:=[]) (anB:=[]) (it:=28) (nx:=29) (more:=30) (pair:=31) (YS:=[Le tr0 0,Le tr0 1,Le tr0 2,Le tr0 3]) (oR:=Le tr0 4) (oN:=Le tr1 0) (oX:=Le tr1 1) (oE:=Le tr2 0) (AaH:=[Le tr2 1,Le tr2 2])
  (Afh:=[⟨some 24,.ZM (.tmp 5),none⟩,⟨some 25,.RG 0 (.tmp 8),none⟩,⟨some 26,.load none (.tmp 25),none⟩,⟨some 27,.lookup .int .Dt false (.tmp 24) (.tmp 26),none⟩]) (Afi:=[⟨some 32,.ext (.tmp 31) 0,none⟩,⟨some 10,.ZM (.tmp 32),none⟩])
  (t:=112) (kt:=3) (et:=4) (xm:=.tmp 27) (am:=.tmp 27)
  (by kernel_rfl) (by kernel_rfl) (by kernel_rfl) (by kernel_rfl) (by kernel_rfl) (by kernel_rfl) (by kernel_rfl) (of_decide_eq_true (by kernel_rfl))
  (by kernel_rfl) (by kernel_rfl) (by kernel_rfl) (by kernel_rfl) (by kernel_rfl) (by kernel_rfl) (by kernel_rfl) (of_decide_eq_true (by kernel_rfl)) (of_decide_eq_true (by kernel_rfl)) (by decide)
  (by kernel_rfl) (by kernel_rfl) (by kernel_rfl) (by kernel_rfl) (of_decide_eq_true (by kernel_rfl)) (by kernel_rfl) (Afp hc) (fz:=[]) rfl (L:=[5,6,8,9,18,19,20,28]) (ents:=Dj A)
  (J:=fun x seen env s=>∃(c':Nat),seen.Nodup∧(∀ j∈seen,j<A.length)∧env=[(5,nmV (MI types g)),(6,.own 1 g1 0 no),(8,.ref 2 gn 0 0),(9,.int .i64 (Py (LU types g (g.nodes[i]).id) (CY A seen))),(18,.sl nn xs),(19,.int .i64 nc),(20,.int .i64 i),(28,.ref 3 c 0 0)]∧s=⟨[ob0,Xm,.arr gn 3 true true [(g.nodes[i]).av],.raw c x],c'⟩) ?_
 refine H9 ?_
 conv=>whnf
 (conv=>whnf);repeat' (first|(refine fkM hA (fun _=>?_);conv=>whnf)|(refine kA ?_;conv=>whnf)|(refine Br.mk (fun hc=>?_) fun hc=>?_<;>first|exact hc.elim|conv=>whnf)|(refine kB ?_))
 refine⟨rfl,rfl,_,_,rfl,rfl,fun x=>⟨_,List.nodup_nil,by simp,rfl,rfl⟩,?_,?_,?_⟩
 ·rintro x seen env s ⟨c',_,_,rfl,rfl⟩
  exact⟨rfl,rfl⟩
 ·rintro x x' seen k env s e ⟨c',hnd,hlt,rfl,rfl⟩ he hins
  obtain⟨hk,rfl⟩:∃h:k<A.length,e=(AV.int .i64 (A[k]).1,AV.bool (A[k]).2):=by
   rw[AA]at he
   obtain⟨h,rfl⟩:=List.getElem?_eq_some_iff.1 he
   have h2:k<A.length:=by simpa[Dj,IW]using h
   exact⟨h2,by simp[Dj,IW]⟩
  have hsl:=YV hnd hlt
  have AhF:(seen++[k]).Nodup:=List.nodup_append.2 ⟨hnd,by simp,fun x hx y hy=>by simp at hy;subst hy;rintro rfl;exact hins hx⟩
  have hlt2:∀j∈seen++[k],j<A.length:=fun j hj=>by
   rcases List.mem_append.1 hj with hj|hj
   ·exact hlt j hj
   ·simp at hj;omega
  have hxs:∀p∈A,p.1∈Dc g:=by
   rw[hAe]
   exact fun p hp=>WQ (types:=types) (es:=g.edges) (L:=fun _=>[]) (v:=(g.nodes[i]).id) (L8 hck) (fun v x h=>by cases h) (List.mem_map.2 ⟨p,hp,rfl⟩)
  have hx:=hxs _ (List.getElem_mem hk)
  have hB:=MH (types:=types) hck hx
  have Aq9:A.length≤1000:=by rw[hAe];exact hlA _
  have pC:=Alm (q:=⟨MI types g,(g.nodes[i]).id,(A[k]).1,A,JD types g.edges (A[k]).1⟩) ⟨hA,hB,by show A.length≤100000;omega⟩
  have hsum:=AcX (f:=LU types g (g.nodes[i]).id) (seen:=seen) hk
  have hb1:=SH hcl (L:=CY A seen)
  have hb2:=hcl (A[k]).1
  have hb3:(CY A seen).length=seen.length:=by simp[CY]
  have hlen:∀x,(Hw (ER A (JD types g.edges x))).length=LU types g (g.nodes[i]).id x:=fun x=>by
   rw[(EW _).length_eq,hAe];rfl
  have hmul:seen.length*1000≤1000*1000:=Nat.mul_le_mul_right _ (by omega)
  rw[hb3]at hb1
  have hw:IntKind.i64.wrap (((Py (LU types g (g.nodes[i]).id) (CY A seen):Nat):Int)+(((Hw (ER A (JD types g.edges (A[k]).1))).length:Nat):Int))=((Py (LU types g (g.nodes[i]).id) (CY A (seen++[k])):Nat):Int):=by
   rw[hlen,hsum,wrap_i64 (by omega) (by omega)]
   rfl
  refine⟨0,_,_,_,rfl,rfl,FW ?_⟩
  conv=>whnf
  (conv=>whnf);repeat' (first|(refine Aa pC ?_;rintro _ rfl;conv=>whnf)|(refine DC hw ?_;conv=>whnf)|(refine kA ?_;conv=>whnf)|(refine Br.mk (fun hc=>?_) fun hc=>?_<;>first|exact hc.elim|conv=>whnf)|(refine kB ?_))
  exact⟨.inl rfl,_,AhF,hlt2,rfl,rfl⟩
 ·rintro x seen env s ⟨c',hnd,hlt,rfl,rfl⟩ hp
  have hl:(Dj A).length=A.length:=by simp[Dj,IW]
  rw[hl]at hp
  rw[AcW (OU hp),hAe]
  exact hQ c' x
theorem Qd {types:List (List UInt8)} {g:GG}:(Ik types g).length=g.nodes.length:=List.length_map _
set_option maxHeartbeats 4000000 in
set_option maxRecDepth 10000 in
theorem Amk {q:TQ} (hq:q.ok) {an:List FH} (hc:Ci Tryz.prog tF.ntmps an tb0=some te0):AW Tryz.prog tF.ntmps tb0 (params q.enc 0) ⟨[],0⟩ fun e env s=>(e=.normal∨e=.ret)∧∃vs,D7 env s tA.results=some vs∧(En vs).closed=true∧En vs=q.out:=by
 obtain⟨g,tn,types⟩:=q
 obtain⟨hg,hN,hE,ht⟩:=hq
 dsimp only at hg hN hE ht
 have c0:=BI (x:=Gi tb0) (y:=tb1) (a:=Kv te0) (b:=te1) hc
 have c1:=BI (x:=Gi tb1) (y:=tb2) (a:=Kv te1) (b:=te2) c0.2
 have c2:=BI (x:=Gi tb2) (y:=tb3) (a:=Kv te2) (b:=te3) c1.2
 have c3:=BI (x:=Gi tb3) (y:=tb4) (a:=Kv te3) (b:=te4) c2.2
 have c4:=BI (x:=Gi tb4) (y:=tb5) (a:=Kv te4) (b:=te5) c3.2
 have d1:=BI (x:=Gi (Gi tb4)) (y:=Jr (Gi tb4)) (a:=Kv (Kv te4)) (b:=LP (Kv te4)) c4.1
 have d2:=GX (i:=0) (j:=0) (x:=inC (Jr (Gi tb4))) (a:=inA (LP (Kv te4))) d1.2
 have d3:=OT (l:=[5,6,18,19,20]) (x:=tL) (a:=uL) d2
 have d4:=BI (x:=Gi tL) (y:=tR1) (a:=Kv uL) (b:=uR1) d3
 have d5:=BI (x:=Gi tR1) (y:=tR2) (a:=Kv uR1) (b:=uR2) d4.2
 have d6:=BI (x:=Gi tR2) (y:=Jr tR2) (a:=Kv uR2) (b:=LP uR2) d5.2
 have d7:=GX (i:=1) (j:=1) (x:=tBk) (a:=uBk) d6.1
 have d8:=BI (x:=Gi tBk) (y:=tB1) (a:=Kv uBk) (b:=uB1) d7
 have d9:=BI (x:=Gi tB1) (y:=ZN) (a:=Kv uB1) (b:=uB2) d8.2
 have d10:=BI (x:=Gi ZN) (y:=Jr ZN) (a:=Kv uB2) (b:=LP uB2) d9.2
 have pK:=(Aad hg).up upM
 refine AW.go (AP:=Ad Js) (x:=Gi tb0) (y:=tb1) Fq mixed c0.1 ?_
 conv=>whnf
 (conv=>whnf);repeat' (first  |(refine kA ?_;conv=>whnf)|(refine Br.mk (fun hc=>?_) fun hc=>?_<;>first|exact hc.elim|conv=>whnf)|(refine kB ?_))
 refine⟨?_⟩
 show AW _ _ tb1 _ _ _
 refine AW.go (AP:=Ad Js) (x:=Gi tb1) (y:=tb2) Fq mixed c1.1 ?_
 by_cases hck:AB g=0
 case neg=>
  generalize he:AB g=ee at pK hck
  conv=>whnf
  (conv=>whnf);repeat' (first|(refine Aa pK ?_;rintro _ rfl;conv=>whnf)|(refine kA ?_;conv=>whnf)|(refine Br.mk (fun hc=>?_) fun hc=>?_<;>first|exact hc.elim|conv=>whnf)|(refine kB ?_))
  all_goals first
   |(exfalso;omega)
   |(refine ⟨?_⟩;exact⟨.inr rfl,_,rfl,rfl,by unfold TQ.out;rw[if_neg (by dsimp only;rw[he];exact hck)];rfl⟩)
 have pNb:=(OH (tn:=tn) hg hN hE hck ht).up upM
 rw[AiD]at pNb
 rw[hck]at pK
 conv=>whnf
 (conv=>whnf);repeat' (first|(refine Aa pK ?_;rintro _ rfl;conv=>whnf)|(refine kA ?_;conv=>whnf)|(refine Br.mk (fun hc=>?_) fun hc=>?_<;>first|exact hc.elim|conv=>whnf)|(refine kB ?_))
 refine⟨?_⟩
 show AW _ _ tb2 _ _ _
 refine AW.go (AP:=Ad Js) (x:=Gi tb2) (y:=tb3) Fq mixed c2.1 ?_
 conv=>whnf
 (conv=>whnf);repeat' (first|(refine Aa pNb ?_;rintro _ rfl;conv=>whnf)|(refine kA ?_;conv=>whnf)|(refine Br.mk (fun hc=>?_) fun hc=>?_<;>first|exact hc.elim|conv=>whnf)|(refine kB ?_))
 refine⟨?_⟩
 show AW _ _ tb3 _ _ _
 refine AW.go (AP:=Ad Js) (x:=Gi tb3) (y:=tb4) Fq mixed c3.1 ?_
 conv=>whnf
 (conv=>whnf);repeat' (first  |(refine kA ?_;conv=>whnf)|(refine Br.mk (fun hc=>?_) fun hc=>?_<;>first|exact hc.elim|conv=>whnf)|(refine kB ?_))
 refine⟨?_⟩
 show AW _ _ tb4 _ _ _
 refine AW.seq (x:=Gi tb4) (y:=tb5) ?_
 refine AW.go (AP:=Ad Js) (x:=Gi (Gi tb4)) (y:=Jr (Gi tb4)) Fq mixed d1.1 ?_
 conv=>whnf
 (conv=>whnf);repeat' (first  |(refine kA ?_;conv=>whnf)|(refine Br.mk (fun hc=>?_) fun hc=>?_<;>first|exact hc.elim|conv=>whnf)|(refine kB ?_))
 refine⟨?_⟩
 show AW _ _ (Jr (Gi tb4)) _ _ _
 rw[Afo]
 refine AW.block ?_
 refine AW.loop (fun m env s=>∃(i c g1:Nat),m=g.nodes.length-i∧i≤g.nodes.length∧env=[(5,nmV (MI types g)),(6,.own 1 g1 0 i),(18,.sl g.nn (vs GN.av g.nodes)),(19,.int .i64 g.nodes.length),(20,.int .i64 i)]∧s=⟨[.arr 0 4 true true [g.av],.arr g1 2 (decide (0<i)) true (vs pv ((Ik types g).take i))],c⟩) ?_ (m:=g.nodes.length) ⟨0,_,_,rfl,by omega,rfl,rfl⟩
 rintro _ _ _ ⟨i,c,g1,rfl,hi,rfl,rfl⟩
 have htk:((Ik types g).take i).length=i:=by rw[List.length_take,Qd];omega
 refine AW.go (AP:=Ad Js) (x:=Gi tL) (y:=tR1) Fq mixed d4.1 ?_
 by_cases hlt:i<g.nodes.length
 case neg=>
  have hie:i=g.nodes.length:=by omega
  subst hie
  rw[List.take_of_length_le (by rw[Qd];exact Nat.le_refl _)]
  conv=>whnf
  (conv=>whnf);repeat' (first  |(refine kA ?_;conv=>whnf)|(refine Br.mk (fun hc=>?_) fun hc=>?_<;>first|exact hc.elim|conv=>whnf)|(refine kB ?_))
  all_goals first|(exfalso;omega)|skip
  refine⟨?_⟩
  show AW _ _ tR1 _ _ _
  refine AW.go (AP:=Ad Js) (x:=Gi tR1) (y:=tR2) Fq mixed d5.1 ?_
  conv=>whnf
  (conv=>whnf);repeat' (first  |(refine kA ?_;conv=>whnf)|(refine Br.mk (fun hc=>?_) fun hc=>?_<;>first|exact hc.elim|conv=>whnf)|(refine kB ?_))
  refine⟨?_⟩
  refine .inr ⟨(fun h=>by cases h),?_⟩
  show AW _ _ tb5 _ _ _
  refine AW.fin (AP:=Ad Js) (x:=tb5) Fq mixed c4.2 ?_
  conv=>whnf
  (conv=>whnf);repeat' (first  |(refine kA ?_;conv=>whnf)|(refine Br.mk (fun hc=>?_) fun hc=>?_<;>first|exact hc.elim|conv=>whnf)|(refine kB ?_))
  have VH:sub (vs pv (Ik types g)) 0 g.nodes.length=vs pv (Ik types g):=by
   have:sub (vs pv (Ik types g)) 0 (Ik types g).length=vs pv (Ik types g):=uV
   rwa [Qd]at this
  refine FD ⟨rfl,rfl,by rw[lV,Qd];omega⟩ ?_
  conv=>whnf
  refine CB VH ?_
  conv=>whnf
  (conv=>whnf);repeat' (first  |(refine kA ?_;conv=>whnf)|(refine Br.mk (fun hc=>?_) fun hc=>?_<;>first|exact hc.elim|conv=>whnf)|(refine kB ?_))
  refine⟨?_⟩
  exact⟨.inr rfl,_,rfl,rfl,by unfold TQ.out;rw[if_pos hck];rfl⟩
 conv=>whnf
 (conv=>whnf);repeat' (first  |(refine kA ?_;conv=>whnf)|(refine Br.mk (fun hc=>?_) fun hc=>?_<;>first|exact hc.elim|conv=>whnf)|(refine kB ?_))
 all_goals first|(exfalso;omega)|skip
 refine⟨?_⟩
 show AW _ _ tR1 _ _ _
 refine AW.go (AP:=Ad Js) (x:=Gi tR1) (y:=tR2) Fq mixed d5.1 ?_
 conv=>whnf
 (conv=>whnf);repeat' (first  |(refine kA ?_;conv=>whnf)|(refine Br.mk (fun hc=>?_) fun hc=>?_<;>first|exact hc.elim|conv=>whnf)|(refine kB ?_))
 refine⟨?_⟩
 show AW _ _ tR2 _ _ _
 refine AW.seq (x:=Gi tR2) (y:=Jr tR2) ?_
 rw[AhE]
 refine AW.block ?_
 refine AW.go (AP:=Ad Js) (x:=Gi tBk) (y:=tB1) Fq mixed d8.1 ?_
 conv=>whnf
 (conv=>whnf);repeat' (first  |(refine kA ?_;conv=>whnf)|(refine Br.mk (fun hc=>?_) fun hc=>?_<;>first|exact hc.elim|conv=>whnf)|(refine kB ?_))
 refine⟨?_⟩
 show AW _ _ tB1 _ _ _
 refine AW.go (AP:=Ad Js) (x:=Gi tB1) (y:=ZN) Fq mixed d9.1 ?_
 conv=>whnf
 (conv=>whnf);repeat' (first  |(refine kA ?_;conv=>whnf)|(refine Br.mk (fun hc=>?_) fun hc=>?_<;>first|exact hc.elim|conv=>whnf)|(refine kB ?_))
 refine⟨?_⟩
 refine AW.seq (x:=Gi ZN) (y:=Jr ZN) (Afq hck hE hlt d10.1 fun c' x=>?_)
 show AW _ _ (Jr ZN) _ _ _
 have htw:ZL types g (g.nodes[i]).id<2^62:=by
  have hlA:∀v,(JD types g.edges v).length≤1000:=fun v=>Nat.le_trans (QN (n:=0) (fun _=>Nat.le_refl _)) (by omega)
  have h1:=SH (f:=LU types g (g.nodes[i]).id) (b:=1000) (fun x=>Nat.le_trans NP (hlA _)) (L:=JD types g.edges (g.nodes[i]).id)
  have h2:=Nat.mul_le_mul_right 1000 (hlA (g.nodes[i]).id)
  unfold ZL
  omega
 have hsn:(Ik types g).take (i+1)=(Ik types g).take i++[((g.nodes[i]).id,((ZL types g (g.nodes[i]).id / 2:Nat):Int))]:=by
  rw[List.take_succ_eq_append_getElem (by rw[Qd];exact hlt)];unfold Ik;rw[List.getElem_map]
 refine AW.fin (AP:=Ad Js) (x:=Jr ZN) Fq mixed d10.2 ?_
 conv=>whnf
 (conv=>whnf);repeat' (first|(refine Al2 (ZL types g (g.nodes[i]).id) 2 rfl (by omega) ?_;conv=>whnf)|(refine Ij (f:=pv) (l:=(Ik types g).take i) (x:=((g.nodes[i]).id,((ZL types g (g.nodes[i]).id / 2:Nat):Int))) WY (by rw[htk]) (by rw[htk];omega) ?_;conv=>whnf)|(refine kA ?_;conv=>whnf)|(refine Br.mk (fun hc=>?_) fun hc=>?_<;>first|exact hc.elim|conv=>whnf)|(refine kB ?_))
 refine⟨?_⟩
 show AW _ _ (Jr tR2) _ _ _
 refine AW.fin (AP:=Ad Js) (x:=Jr tR2) Fq mixed d6.2 ?_
 conv=>whnf
 (conv=>whnf);repeat' (first  |(refine kA ?_;conv=>whnf)|(refine Br.mk (fun hc=>?_) fun hc=>?_<;>first|exact hc.elim|conv=>whnf)|(refine kB ?_))
 refine⟨?_⟩
 rw[htk,←hsn]
 exact .inl ⟨rfl,g.nodes.length-(i+1),by omega,i+1,_,_,rfl,by omega,rfl,by rw[decide_eq_true (show 0<i+1 by omega)]⟩
noncomputable def NZ (args:List AV) (s:Am):Option (AX×Am):=by
 classical exact if h:∃q:TQ,q.ok∧args=q.enc∧s=⟨[],0⟩then some (.ok (Classical.choose h).out,⟨[],0⟩)else none
theorem GP.JO {p q:GP} (h:p.av=q.av):p=q:=by
 obtain⟨k,a,b,c,d,e,f⟩:=p
 obtain⟨k',a',b',c',d',e',f'⟩:=q
 simp only[GP.av,AV.agg.injEq,List.cons.injEq,AV.str.injEq,AV.int.injEq,AV.sl.injEq,and_true,true_and]at h
 obtain⟨rfl,rfl,rfl,rfl,rfl,rfl,rfl⟩:=h
 rfl
theorem Lh {α:Type} {f:α→AV} (hf:∀a b,f a=f b→a=b):∀{l m:List α},vs f l=vs f m→l=m
 |[],[],_=>rfl
 |[],_::_,h=>by cases h
 |_::_,[],h=>by cases h
 |a::l,b::m,h=>by
  simp only[vs,List.map_cons,List.cons.injEq]at h
  rw[hf _ _ h.1,Lh hf h.2]
theorem GN.JO {p q:GN} (h:p.av=q.av):p=q:=by
 obtain⟨a,b,c,d,e⟩:=p
 obtain⟨a',b',c',d',e'⟩:=q
 simp only[GN.av,AV.agg.injEq,List.cons.injEq,AV.int.injEq,AV.sl.injEq,and_true,true_and]at h
 obtain⟨rfl,⟨rfl,h1⟩,rfl,h2⟩:=h
 obtain rfl:=Lh (fun a b h=>AV.str.inj h) h1
 obtain rfl:=Lh (fun a b h=>GP.JO h) h2
 rfl
theorem GE.JO {p q:GE} (h:p.av=q.av):p=q:=by
 obtain⟨a,b,c,d,e,f⟩:=p
 obtain⟨a',b',c',d',e',f'⟩:=q
 simp only[GE.av,AV.agg.injEq,List.cons.injEq,AV.int.injEq,AV.str.injEq,AV.sl.injEq,and_true,true_and]at h
 obtain⟨rfl,rfl,rfl,rfl,rfl,h2⟩:=h
 obtain rfl:=Lh (fun a b h=>GP.JO h) h2
 rfl
theorem GG.JO {p q:GG} (h:p.av=q.av):p=q:=by
 obtain⟨a,b,c,d,e,f⟩:=p
 obtain⟨a',b',c',d',e',f'⟩:=q
 simp only[GG.av,AV.agg.injEq,List.cons.injEq,AV.int.injEq,AV.sl.injEq,and_true,true_and]at h
 obtain⟨⟨rfl,h1⟩,⟨rfl,h2⟩,rfl,rfl⟩:=h
 obtain rfl:=Lh (fun a b h=>GN.JO h) h1
 obtain rfl:=Lh (fun a b h=>GE.JO h) h2
 rfl
theorem TQ.Xx {p q:TQ} (h:p.enc=q.enc):p=q:=by
 obtain⟨a,c,d⟩:=p
 obtain⟨a',c',d'⟩:=q
 simp only[TQ.enc,List.cons.injEq,AV.sl.injEq,and_true]at h
 obtain⟨h1,rfl,h2⟩:=h
 obtain rfl:=GG.JO h1
 obtain rfl:=Lh (fun a b h=>AV.str.inj h) h2
 rfl
theorem AaL {q:TQ} (hq:q.ok):NZ q.enc ⟨[],0⟩=some (.ok q.out,⟨[],0⟩):=by
 have hx:∃p:TQ,p.ok∧q.enc=p.enc∧(⟨[],0⟩:Am)=⟨[],0⟩:=⟨q,hq,rfl,rfl⟩
 unfold NZ
 rw[dif_pos hx]
 have:=TQ.Xx (Classical.choose_spec hx).2.1
 rw[← this]
theorem Akg:Au Tryz.prog fun f' args s=>if f'=21 then NZ args s else none:=by
 intro f0 args s out s' h
 replace h:(if f0=21 then NZ args s else none)=some (out,s'):=h
 rcases Decidable.em (f0=21)with hf|hf
 case inr=>rw[if_neg hf]at h;cases h
 rw[if_pos hf]at h
 subst hf
 unfold NZ at h
 split at h
 case isFalse=>cases h
 rename_i hx
 have hcs:=Classical.choose_spec hx
 simp only[Option.some.injEq,Prod.mk.injEq]at h
 obtain⟨rfl,rfl⟩:=h
 generalize Classical.choose hx=q at hcs
 obtain⟨hq,rfl,rfl⟩:=hcs
 refine fun w0 B Z φ w vs hI hargs=>.inl ⟨⟨_,Tryz.func21,rfl,by decide⟩,?_⟩
 obtain⟨b,hb,hcm,hrs,_⟩:=Uz x21.2
 obtain rfl:b=tb0:=by
  have:tF.body=some tb0:=by kernel_rfl
  exact Option.some.inj (hb.symm.trans this)
 refine(YT (R:=fun v=>v=q.out) Tryz.func21 hb hrs (of_decide_eq_true (by kernel_rfl)) (Amk hq hcm) hI hargs).mono ?_
 rintro e w1 ⟨v,rfl,Z',φ',hI',hL,hR⟩
 exact⟨Z',φ',hI',hL,hR⟩
noncomputable def Oh:List (Nat×G9):=(21,.ext NZ)::Js
theorem Aml:Ad Js 21=none:=by kernel_rfl
theorem upT:∀f a,Ad Js f=some a→Ad Oh f=some a:=V9 Aml
theorem Oi:∀f a,Ad tab f=some a→Ad Oh f=some a:=fun f a h=>upT f a (upM f a h)
theorem AhG:PK Tryz.prog (Ad Oh):=by
 intro f a h
 simp only[Oh,Ad]at h
 cases hb:Nat.beq 21 f with
 |false=>rw[hb,cond_false]at h;exact AbW f a h
 |true=>
  rw[hb,cond_true]at h
  have e:=Nat.eq_of_beq_eq_true hb
  subst e
  cases h
  exact Akg
theorem Abv (n:Nat):Au Tryz.prog (run (Ad Oh) n):=J7 mixed AhG n
theorem TQ.closed (q:TQ):q.out.closed=true:=by unfold TQ.out;split<;>rfl
theorem AaI {q:TQ} (hq:q.ok):Af (Ad Oh) 21 q.enc (· =q.out):=by
 refine⟨q.out,⟨1,?_⟩,rfl⟩
 have h1:run (Ad Oh) 1 21 q.enc ⟨[],0⟩=some (.ok q.out,⟨[],0⟩):=AaL hq
 simp only[Dp,h1]
 unfold TQ.out
 split<;>rfl
end
end AI
end Go.Proofs.YtchcadfjbkkgmaaGreatDoor
