/- tree: the reference's distances and numbers of shortest walks. Sorting numbers in place: the order. A call of an entry that the model answers. Sorting numbers in place: slices.Sort as an entry of the table. Maps of the call's own: entries struck out; maps to truth values. Tarjan's algorithm: what holds of its state, and its steps: plain. Tarjan's algorithm: a component leaves the stack: plain. component.Strong: the state in the store. A sorted list without its repeated elements. -/
import Derived.Test.YtchcadfjbkkgmaaGreatDoorDMae
import Derived.Test.YtchcadfjbkkgmaaGreatDoorDMag
import Derived.Test.YtchcadfjbkkgmaaGreatDoorDMai
import Derived.Test.YtchcadfjbkkgmaaGreatDoorDVa
import Derived.Test.YtchcadfjbkkgmaaGreatDoorDSqI
import Derived.Test.YtchcadfjbkkgmaaGreatDoorDCore
import Derived.Test.YtchcadfjbkkgmaaGreatDoorDMaf
import Derived.Test.YtchcadfjbkkgmaaGreatDoorDSe
set_option linter.unusedVariables false
set_option maxRecDepth 4000
namespace Go.Proofs.YtchcadfjbkkgmaaGreatDoor
namespace AI
def Es (A:Nat→Nat→Bool) (n i:Nat):AV:=.agg [.sl true (ints (Dj n (EG A n i))),.sl true (ints (Dj n fun v=>(Et A n i v:Int))),.bool false]
def stT (fD fC:Nat→Int) (n:Nat):List Obj:=[.arr 0 3 true true [.agg [.sl false [],.sl false [],.bool false]],.arr 3 1 true true (ints (Dj n fD)),.arr 6 1 true true (ints (Dj n fC)),.arr 8 3 true false [.agg [.own 1 3 0 n,.own 2 6 0 n,.bool false]]]
set_option maxHeartbeats 8000000 in
theorem Agw {T:List (List Bool)} {tn:Bool} {n i:Nat} (hT:SqT T) (hl:T.length=n) (hn:n≤12) (hi:i<n):
 Ah (Ac tab) 33 [.sl tn (vs UL T),.int .i64 i] (· =Es (MZ T) n i):=by
 have AmA:2 ^ n≤4096:=(Nat.pow_le_pow_right (by omega) hn:2 ^ n≤2 ^ 12)
 have lT:∀f:Nat→Int,(Dj n f).length=n:=fun f=>Jb
 subst hl
 have hsub:∀f:Nat→Int,sub (ints (Dj T.length f)) 0 T.length=ints (Dj T.length f):=fun f=>by
  have:=@uI (Dj T.length f)
  rwa [lT]at this
 unfold Es
 refine Ad rfl rfl ?_
 (conv=>whnf);repeat' (first  |(refine kA ?_;conv=>whnf)|(refine Br.mk (fun hc=>?_) fun hc=>?_<;>first|exact hc.elim|conv=>whnf)|(refine kB ?_))
 all_goals first|(exfalso;omega)|skip
 refine Ai (fun m env s=>∃(k c:Nat) (D:List Int),m=T.length-k∧k≤T.length∧D.length=T.length∧(∀ q (h:q<D.length),q<k→D[q]=-1)∧env=[(0,.sl tn (vs UL T)),(1,.int .i64 i),(4,.ref 0 0 0 0),(5,.ref 3 8 0 0),(6,.int .i64 k)]∧s=⟨[.arr 0 3 true true [.agg [.sl false [],.sl false [],.bool false]],.arr 3 1 true true (ints D),.arr 6 1 true true (ints (List.replicate T.length 0)),.arr 8 3 true false [.agg [.own 1 3 0 T.length,.own 2 6 0 T.length,.bool false]]],c⟩) ?_ _ _ _ ⟨0,_,List.replicate T.length 0,rfl,by omega,by simp,fun q h hq=>by omega,rfl,rfl⟩
 rintro _ _ _ ⟨k,c,D,rfl,hk,hDl,hD,rfl,rfl⟩
 refine⟨rfl,?_⟩
 by_cases hlt:k<T.length
 ·(conv=>whnf);repeat' (first  |(refine kA ?_;conv=>whnf)|(refine Br.mk (fun hc=>?_) fun hc=>?_<;>first|exact hc.elim|conv=>whnf)|(refine kB ?_))
  all_goals first
   |(exfalso;omega)
   |exact again.mk ⟨_,by omega,k+1,_,D.set k (-1),rfl,by omega,by rw[List.length_set];exact hDl,fun q h hq=>by
       rw[List.getElem_set]
       by_cases e:k=q
       ·rw[if_pos e]
       ·rw[if_neg e];exact hD q (by simpa using h) (by omega),rfl,rfl⟩
 obtain rfl:D=Dj T.length (fun _=>-1):=by
  apply List.ext_getElem
  ·rw[hDl,Jb]
  ·intro q h1 h2
   rw[BM,hD q h1 (by omega)]
 rw[Aap]
 clear hD hDl
 have s1:(Dj T.length (fun _=>-1)).set i 0=Dj T.length (PG (fun _=>-1) i 0):=Jf
 have s2:(Dj T.length (fun _=>0)).set i 1=Dj T.length (PG (fun _=>0) i 1):=Jf
 have l1:=lT (fun _=>-1)
 have l2:=lT (fun _=>0)
 (conv=>whnf);repeat' (first|(rw [s1];conv=>whnf)|(rw [s2];conv=>whnf)|(refine kA ?_;conv=>whnf)|(refine Br.mk (fun hc=>?_) fun hc=>?_<;>first|exact hc.elim|conv=>whnf)|(refine kB ?_))
 all_goals first|(exfalso;omega)|skip
 have hB0:=QT.start (A:=MZ T) hi
 refine Ai (fun m env s=>∃(d c:Nat) (fD fC:Nat→Int),m=T.length+1-d∧d≤T.length∧QT (MZ T) T.length i (d+1) 0 fD fC∧env=[(0,.sl tn (vs UL T)),(4,.ref 0 0 0 0),(5,.ref 3 8 0 0),(7,.int .i64 ((d+1:Nat):Int))]∧s=⟨stT fD fC T.length,c⟩) ?_ _ _ _ ⟨0,_,_,_,rfl,by omega,hB0,rfl,rfl⟩
 clear hB0 s1 s2 l1 l2 hlt hk
 rintro _ _ _ ⟨d,c,fD,fC,rfl,hd,hB,rfl,rfl⟩
 refine⟨rfl,?_⟩
 by_cases hdl:d+1<T.length
 case neg=>
  have e1:Dj T.length fD=Dj T.length (EG (MZ T) T.length i):=MH fun w hw=>(hB.done hi (by omega) hw).1
  have e2:Dj T.length fC=Dj T.length fun v=>(Et (MZ T) T.length i v:Int):=MH fun w hw=>(hB.done hi (by omega) hw).2
  unfold stT
  rw[e1,e2]
  (conv=>whnf);repeat' (first|(refine Ak ⟨rfl,by rw[lI,lT];omega⟩ ?_;conv=>whnf)|(refine AU (hsub _) ?_;conv=>whnf)|(refine kA ?_;conv=>whnf)|(refine Br.mk (fun hc=>?_) fun hc=>?_<;>first|exact hc.elim|conv=>whnf)|(refine kB ?_))
  all_goals first|rfl|(exfalso;omega)
 (conv=>whnf);repeat' (first  |(refine kA ?_;conv=>whnf)|(refine Br.mk (fun hc=>?_) fun hc=>?_<;>first|exact hc.elim|conv=>whnf)|(refine kB ?_))
 all_goals first|(exfalso;omega)|skip
 refine Ai (fun m env s=>∃(v c:Nat) (fD fC:Nat→Int),m=T.length-v∧v≤T.length∧QT (MZ T) T.length i (d+1) v fD fC∧env=[(0,.sl tn (vs UL T)),(4,.ref 0 0 0 0),(5,.ref 3 8 0 0),(7,.int .i64 ((d+1:Nat):Int)),(8,.int .i64 v)]∧s=⟨stT fD fC T.length,c⟩) ?_ _ _ _ ⟨0,_,_,_,rfl,by omega,hB,rfl,rfl⟩
 clear hB fD fC c
 rintro _ _ _ ⟨v,c,fD,fC,rfl,hv,hB,rfl,rfl⟩
 refine⟨rfl,?_⟩
 by_cases hvl:v<T.length
 case neg=>
  obtain rfl:v=T.length:=by omega
  have hB':=hB.round
  (conv=>whnf);repeat' (first  |(refine kA ?_;conv=>whnf)|(refine Br.mk (fun hc=>?_) fun hc=>?_<;>first|exact hc.elim|conv=>whnf)|(refine kB ?_))
  all_goals first
   |(exfalso;omega)
   |exact again.mk ⟨_,by omega,d+1,_,fD,fC,rfl,by omega,hB',rfl,rfl⟩
 have lD:=lT fD
 have lC:=lT fC
 have aD:(Dj T.length fD)[v]'(by rw[lT];exact hvl)=fD v:=BM _
 by_cases AgX:∃e,e≤d∧Ds (MZ T) T.length i v e
 ·obtain⟨e,he,hde⟩:=AgX
  have hB':=hB.skip he hde
  have hve:=(hB.at_ v hvl e hde (.inl (by omega))).1
  (conv=>whnf);repeat' (first  |(refine kA ?_;conv=>whnf)|(refine Br.mk (fun hc=>?_) fun hc=>?_<;>first|exact hc.elim|conv=>whnf)|(refine kB ?_))
  all_goals first
   |(exfalso;omega)
   |exact again.mk ⟨_,by omega,v+1,_,fD,fC,rfl,by omega,hB',rfl,rfl⟩
 have WR:∀e,e≤d→¬Ds (MZ T) T.length i v e:=fun e he h=>AgX ⟨e,he,h⟩
 obtain⟨hv1,hv2⟩:=hB.far hvl WR
 (conv=>whnf);repeat' (first  |(refine kA ?_;conv=>whnf)|(refine Br.mk (fun hc=>?_) fun hc=>?_<;>first|exact hc.elim|conv=>whnf)|(refine kB ?_))
 all_goals first|(exfalso;omega)|skip
 refine Ai (fun m env s=>∃(u c:Nat),m=T.length-u∧u≤T.length∧env=[(0,.sl tn (vs UL T)),(4,.ref 0 0 0 0),(5,.ref 3 8 0 0),(7,.int .i64 ((d+1:Nat):Int)),(8,.int .i64 v),(9,.int .i64 ((sg u (trF (MZ T) T.length i d v):Nat):Int)),(10,.int .i64 u)]∧s=⟨stT fD fC T.length,c⟩) ?_ _ _ _ ⟨0,_,rfl,by omega,rfl,rfl⟩
 rintro _ _ _ ⟨u,c,rfl,hu,rfl,rfl⟩
 refine⟨rfl,?_⟩
 by_cases hul:u<T.length
 case neg=>
  obtain rfl:u=T.length:=by omega
  rcases Vs (A:=MZ T) (i:=i) WR with⟨t1,t2,t3⟩|⟨t1,t2⟩
  ·have hle:=SL t1
   have hB':=hB.found t1
   have sD:(Dj T.length fD).set v ((d+1:Nat):Int)=Dj T.length (PG fD v ((d+1:Nat):Int)):=Jf
   have sC:(Dj T.length fC).set v ((wk (MZ T) T.length i (d+1) v:Nat):Int)=Dj T.length (PG fC v (wk (MZ T) T.length i (d+1) v)):=Jf
   rw[t2]
   generalize wk (MZ T) T.length i (d+1) v=W at*
   (conv=>whnf);repeat' (first|(rw [sD];conv=>whnf)|(rw [sC];conv=>whnf)|(refine kA ?_;conv=>whnf)|(refine Br.mk (fun hc=>?_) fun hc=>?_<;>first|exact hc.elim|conv=>whnf)|(refine kB ?_))
   all_goals first
        |(exfalso;omega)
        |exact again.mk ⟨_,by omega,v+1,_,_,_,rfl,by omega,hB',rfl,rfl⟩
  ·have hB':=hB.none t1
   rw[t2]
   (conv=>whnf);repeat' (first  |(refine kA ?_;conv=>whnf)|(refine Br.mk (fun hc=>?_) fun hc=>?_<;>first|exact hc.elim|conv=>whnf)|(refine kB ?_))
   all_goals first
        |(exfalso;omega)
        |exact again.mk ⟨_,by omega,v+1,_,fD,fC,rfl,by omega,hB',rfl,rfl⟩
 have hTu:(T[u]).length=T.length:=hT.2 _ (List.getElem_mem hul)
 have hvu:v<(T[u]).length:=by omega
 have hat:MZ T u v=(T[u])[v]:=by simp[MZ,hul,hvu]
 have nT:nth (vs UL T) (Int.toNat (Nat.cast u))=some (UL T[u]):=nVN hul
 unfold UL at nT
 have nB:nth (vs AV.bool T[u]) (Int.toNat (Nat.cast v))=some (.bool (MZ T u v)):=by rw[nVN hvu,hat]
 have aDu:(Dj T.length fD)[u]'(by rw[lT];exact hul)=fD u:=BM _
 have aCu:(Dj T.length fC)[u]'(by rw[lT];exact hul)=fC u:=BM _
 have hpr:=hB.prev hul
 have hsg:sg (u+1) (trF (MZ T) T.length i d v)=sg u (trF (MZ T) T.length i d v)+trF (MZ T) T.length i d v u:=rfl
 have hle:=Aik (A:=MZ T) (i:=i) WR (show u+1≤T.length by omega)
 by_cases c1:Ds (MZ T) T.length i u d
 ·have hfu:=hpr.2 c1
  have hcu:=hB.val hul c1
  by_cases c2:MZ T u v=true
  ·have hF:trF (MZ T) T.length i d v u=wk (MZ T) T.length i d u:=if_pos ⟨c2,c1⟩
   rw[c2]at nB
   rw[hF]at hsg
   have hmin:(if 1000000000000001<((sg u (trF (MZ T) T.length i d v):Nat):Int)+(Dj T.length fC)[u]'(by rw[lT];exact hul)then 1000000000000001 else((sg u (trF (MZ T) T.length i d v):Nat):Int)+(Dj T.length fC)[u]'(by rw[lT];exact hul))=((sg (u+1) (trF (MZ T) T.length i d v):Nat):Int):=by
        rw[if_neg (by omega)];omega
   (conv=>whnf);repeat' (first|(refine Au nT ?_;conv=>whnf)|(refine Au nB ?_;conv=>whnf)|(rw [hmin];conv=>whnf)|(refine kA ?_;conv=>whnf)|(refine Br.mk (fun hc=>?_) fun hc=>?_<;>first|exact hc.elim|conv=>whnf)|(refine kB ?_))
   all_goals first
        |(exfalso;omega)
        |exact again.mk ⟨_,by omega,u+1,_,rfl,by omega,rfl,rfl⟩
  ·have hF:trF (MZ T) T.length i d v u=0:=if_neg fun h=>c2 h.1
   rw[Bool.eq_false_iff.2 c2]at nB
   rw[hF,Nat.add_zero]at hsg
   (conv=>whnf);repeat' (first|(refine Au nT ?_;conv=>whnf)|(refine Au nB ?_;conv=>whnf)|(refine kA ?_;conv=>whnf)|(refine Br.mk (fun hc=>?_) fun hc=>?_<;>first|exact hc.elim|conv=>whnf)|(refine kB ?_))
   all_goals first
        |(exfalso;omega)
        |exact again.mk ⟨_,by omega,u+1,_,rfl,by omega,by rw[hsg];rfl,rfl⟩
 ·have hfu:fD u≠d:=fun h=>c1 (hpr.1 h)
  have hF:trF (MZ T) T.length i d v u=0:=if_neg fun h=>c1 h.2
  rw[hF,Nat.add_zero]at hsg
  (conv=>whnf);repeat' (first  |(refine kA ?_;conv=>whnf)|(refine Br.mk (fun hc=>?_) fun hc=>?_<;>first|exact hc.elim|conv=>whnf)|(refine kB ?_))
  all_goals first
   |(exfalso;omega)
   |exact again.mk ⟨_,by omega,u+1,_,rfl,by omega,by rw[hsg];rfl,rfl⟩
section
open Go.Sort
def ltJ (x y:Int):Bool:=decide (x<y)
theorem Me {x y:Int}:ltJ x y=true↔x<y:=by unfold ltJ;rw[decide_eq_true_eq]
theorem Jv {x y:Int}:ltJ x y=false↔¬x<y:=by rw[← Me];simp
theorem Aak:SWO ltJ where
 irrefl x:=Jv.2 (by omega)
 trans x y z h1 h2:=Me.2 (by have:=Me.1 h1;have:=Me.1 h2;omega)
 ntrans x y z h1 h2:=Jv.2 (by have:=Jv.1 h1;have:=Jv.1 h2;omega)
theorem Ahd (x:Int):(AV.int .i64 x).cells.length=1:=rfl
theorem AmV {x:Int}:Ah (Ac tab) 106 [.int .i64 x] (· =.bool (decide False)):=by
 refine Ad rfl rfl ?_
 (conv=>whnf);repeat' (first  |(refine kA ?_;conv=>whnf)|(refine Br.mk (fun hc=>?_) fun hc=>?_<;>first|exact hc.elim|conv=>whnf)|(refine kB ?_))
 all_goals first|exact absurd rfl hc|rfl
theorem AjB {x y:Int}:Ah (Ac tab) 66 [.int .i64 x,.int .i64 y] (· =.bool (ltJ x y)):=by
 refine Ad rfl rfl ?_
 (conv=>whnf);repeat' (first|(refine CP AmV (fun hc=>absurd hc id) (fun _=>?_);conv=>whnf)|(refine kA ?_;conv=>whnf)|(refine Br.mk (fun hc=>?_) fun hc=>?_<;>first|exact hc.elim|conv=>whnf)|(refine kB ?_))
 all_goals first|exact BN (by first|assumption|omega)|exact Bf (by first|assumption|omega)
attribute [irreducible] ltJ
end
theorem PN {AP:Nat→Option Hy} {f:Nat} {sp:List AV→Aj→Option (AA×Aj)} {args:List AV} {s s':Aj} {out:AA} {K:AA→Aj→Prop} (hf:AP f=some (.ext sp)) (h:sp args s=some (out,s')) (hK:K out s'):D6 AP f args s K:=
 ⟨1,out,s',by simp only[run,hf];exact h,hK⟩
section
open Go.Sort
theorem Agp (L:List Int):(Gf L).Pairwise fun x y=>ltJ y x=false:=(OB L).imp fun h=>Jv.2 (by omega)
theorem Z8 (L:List Int):Ye (vs (.int .i64) L)=some L:=Yf L
theorem Aht {ob0:Obj} {g len c:Nat} {nn cl:Bool} {L:List Int} (hl:L.length=len) (hs:len≤1099511627776):
 D6 (Ac tab) 64 [.own 0 g 0 len] ⟨[.arr g 1 nn cl (vs (.int .i64) L),ob0],c⟩ fun out s'=>∃c' W,out=.ok (.Ce [])∧s'=⟨[.arr g 1 nn cl (vs (.int .i64) W),ob0],c'⟩∧W.Perm L∧W.Pairwise (fun x y=>ltJ y x=false):=by
 have hsp:Gw [.own 0 g 0 len] ⟨[.arr g 1 nn cl (vs (.int .i64) L),ob0],c⟩=some (.ok (.Ce []),⟨[.arr g 1 nn cl (vs (.int .i64) (Gf L)),ob0],c⟩):=by
  show(if g=g∧1=1∧len=(vs (AV.int .i64) L).length∧len≤1099511627776 then _ else none)=_
  rw[if_pos ⟨rfl,rfl,by rw[lV,hl],hs⟩,Z8]
  rfl
 exact PN rfl hsp ⟨c,Gf L,rfl,rfl,Gy L,Agp L⟩
end
section
variable {α β:Type} [DecidableEq α]
def Ads (M:List (α×β)):Prop:=(M.map (·.1)).Nodup
theorem MK {M:List (α×β)} {k:α}:Dz M k=none↔k∉M.map (·.1):=by
 induction M with
 |nil=>simp[Dz]
 |cons p M ih=>
  obtain⟨a,b⟩:=p
  by_cases h:k=a
  ·subst h;simp[Dz]
  ·rw[show Dz ((a,b)::M) k=Dz M k from if_neg h,ih,List.map_cons,List.mem_cons]
   simp[h]
theorem AbQ {M:List (α×β)} {k x:α} {v:β}:x∈(EI M k v).map (·.1)↔x=k∨x∈M.map (·.1):=by
 have h:=@MK α β _ (EI M k v) x
 have h2:=@MK α β _ M x
 rw[JI]at h
 by_cases e:x=k
 ·subst e
  rw[if_pos rfl]at h
  refine⟨fun _=>.inl rfl,fun _=>Classical.byContradiction fun hc=>by have:=h.2 hc;cases this⟩
 ·rw[if_neg e]at h
  constructor
  ·intro hx
   refine .inr (Classical.byContradiction fun hc=>(h.1 (h2.2 hc)) hx)
  ·rintro(hx|hx)
   ·exact absurd hx e
   ·exact Classical.byContradiction fun hc=>(h2.1 (h.2 hc)) hx
theorem Zl {M:List (α×β)} (hn:Ads M) (k:α) (v:β):Ads (EI M k v):=by
 induction M with
 |nil=>simp[Ads,EI]
 |cons p M ih=>
  obtain⟨a,b⟩:=p
  have hn':=List.nodup_cons.1 hn
  by_cases e:k=a
  ·subst e
   rw[show EI ((k,b)::M) k v=(k,v)::M from if_pos rfl]
   exact List.nodup_cons.2 hn'
  ·rw[show EI ((a,b)::M) k v=(a,b)::EI M k v from if_neg e]
   refine List.nodup_cons.2 ⟨fun h=>?_,ih hn'.2⟩
   rcases AbQ.1 h with h|h
   ·exact e h.symm
   ·exact hn'.1 h
variable {fk:α→AV} {fv:β→AV} {t:I9}
end
abbrev Cb (M:List (Int×Bool)):List (AV×AV):=Ia (.int .i64) .bool M
theorem msT {M:List (Int×Bool)} {k:Int} {v:Bool} {K:List (AV×AV)→Prop} (h:K (Cb (EI M k v))):XH .int (.int .i64 k) (.bool v) (Cb M) K:=NT EK h
section
inductive YG (nx:Int→List Int) (a:Int):Int→Prop
 |refl:YG nx a a
 |step {b c:Int}:YG nx a b→c∈nx b→YG nx a c
theorem YG.trans {nx:Int→List Int} {a b c:Int} (h:YG nx a b) (k:YG nx b c):YG nx a c:=by
 induction k with
 |refl=>exact h
 |step _ hc ih=>exact .step ih hc
theorem YG.one {nx:Int→List Int} {a b:Int} (h:b∈nx a):YG nx a b:=.step .refl h
def Least (nx:Int→List Int) (v x:Int):Prop:=YG nx v x∧YG nx x v∧∀u,YG nx v u→YG nx u v→x≤u
def upd {α:Type} (f:Int→α) (a:Int) (b:α):Int→α:=fun x=>if x=a then b else f x
theorem Iz {α:Type} {f:Int→α} {a:Int} {b:α}:upd f a b a=b:=if_pos rfl
theorem upd_ne {α:Type} {f:Int→α} {a x:Int} {b:α} (h:x≠a):upd f a b x=f x:=if_neg h
structure TJ where
 n:Nat
 vis:Int→Prop
 ix:Int→Nat
 low:Int→Nat
 S:List Int
 T:List (Int×Nat)
 sm:Int→Int
def Ux (T:List (Int×Nat)) (v:Int):Prop:=∀p∈T,p.1≠v
structure KH (nx:Int→List Int) (s:TJ):Prop where
 vlt:∀v,s.vis v→s.ix v<s.n
 inj:∀v w,s.vis v→s.vis w→s.ix v=s.ix w→v=w
 sV:∀v∈s.S,s.vis v
 sI:s.S.Pairwise (fun a b=>s.ix a<s.ix b)
 tS:∀p∈s.T,p.1∈s.S
 tI:s.T.Pairwise (fun a b=>s.ix b.1<s.ix a.1)
 tR:∀p∈s.T,∀v∈s.S,s.ix p.1≤s.ix v→YG nx p.1 v
 tA:∀p∈s.T,p.2≤(nx p.1).length∧∀j w,j<p.2→(nx p.1)[j]?=some w→s.vis w
 lf:∀v,s.vis v→Ux s.T v→∀w∈nx v,s.vis w
 pp:∀v,s.vis v→v∉s.S→∀w∈nx v,s.vis w∧w∉s.S
 lo:∀v∈s.S,s.low v≤s.ix v∧∃w∈s.S,s.ix w=s.low v∧YG nx v w
 le:∀v∈s.S,∀w∈s.S,w∈nx v→(∀ p∈s.T,p.1=v→∃j,j<p.2∧(nx v)[j]?=some w)→s.low v≤s.ix w
 lc:∀v∈s.S,Ux s.T v→∀p∈s.T,s.ix p.1<s.ix v→(∀ q∈s.T,s.ix q.1<s.ix v→s.ix q.1≤s.ix p.1)→s.low p.1≤s.low v
 ll:∀v∈s.S,Ux s.T v→s.low v<s.ix v
 rt:∀v∈s.S,∃p∈s.T,s.ix p.1≤s.ix v
 ok:∀v,s.vis v→v∉s.S→Least nx v (s.sm v)
variable {nx:Int→List Int} {s:TJ}
theorem KH.none {ix low:Int→Nat} {sm:Int→Int}:KH nx ⟨0,fun _=>False,ix,low,[],[],sm⟩ where
 vlt:=fun _ h=>h.elim
 inj:=fun _ _ h=>h.elim
 sV:=fun _ h=>by cases h
 sI:=List.Pairwise.nil
 tS:=fun _ h=>by cases h
 tI:=List.Pairwise.nil
 tR:=fun _ h=>by cases h
 tA:=fun _ h=>by cases h
 lf:=fun _ h=>h.elim
 pp:=fun _ h=>h.elim
 lo:=fun _ h=>by cases h
 le:=fun _ h=>by cases h
 lc:=fun _ h=>by cases h
 ll:=fun _ h=>by cases h
 rt:=fun _ h=>by cases h
 ok:=fun _ h=>h.elim
abbrev Ahk (s:TJ) (m:Int) (T1:List (Int×Nat)):TJ:=⟨s.n+1,fun v=>s.vis v∨v=m,upd s.ix m s.n,upd s.low m s.n,s.S++[m],(m,0)::T1,s.sm⟩
structure Goes (nx:Int→List Int) (s:TJ) (m:Int) (T1:List (Int×Nat)):Prop where
 nm:T1.map Prod.fst=s.T.map Prod.fst
 old:∀p∈T1,p∈s.T∨(∃ q,s.T.head?=some q∧q.1=p.1∧p.2=q.2+1∧(nx p.1)[q.2]?=some m)
 top:∀p,s.T.head?=some p→m∈nx p.1
theorem Oo {T1 T:List (Int×Nat)} (h:T1.map Prod.fst=T.map Prod.fst) {v:Int}:(∃ p∈T1,p.1=v)↔∃p∈T,p.1=v:=by
 have e:∀{L:List (Int×Nat)},(∃ p∈L,p.1=v)↔v∈L.map Prod.fst:=fun{L}=>by rw[List.mem_map]
 rw[e,e,h]
theorem Y1 {T1 T:List (Int×Nat)} (h:T1.map Prod.fst=T.map Prod.fst) {p:Int×Nat} (hp:p∈T1):∃q∈T,q.1=p.1:=(Oo h).1 ⟨p,hp,rfl⟩
theorem Afb {T1 T:List (Int×Nat)} (h:T1.map Prod.fst=T.map Prod.fst) {v:Int}:Ux T1 v↔Ux T v:=by
 have:=Oo h (v:=v)
 unfold Ux
 constructor
 ·intro k p hp e;obtain⟨q,hq,eq⟩:=this.2 ⟨p,hp,e⟩;exact k q hq eq
 ·intro k p hp e;obtain⟨q,hq,eq⟩:=this.1 ⟨p,hp,e⟩;exact k q hq eq
theorem Ahl {R:Int→Int→Prop} {T1 T:List (Int×Nat)} (h:T1.map Prod.fst=T.map Prod.fst) (k:T.Pairwise fun a b=>R a.1 b.1):T1.Pairwise fun a b=>R a.1 b.1:=by
 have e:∀{L:List (Int×Nat)},(L.map Prod.fst).Pairwise R↔L.Pairwise fun a b=>R a.1 b.1:=fun{L}=>List.pairwise_map
 rw[← e]at k ⊢
 rw[h];exact k
theorem KH.enter (h:KH nx s) {m:Int} {T1:List (Int×Nat)} (hm:¬s.vis m) (g:Goes nx s m T1):KH nx (Ahk s m T1):=by
 have Afc:upd s.ix m s.n m=s.n:=Iz
 have hix:∀v,s.vis v→upd s.ix m s.n v=s.ix v:=fun v hv=>upd_ne fun e=>hm (e▸hv)
 have hlow:∀v,s.vis v→upd s.low m s.n v=s.low v:=fun v hv=>upd_ne fun e=>hm (e▸hv)
 have hS:∀v∈s.S++[m],v∈s.S∨v=m:=fun v hv=>by simpa using hv
 have hTS:∀p∈T1,p.1∈s.S:=fun p hp=>by obtain⟨q,hq,e⟩:=Y1 g.nm hp;rw[← e];exact h.tS q hq
 have hTv:∀p∈T1,s.vis p.1:=fun p hp=>h.sV _ (hTS p hp)
 have hmS:m∉s.S:=fun hx=>hm (h.sV _ hx)
 have hoff:∀v,Ux ((m,0)::T1) v→v≠m∧Ux s.T v:=fun v hv=>⟨fun e=>hv (m,0) (by simp) e.symm,(Afb g.nm).1 fun p hp=>hv p (by simp[hp])⟩
 have htop:∀v∈s.S,∃p,s.T.head?=some p∧True:=fun v hv=>by
  obtain⟨p,hp,_⟩:=h.rt v hv
  cases hT:s.T with
  |nil=>rw[hT]at hp;cases hp
  |cons a r=>exact⟨a,rfl,trivial⟩
 have hhead:∀p,s.T.head?=some p→∀q∈s.T,s.ix q.1≤s.ix p.1:=fun p hp q hq=>by
  have hI:=h.tI
  cases hT:s.T with
  |nil=>rw[hT]at hq;cases hq
  |cons a r=>
   rw[hT]at hp hq hI
   simp only[List.head?_cons,Option.some.injEq]at hp
   subst hp
   rcases List.mem_cons.1 hq with rfl|hq
   ·exact Nat.le_refl _
   ·exact Nat.le_of_lt ((List.pairwise_cons.1 hI).1 q hq)
 refine⟨?_,?_,?_,?_,?_,?_,?_,?_,?_,?_,?_,?_,?_,?_,?_,?_⟩
 ·rintro v (hv|rfl)
  ·show upd s.ix m s.n v<s.n+1
   rw[hix v hv];have:=h.vlt v hv;omega
  ·show upd s.ix v s.n v<s.n+1
   rw[Iz];omega
 ·rintro v w (hv|rfl) (hw|rfl) e
  ·replace e:upd s.ix m s.n v=upd s.ix m s.n w:=e
   rw[hix v hv,hix w hw]at e;exact h.inj v w hv hw e
  ·replace e:upd s.ix w s.n v=upd s.ix w s.n w:=e
   rw[hix v hv,Iz]at e;have:=h.vlt v hv;omega
  ·replace e:upd s.ix v s.n v=upd s.ix v s.n w:=e
   rw[hix w hw,Iz]at e;have:=h.vlt w hw;omega
  ·rfl
 ·intro v hv
  rcases hS v hv with hv|rfl
  ·exact .inl (h.sV v hv)
  ·exact .inr rfl
 ·show(s.S++[m]).Pairwise fun a b=>upd s.ix m s.n a<upd s.ix m s.n b
  rw[List.pairwise_append]
  refine⟨h.sI.imp_of_mem fun ha hb hab=>by rw[hix _ (h.sV _ ha),hix _ (h.sV _ hb)];exact hab,List.pairwise_singleton _ _,fun a ha b hb=>?_⟩
  rw[List.mem_singleton]at hb
  subst hb
  rw[hix a (h.sV a ha),Afc];exact h.vlt a (h.sV a ha)
 ·intro p hp
  show p.1∈s.S++[m]
  rcases List.mem_cons.1 hp with rfl|hp
  ·simp
  ·simp[hTS p hp]
 ·show((m,0)::T1).Pairwise fun a b=>upd s.ix m s.n b.1<upd s.ix m s.n a.1
  refine List.pairwise_cons.2 ⟨fun p hp=>?_,?_⟩
  ·rw[hix _ (hTv p hp),Afc];exact h.vlt _ (hTv p hp)
  ·have hp:=Ahl (R:=fun a b=>s.ix b<s.ix a) g.nm h.tI
   exact hp.imp_of_mem fun ha hb hab=>by rw[hix _ (hTv _ ha),hix _ (hTv _ hb)];exact hab
 ·intro p hp v hv hle
  replace hle:upd s.ix m s.n p.1≤upd s.ix m s.n v:=hle
  rcases List.mem_cons.1 hp with rfl|hp
  ·rcases hS v hv with hv|rfl
   ·rw[hix v (h.sV v hv)]at hle
    replace hle:upd s.ix m s.n m≤s.ix v:=hle
    rw[Afc]at hle;have:=h.vlt v (h.sV v hv);omega
   ·exact .refl
  ·obtain⟨q,hq,e⟩:=Y1 g.nm hp
   have hpS:=hTS p hp
   rcases hS v hv with hv|rfl
   ·rw[hix _ (hTv p hp),hix v (h.sV v hv)]at hle
    rw[← e]at hle ⊢;exact h.tR q hq v hv hle
   ·obtain⟨r,hr,_⟩:=htop p.1 hpS
    have h1:=hhead r hr q hq
    have hrm:r∈s.T:=List.mem_of_head? hr
    rw[← e]
    exact .step (h.tR q hq r.1 (h.tS r hrm) h1) (g.top r hr)
 ·intro p hp
  rcases List.mem_cons.1 hp with rfl|hp
  ·exact⟨Nat.zero_le _,fun j w hj=>absurd hj (Nat.not_lt_zero _)⟩
  ·rcases g.old p hp with hq|⟨q,hq,e1,e2,e3⟩
   ·exact⟨(h.tA p hq).1,fun j w hj hw=>.inl ((h.tA p hq).2 j w hj hw)⟩
   ·have hqm:q∈s.T:=List.mem_of_head? hq
    have hk:=h.tA q hqm
    rw[e1]at hk
    have hlt:q.2<(nx p.1).length:=(List.getElem?_eq_some_iff.1 e3).1
    refine⟨by omega,fun j w hj hw=>?_⟩
    by_cases hjq:j<q.2
    ·exact .inl (hk.2 j w hjq hw)
    ·obtain rfl:j=q.2:=by omega
     rw[e3]at hw
     exact .inr (Option.some.inj hw).symm
 ·rintro v hv ho w hw
  obtain⟨o1,o2⟩:=hoff v ho
  rcases hv with hv|hv
  ·exact .inl (h.lf v hv o2 w hw)
  ·exact absurd hv o1
 ·rintro v hv hns w hw
  have AcN:v∉s.S∧v≠m:=⟨fun h=>hns (by show v∈s.S++[m];simp[h]),fun h=>hns (by show v∈s.S++[m];simp[h])⟩
  rcases hv with hv|hv
  ·obtain⟨a,b⟩:=h.pp v hv AcN.1 w hw
   refine⟨.inl a,fun hx=>?_⟩
   rcases hS w hx with hx|rfl
   ·exact b hx
   ·exact hm a
  ·exact absurd hv AcN.2
 ·intro v hv
  show upd s.low m s.n v≤upd s.ix m s.n v∧∃w∈s.S++[m],upd s.ix m s.n w=upd s.low m s.n v∧YG nx v w
  rcases hS v hv with hv|rfl
  ·rw[hlow v (h.sV v hv),hix v (h.sV v hv)]
   obtain⟨a,w,b,c,d⟩:=h.lo v hv
   exact⟨a,w,by simp[b],by rw[hix w (h.sV w b)];exact c,d⟩
  ·rw[Iz,Iz]
   exact⟨Nat.le_refl _,v,by simp,Iz,.refl⟩
 ·intro v hv w hw he hd
  show upd s.low m s.n v≤upd s.ix m s.n w
  rcases hS v hv with hv|rfl
  ·rw[hlow v (h.sV v hv)]
   have hvS:v∈s.S:=hv
   rcases hS w hw with hw|rfl
   ·rw[hix w (h.sV w hw)]
    refine h.le v hv w hw he fun p hp e=>?_
    obtain⟨q,hq,eq⟩:=(Oo g.nm).2 ⟨p,hp,e⟩
    obtain⟨j,hj,hjw⟩:=hd q (by show q∈(m,0)::T1;simp[hq]) eq
    rcases g.old q hq with ho|⟨r,hr,a1,a2,a3⟩
    ·have:q=p:=by
       have hI:=h.tI
       refine Classical.byContradiction fun hne=>?_
       have hlt:s.ix q.1≠s.ix p.1:=by
        obtain⟨i1,hi1,rfl⟩:=List.getElem_of_mem ho
        obtain⟨i2,hi2,rfl⟩:=List.getElem_of_mem hp
        rcases Nat.lt_trichotomy i1 i2 with hh|hh|hh
        ·have:=List.pairwise_iff_getElem.1 hI i1 i2 hi1 hi2 hh;omega
        ·subst hh;exact absurd rfl hne
        ·have:=List.pairwise_iff_getElem.1 hI i2 i1 hi2 hi1 hh;omega
       exact hlt (by rw[eq,e])
     subst this
     exact⟨j,hj,hjw⟩
    ·have hrp:r=p:=by
       have hI:=h.tI
       have hrm:r∈s.T:=List.mem_of_head? hr
       refine Classical.byContradiction fun hne=>?_
       have hlt:s.ix r.1≠s.ix p.1:=by
        obtain⟨i1,hi1,rfl⟩:=List.getElem_of_mem hrm
        obtain⟨i2,hi2,rfl⟩:=List.getElem_of_mem hp
        rcases Nat.lt_trichotomy i1 i2 with hh|hh|hh
        ·have:=List.pairwise_iff_getElem.1 hI i1 i2 hi1 hi2 hh;omega
        ·subst hh;exact absurd rfl hne
        ·have:=List.pairwise_iff_getElem.1 hI i2 i1 hi2 hi1 hh;omega
       exact hlt (by rw[a1,eq,e])
     subst hrp
     by_cases hjr:j<r.2
     ·exact⟨j,hjr,hjw⟩
     ·exfalso
      have:j=r.2:=by omega
      subst this
      rw[← eq,a3]at hjw
      have:=Option.some.inj hjw
      subst this
      exact hmS hw
   ·rw[Iz]
    have:=(h.lo v hvS).1
    have:=h.vlt v (h.sV v hvS)
    omega
  ·obtain⟨j,hj,_⟩:=hd (v,0) (by show(v,0)∈(v,0)::T1;simp) rfl
   exact absurd hj (Nat.not_lt_zero _)
 ·intro v hv ho p hp hlt hmax
  obtain⟨o1,o2⟩:=hoff v ho
  have hv':v∈s.S:=(hS v hv).resolve_right o1
  replace hlt:upd s.ix m s.n p.1<upd s.ix m s.n v:=hlt
  show upd s.low m s.n p.1≤upd s.low m s.n v
  rw[hix v (h.sV v hv')]at hlt
  rcases List.mem_cons.1 hp with rfl|hp
  ·replace hlt:upd s.ix m s.n m<s.ix v:=hlt
   rw[Afc]at hlt;have:=h.vlt v (h.sV v hv');omega
  ·rw[hix _ (hTv p hp)]at hlt
   rw[hlow _ (hTv p hp),hlow v (h.sV v hv')]
   obtain⟨q,hq,e⟩:=Y1 g.nm hp
   rw[← e]at hlt ⊢
   refine h.lc v hv' o2 q hq hlt fun r hr hrl=>?_
   obtain⟨r',hr',e'⟩:=(Oo g.nm).2 ⟨r,hr,rfl⟩
   have:=hmax r' (by show r'∈(m,0)::T1;simp[hr']) (by show upd s.ix m s.n r'.1<upd s.ix m s.n v;rw[hix _ (hTv r' hr'),hix v (h.sV v hv'),e'];exact hrl)
   replace this:upd s.ix m s.n r'.1≤upd s.ix m s.n p.1:=this
   rw[hix _ (hTv r' hr'),hix _ (hTv p hp),e',←e]at this
   exact this
 ·intro v hv ho
  obtain⟨o1,o2⟩:=hoff v ho
  have hv':v∈s.S:=(hS v hv).resolve_right o1
  show upd s.low m s.n v<upd s.ix m s.n v
  rw[hlow v (h.sV v hv'),hix v (h.sV v hv')]
  exact h.ll v hv' o2
 ·intro v hv
  rcases hS v hv with hv|rfl
  ·obtain⟨p,hp,hle⟩:=h.rt v hv
   obtain⟨q,hq,e⟩:=(Oo g.nm).2 ⟨p,hp,rfl⟩
   refine⟨q,by show q∈(m,0)::T1;simp[hq],?_⟩
   show upd s.ix m s.n q.1≤upd s.ix m s.n v
   rw[hix _ (hTv q hq),hix v (h.sV v hv),e];exact hle
  ·exact⟨(v,0),by show(v,0)∈(v,0)::T1;simp,Nat.le_refl _⟩
 ·rintro v hv hns
  have AcN:v∉s.S∧v≠m:=⟨fun h=>hns (by show v∈s.S++[m];simp[h]),fun h=>hns (by show v∈s.S++[m];simp[h])⟩
  rcases hv with hv|hv
  ·exact h.ok v hv AcN.1
  ·exact absurd hv AcN.2
theorem KH.uniq (h:KH nx s) {p q:Int×Nat} (hp:p∈s.T) (hq:q∈s.T) (e:p.1=q.1):p=q:=by
 have hI:=h.tI
 refine Classical.byContradiction fun hne=>?_
 have hlt:s.ix p.1≠s.ix q.1:=by
  obtain⟨i1,hi1,rfl⟩:=List.getElem_of_mem hp
  obtain⟨i2,hi2,rfl⟩:=List.getElem_of_mem hq
  rcases Nat.lt_trichotomy i1 i2 with hh|hh|hh
  ·have:=List.pairwise_iff_getElem.1 hI i1 i2 hi1 hi2 hh;omega
  ·subst hh;exact absurd rfl hne
  ·have:=List.pairwise_iff_getElem.1 hI i2 i1 hi2 hi1 hh;omega
 exact hlt (by rw[e])
theorem KH.below (h:KH nx s) {t:Int} {k:Nat} {T0:List (Int×Nat)} (hT:s.T=(t,k)::T0) {p:Int×Nat} (hp:p∈T0):s.ix p.1<s.ix t:=by
 have hI:=h.tI
 rw[hT]at hI
 exact(List.pairwise_cons.1 hI).1 p hp
abbrev Afd (s:TJ) (t:Int) (k:Nat) (T0:List (Int×Nat)) (m:Int):TJ:=⟨s.n,s.vis,s.ix,if m∈s.S then upd s.low t (min (s.low t) (s.ix m))else s.low,s.S,(t,k+1)::T0,s.sm⟩
theorem KH.see (h:KH nx s) {t m:Int} {k:Nat} {T0:List (Int×Nat)} (hT:s.T=(t,k)::T0) (hk:(nx t)[k]?=some m) (hm:s.vis m):KH nx (Afd s t k T0 m):=by
 have hmem:∀p,p∈(t,k+1)::T0→p=(t,k+1)∨p∈T0:=fun p hp=>List.mem_cons.1 hp
 have h0:(t,k)∈s.T:=by rw[hT];simp
 have hin:∀p∈T0,p∈s.T:=fun p hp=>by rw[hT];simp[hp]
 have htS:=h.tS _ h0
 have hmk:m∈nx t:=List.mem_of_getElem? hk
 have hoff:∀v,Ux ((t,k+1)::T0) v→Ux s.T v∧v≠t:=fun v hv=>⟨fun p hp e=>by
  rw[hT]at hp
  rcases List.mem_cons.1 hp with rfl|hp
  ·exact hv (t,k+1) (by simp) e
  ·exact hv p (by simp[hp]) e,fun e=>hv (t,k+1) (by simp) e.symm⟩
 have hlow:(Afd s t k T0 m).low=if m∈s.S then upd s.low t (min (s.low t) (s.ix m))else s.low:=rfl
 have hle:∀v,(Afd s t k T0 m).low v≤s.low v:=fun v=>by
  classical
  rw[hlow]
  split
  ·by_cases e:v=t
   ·rw[e,Iz];omega
   ·rw[upd_ne e];exact Nat.le_refl _
  ·exact Nat.le_refl _
 have hne:∀v,v≠t→(Afd s t k T0 m).low v=s.low v:=fun v e=>by
  classical
  rw[hlow]
  split
  ·rw[upd_ne e]
  ·rfl
 have hbk:∀p∈(t,k+1)::T0,∃q∈s.T,q.1=p.1:=fun p hp=>by
  rcases hmem p hp with rfl|hp
  ·exact⟨_,h0,rfl⟩
  ·exact⟨p,hin p hp,rfl⟩
 have hfw:∀q∈s.T,∃p∈(t,k+1)::T0,p.1=q.1:=fun q hq=>by
  rw[hT]at hq
  rcases List.mem_cons.1 hq with rfl|hq
  ·exact⟨(t,k+1),by simp,rfl⟩
  ·exact⟨q,by simp[hq],rfl⟩
 refine⟨h.vlt,h.inj,h.sV,h.sI,?_,?_,?_,?_,?_,h.pp,?_,?_,?_,?_,?_,h.ok⟩
 ·intro p hp
  obtain⟨q,hq,e⟩:=hbk p hp
  rw[← e];exact h.tS q hq
 ·have hI:=h.tI
  rw[hT]at hI
  exact List.pairwise_cons.2 ⟨(List.pairwise_cons.1 hI).1,(List.pairwise_cons.1 hI).2⟩
 ·intro p hp v hv hlt
  obtain⟨q,hq,e⟩:=hbk p hp
  replace hlt:s.ix p.1≤s.ix v:=hlt
  rw[← e]at hlt ⊢;exact h.tR q hq v hv hlt
 ·intro p hp
  rcases hmem p hp with rfl|hp
  ·have hA:=h.tA _ h0
   have hl:k<(nx t).length:=(List.getElem?_eq_some_iff.1 hk).1
   refine⟨hl,fun j w hj hw=>?_⟩
   by_cases hjk:j<k
   ·exact hA.2 j w hjk hw
   ·replace hj:j<k+1:=hj
    obtain rfl:j=k:=by omega
    replace hw:(nx t)[j]?=some w:=hw
    rw[hk]at hw;cases hw;exact hm
  ·exact h.tA p (hin p hp)
 ·intro v hv ho
  exact h.lf v hv (hoff v ho).1
 ·intro v hv
  obtain⟨a,w,b,c,d⟩:=h.lo v hv
  refine⟨Nat.le_trans (hle v) a,?_⟩
  by_cases e:v=t
  ·subst e
   classical
   rw[hlow]
   split
   ·rename_i hmS
    rw[Iz]
    by_cases hc:s.low v≤s.ix m
    ·exact⟨w,b,by show s.ix w=_;rw[c];omega,d⟩
    ·exact⟨m,hmS,by show s.ix m=_;omega,.one hmk⟩
   ·exact⟨w,b,c,d⟩
  ·exact⟨w,b,by show s.ix w=_;rw[hne v e];exact c,d⟩
 ·intro v hv w hw he hd
  by_cases e:v=t
  ·subst e
   obtain⟨j,hj,hjw⟩:=hd (v,k+1) (by show(v,k+1)∈(v,k+1)::T0;simp) rfl
   by_cases hjk:j<k
   ·refine Nat.le_trans (hle v) (h.le v hv w hw he fun p hp e=>?_)
    obtain rfl:=h.uniq hp h0 e
    exact⟨j,hjk,hjw⟩
   ·replace hj:j<k+1:=hj
    obtain rfl:j=k:=by omega
    rw[hk]at hjw
    cases hjw
    classical
    rw[hlow,if_pos hw,Iz]
    exact Nat.min_le_right _ _
  ·rw[hne v e]
   refine h.le v hv w hw he fun p hp ep=>?_
   rw[hT]at hp
   rcases List.mem_cons.1 hp with rfl|hp
   ·exact absurd ep.symm e
   ·exact hd p (by show p∈(t,k+1)::T0;simp[hp]) ep
 ·intro v hv ho p hp hlt hmax
  obtain⟨o1,o2⟩:=hoff v ho
  rw[hne v o2]
  obtain⟨q,hq,e⟩:=hbk p hp
  refine Nat.le_trans (hle p.1) ?_
  rw[← e]at hlt ⊢
  refine h.lc v hv o1 q hq hlt fun r hr hrl=>?_
  obtain⟨r',hr',e'⟩:=hfw r hr
  have:=hmax r' hr' (by rw[e'];exact hrl)
  rw[e',←e]at this
  exact this
 ·intro v hv ho
  obtain⟨o1,o2⟩:=hoff v ho
  rw[hne v o2]
  exact h.ll v hv o1
 ·intro v hv
  obtain⟨p,hp,hl⟩:=h.rt v hv
  obtain⟨q,hq,e⟩:=hfw p hp
  exact⟨q,hq,by show s.ix q.1≤_;rw[e];exact hl⟩
end
section
variable {nx:Int→List Int} {s:TJ}
end
theorem Si {α:Type} {l r:List α} {i:Nat} (h:i<l.length):nth (l++r) i=nth l i:=by
 rw[Ar,Ar,List.getElem?_append_left h]
theorem UU {α:Type} {l:List α} {x:α}:nth (l++[x]) l.length=some x:=by
 rw[Ar,List.getElem?_append_right (Nat.le_refl _)];simp
theorem MX {α:Type} {l:List α} {i:Nat} {x y:α} (h:nth l i=some y):nth (l.set i x) i=some x:=by
 rw[Ar,List.getElem?_set_self (BZ h)]
theorem Qm {α:Type} {l:List α} {i j:Nat} {x:α} (h:i≠j):nth (l.set i x) j=nth l j:=by
 rw[Ar,Ar,List.getElem?_set_ne h]
structure Gq (σ σ':List Obj) (F:List Nat):Prop where
 len:σ.length≤σ'.length
 eq:∀o,o<σ.length→o∉F→nth σ' o=nth σ o
theorem Gq.refl {σ:List Obj} {F:List Nat}:Gq σ σ F:=⟨Nat.le_refl _,fun _ _ _=>rfl⟩
theorem Gq.trans {σ σ1 σ2:List Obj} {F F':List Nat} (h:Gq σ σ1 F) (k:Gq σ1 σ2 F'):Gq σ σ2 (F++F'):=
 ⟨Nat.le_trans h.len k.len,fun o ho hf=>by
  rw[List.mem_append]at hf
  exact(k.eq o (Nat.lt_of_lt_of_le ho h.len) fun e=>hf (.inr e)).trans (h.eq o ho fun e=>hf (.inl e))⟩
theorem Gq.mono {σ σ':List Obj} {F F':List Nat} (h:Gq σ σ' F) (hf:∀o∈F,o∈F'∨σ.length≤o):Gq σ σ' F':=
 ⟨h.len,fun o ho hn=>h.eq o ho fun hm=>(hf o hm).elim hn fun h=>by omega⟩
theorem Gq.get {σ σ':List Obj} {F:List Nat} {o:Nat} {x:Obj} (h:Gq σ σ' F) (hx:nth σ o=some x) (hf:o∉F):nth σ' o=some x:=(h.eq o (BZ hx) hf).trans hx
theorem Nc {σ:List Obj} {y:Obj} {K:List Obj→Prop} (h:∀σ',Gq σ σ' []→nth σ' σ.length=some y→σ'.length=σ.length+1→K σ'):Aay σ y K:=
 (PZ _ _ _).2 (h _ ⟨by simp,fun o ho _=>Si ho⟩ UU (by simp))
theorem IB {σ:List Obj} {o:Nat} {x y:Obj} {K:List Obj→Prop} (hx:nth σ o=some x) (h:∀σ',Gq σ σ' [o]→nth σ' o=some y→σ'.length=σ.length→K σ'):P5 σ o y K:=
 (Dh _ _ _ _).2 (h _ ⟨by simp,fun p hp hn=>Qm (by simpa using fun e=>hn (by simp[e]))⟩ (MX hx) (by simp))
theorem V3 {t o g es c':Nat} {sz:Option Nat} {σ:List Obj} {x:AV} {nn cl:Bool} (h:nth σ o=some (.arr g es nn cl [x])):Fg [(t,.ref o g 0 0)] ⟨σ,c'⟩ [.cell t sz]=(loadCells x.cells sz).map fun v=>[v]:=by
 have e:Env.get [(t,AV.ref o g 0 0)] t=.ref o g 0 0:=by simp[Env.get]
 have e2:P6 [(t,.ref o g 0 0)] ⟨σ,c'⟩ (.cell t sz)=loadCells x.cells sz:=by
  show(match Env.get [(t,AV.ref o g 0 0)] t with
   | .ref o g i off=>match nth σ o with
     |some (.arr g' _ _ _ elems)=>if g=g' then match nth elems i with
         |some x=>loadCells (x.cells.drop off) sz
         |none=>none
      else none
     |_=>none
   |_=>none)=_
  rw[e]
  simp only[h,if_true]
  rfl
 show(match P6 [(t,.ref o g 0 0)] ⟨σ,c'⟩ (.cell t sz),some []with
  |some v,some vs=>some (v::vs)
  |_,_=>none)=_
 rw[e2]
 cases loadCells x.cells sz<;>rfl
structure GS where
 a:Nat
 b:Nat
 c:Nat
 d:Nat
 e:Nat
 f:Nat
structure HS (G:GS) (nxM:List (AV×AV)) (cn:Bool) (σ:List Obj) (ixM Afz:List (Int×Int)) (stk:AV) (onM:List (Int×Bool)) (smM:List (Int×Int)):Prop where
 h1:nth σ 1=some (.mp G.a cn nxM)
 h2:nth σ 2=some (.mp G.b true (Ot ixM))
 h3:nth σ 3=some (.mp G.c true (Ot Afz))
 h4:nth σ 4=some (.mp G.d true (Cb onM))
 h5:nth σ 5=some (.mp G.e true (Ot smM))
 h6:nth σ 6=some (.arr G.f 6 true false [.agg [.map 1 G.a,.map 2 G.b,.map 3 G.c,stk,.map 4 G.d,.map 5 G.e]])
section
variable {G:GS} {nxM:List (AV×AV)} {cn:Bool} {σ:List Obj} {ixM Afz smM:List (Int×Int)} {onM:List (Int×Bool)} {stk:AV}
theorem HS.keep {σ':List Obj} {F:List Nat} (h:HS G nxM cn σ ixM Afz stk onM smM) (f:Gq σ σ' F) (hF:∀o∈F,6<o):HS G nxM cn σ' ixM Afz stk onM smM:=by
 have hn:∀o,o≤6→o∉F:=fun o ho hm=>by have:=hF o hm;omega
 exact⟨f.get h.h1 (hn _ (by omega)),f.get h.h2 (hn _ (by omega)),f.get h.h3 (hn _ (by omega)),f.get h.h4 (hn _ (by omega)),f.get h.h5 (hn _ (by omega)),f.get h.h6 (hn _ (by omega))⟩
end
section
open Go.Sort
theorem clr {C:Aw} {es o g off n:Nat} {nn cl:Bool} {x:AO} {env:Env} {σ:List Obj} {c:Nat} {elems:List AV} (hx:x.val env=.own o g off n) (ho:nth σ o=some (.arr g es nn cl elems)) (h:off+n≤elems.length) (hn:n≠0):
 Ag C (.clear es x) env ⟨σ,c⟩=some (.ok .undef,⟨σ.set o (.arr g es nn cl (elems.take off)),c⟩):=by
 simp[Ag,hx,ho,h,hn]
section
variable {α:Type} [Inhabited α]
theorem nPn {f:α→AV} {d:Array α} {m:Nat} (i:Nat) (hm:m=i) (h:i<d.size):nth (vs f d.toList) m=some (f d[i]!):=by
 subst hm
 have:=nP (f:=f) (d:=d) (z:=(m:Int)) m rfl h
 exact this
open Classical in
noncomputable def PI (d:Array α):Nat→List α
 |0=>[]
 |n+1=>if 0<n∧d[n]! =d[n-1]! then PI d n else PI d n++[d[n]!]
theorem KU {d:Array α} {n:Nat} (h0:0<n) (h:d[n]! =d[n-1]!):PI d (n+1)=PI d n:=if_pos ⟨h0,h⟩
theorem Oh {d:Array α} {n:Nat} (h:0<n→¬d[n]! =d[n-1]!):PI d (n+1)=PI d n++[d[n]!]:=if_neg fun h1=>h h1.1 h1.2
theorem VI {d:Array α}:∀n,n≤d.size→(∀ j,0<j→j<n→¬d[j]! =d[j-1]!)→PI d n=d.toList.take n
 |0,_,_=>by simp[PI]
 |n+1,hn,h=>by
  rw[Oh (fun h0=>h n h0 (by omega)),VI n (by omega) fun j h0 hj=>h j h0 (by omega),List.take_succ_eq_append_getElem (by simp;omega)]
  congr 2
  rw[getElem!_pos d n (by omega)]
  simp
theorem Q9 {d:Array α} {x:α}:∀n,n≤d.size→(x∈PI d n↔x∈d.toList.take n)
 |0,_=>by simp[PI]
 |n+1,hn=>by
  have e:d[n]! =d.toList[n]'(by simp;omega):=by rw[getElem!_pos d n (by omega)];simp
  rw[List.take_succ_eq_append_getElem (by simp;omega),List.mem_append,List.mem_singleton,←e]
  by_cases h:0<n∧d[n]! =d[n-1]!
  ·rw[KU h.1 h.2,Q9 n (by omega)]
   refine⟨Or.inl,fun h1=>h1.elim id ?_⟩
   rintro rfl
   rw[h.2,getElem!_pos d (n-1) (by omega)]
   rw[List.mem_take_iff_getElem]
   exact⟨n-1,by simp;omega,by simp⟩
  ·rw[Oh (fun h0 h1=>h ⟨h0,h1⟩),List.mem_append,List.mem_singleton,Q9 n (by omega)]
theorem Ac6 {lt:α→α→Bool} (hS:SWO lt) (htot:∀x y,lt x y=false→lt y x=false→x=y) {d:Array α} (hs:SortedIn lt 0 d.size d):∀n,n≤d.size→(PI d n).Pairwise (fun x y=>lt x y=true)
 |0,_=>by simp[PI]
 |n+1,hn=>by
  have ih:=Ac6 hS htot hs n (by omega)
  by_cases h:0<n∧d[n]! =d[n-1]!
  ·rw[KU h.1 h.2];exact ih
  ·rw[Oh (fun h0 h1=>h ⟨h0,h1⟩)]
   refine List.pairwise_append.2 ⟨ih,List.pairwise_singleton ..,fun x hx y hy=>?_⟩
   obtain rfl:=List.mem_singleton.1 hy
   rw[Q9 n (by omega),List.mem_take_iff_getElem]at hx
   obtain⟨j,hj,rfl⟩:=hx
   simp only[Array.length_toList]at hj
   have ej:d.toList[j]'(by simp;omega)=d[j]!:=by rw[getElem!_pos d j (by omega)];simp
   rw[ej]
   cases hc:lt d[j]! d[n]! with
   |true=>rfl
   |false=>
    exfalso
    have h1:=hs j n (by omega) (by omega) (by omega)
    have e1:=htot _ _ hc h1
    refine h ⟨by omega,?_⟩
    rcases Nat.lt_or_ge j (n-1)with h2|h2
    ·have h3:=hs j (n-1) (by omega) h2 (by omega)
     have h4:=hs (n-1) n (by omega) (by omega) (by omega)
     rw[e1]at h3
     exact htot _ _ h4 h3
    ·obtain rfl:j=n-1:=by omega
     exact e1.symm
omit [Inhabited α]in
theorem Nh {lt:α→α→Bool} (hS:SWO lt):∀{a b:List α},a.Pairwise (fun x y=>lt x y=true)→b.Pairwise (fun x y=>lt x y=true)→(∀ x,x∈a↔x∈b)→a=b
 |[],[],_,_,_=>rfl
 |[],y::b,_,_,h=>absurd ((h y).2 (List.mem_cons_self ..)) (by simp)
 |x::a,[],_,_,h=>absurd ((h x).1 (List.mem_cons_self ..)) (by simp)
 |x::a,y::b,ha,hb,h=>by
  have ha':=List.pairwise_cons.1 ha
  have hb':=List.pairwise_cons.1 hb
  have hxy:x=y:=by
   rcases List.mem_cons.1 ((h x).1 (List.mem_cons_self ..))with e|hx
   ·exact e
   rcases List.mem_cons.1 ((h y).2 (List.mem_cons_self ..))with e|hy
   ·exact e.symm
   have:=hS.trans _ _ _ (ha'.1 y hy) (hb'.1 x hx)
   rw[hS.irrefl]at this;cases this
  subst hxy
  rw[Nh hS ha'.2 hb'.2 fun z=>?_]
  have hn1:x∉a:=fun h1=>by have:=ha'.1 x h1;rw[hS.irrefl]at this;cases this
  have hn2:x∉b:=fun h1=>by have:=hb'.1 x h1;rw[hS.irrefl]at this;cases this
  have:=h z
  simp only[List.mem_cons]at this
  constructor
  ·intro hz
   rcases this.1 (Or.inr hz)with rfl|h2
   ·exact absurd hz hn1
   ·exact h2
  ·intro hz
   rcases this.2 (Or.inr hz)with rfl|h2
   ·exact absurd hz hn2
   ·exact h2
end
end
end AI
end Go.Proofs.YtchcadfjbkkgmaaGreatDoor
