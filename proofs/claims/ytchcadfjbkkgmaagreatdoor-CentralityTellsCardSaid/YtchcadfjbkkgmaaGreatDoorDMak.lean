/- Leaving out what repeats (slices.Compact[[]int,int]), at any place of a store. The forest of component.Weak: add, find, union. Slices within reach; clones of values, properties, strings; looking up a node of any graph. component.edges: the edges of some types. Join, both; Same. component.Weak. neighbors: maps in a map. -/
import Derived.Test.YtchcadfjbkkgmaaGreatDoorDMaj
import Derived.Test.YtchcadfjbkkgmaaGreatDoorDMai
import Derived.Test.YtchcadfjbkkgmaaGreatDoorDMag
import Derived.Test.YtchcadfjbkkgmaaGreatDoorDMaf
import Derived.Test.YtchcadfjbkkgmaaGreatDoorDMah
set_option linter.unusedVariables false
set_option maxRecDepth 4000
namespace Go.Proofs.YtchcadfjbkkgmaaGreatDoor
namespace AI
section
open Go.Sort
theorem LZ {pre post:List Obj} {x:Obj}:nth (pre++x::post) pre.length=some x:=by rw[Ar];simp
theorem KT {pre post:List Obj} {x y:Obj}:(pre++x::post).set pre.length y=pre++y::post:=by simp
theorem Ahc {σ:List Obj} {o:Nat} {x:Obj} (h:nth σ o=some x):∃pre post,σ=pre++x::post∧pre.length=o:=by
 rw[Ar]at h
 obtain⟨hl,rfl⟩:=List.getElem?_eq_some_iff.1 h
 exact⟨σ.take o,σ.drop (o+1),by rw[← List.drop_eq_getElem_cons hl,List.take_append_drop],by rw[List.length_take];omega⟩
set_option maxHeartbeats 2000000 in
theorem Alf {pre post:List Obj} {g len c:Nat} {nn cl:Bool} {d:Array Int} (hl:d.size=len) (hs:len<2^61):
 D6 (Ac tab) 65 [.own pre.length g 0 len] ⟨(pre++.arr g 1 nn cl (vs (.int .i64) d.toList)::post),c⟩ fun out s'=>∃c' T,out=.ok (.own pre.length g 0 (PI d len).length)∧s'=⟨(pre++.arr g 1 nn cl (vs (.int .i64) (PI d len++T))::post),c'⟩:=by
 have hend:(∀ j,0<j→j<len→¬d[j]! =d[j-1]!)→PI d len=d.toList:=fun h=>by
  rw[VI len (by omega) h,List.take_of_length_le (by simp[hl])]
 refine PK rfl rfl ?_
 (conv=>whnf);repeat' (first|(rw [LZ];conv=>whnf)|(rw [Dh,KT];conv=>whnf)|(refine kA ?_;conv=>whnf)|(refine Br.mk (fun hc=>?_) fun hc=>?_<;>first|exact hc.elim|conv=>whnf)|(refine kB ?_))
 ·have e:=hend (fun j h0 hj=>absurd h0 (by omega))
  rw[e,show d.toList.length=len by simpa using hl]
  exact⟨_,[],rfl,by rw[List.append_nil]⟩
 refine Ai (fun m env s=>∃(k c:Nat),m=len-k∧0<k∧(∀ j,0<j→j<k→¬d[j]! =d[j-1]!)∧env=[(0,.own pre.length g 0 len),(3,.int .i64 k)]∧s=⟨(pre++.arr g 1 nn cl (vs (.int .i64) d.toList)::post),c⟩) ?_ _ _ _ ⟨1,c,rfl,by omega,fun j h0 h1=>absurd h0 (by omega),rfl,rfl⟩
 rintro _ _ _ ⟨k,c,rfl,hk0,hk,rfl,rfl⟩
 refine⟨rfl,?_⟩
 (conv=>whnf);repeat' (first|(rw [LZ];conv=>whnf)|(rw [Dh,KT];conv=>whnf)|((with_reducible show QN _ _ _);refine nPK (k) ?_;conv=>whnf)|((with_reducible show QN _ _ _);refine nPK (k-1) ?_;conv=>whnf)|(refine kA ?_;conv=>whnf)|(refine Br.mk (fun hc=>?_) fun hc=>?_<;>first|exact hc.elim|conv=>whnf)|(refine kB ?_))
 ·have h1:PI d (k+1)=PI d k:=KU hk0 (by assumption)
  have h2:PI d k=d.toList.take k:=VI k (by omega) hk
  obtain⟨k,rfl⟩:∃k',k=k'+1:=⟨k-1,by omega⟩
  refine Ai (fun m env s=>∃(k2 c w:Nat) (E:Array Int),m=len-(k+1)-k2∧0<k2∧k+1+k2≤len∧E.size=len∧w=(PI d (k+1+k2)).length∧w<k+1+k2∧E.toList.take w=PI d (k+1+k2)∧(∀ j,k+1+k2≤j+1→j<len→E[j]! =d[j]!)∧env=[(0,.own pre.length g 0 len),(3,.int .i64 w),(4,.own pre.length g (k+1) (len-(k+1))),(5,.int .i64 k2)]∧s=⟨(pre++.arr g 1 nn cl (vs (.int .i64) E.toList)::post),c⟩) ?_ _ _ _ ⟨1,_,k+1,d,rfl,by omega,by omega,hl,by rw[h1,h2];simp;omega,by omega,by rw[h1,h2],fun j _ _=>rfl,rfl,rfl⟩
  rintro _ _ _ ⟨k2,c,w,E,rfl,hk2,hkl,hE,hw,hwk,hW,hej,rfl,rfl⟩
  refine⟨rfl,?_⟩
  (conv=>whnf);repeat' (first|(rw [LZ];conv=>whnf)|(rw [Dh,KT];conv=>whnf)|(apply Au;(· exact nPn (k+1+k2) (by omega) (by first|omega|(simp;omega)));conv=>whnf)|(apply Au;(· exact nPn (k+1+k2-1) (by omega) (by first|omega|(simp;omega)));conv=>whnf)|((with_reducible show QN _ _ _);refine nPK (w) ?_;conv=>whnf)|((with_reducible show eqK _ _);refine tPK Ahd (w) ?_;conv=>whnf)|(refine kA ?_;conv=>whnf)|(refine Br.mk (fun hc=>?_) fun hc=>?_<;>first|exact hc.elim|conv=>whnf)|(refine kB ?_))
  ·have e1:=hej (k+1+k2) (by omega) (by omega)
   have e2:=hej (k+1+k2-1) (by omega) (by omega)
   rw[e1,e2]at hc
   exact again.mk ⟨_,by omega,k2+1,_,w,E,rfl,by omega,by omega,hE,by rw[hw,←KU (d:=d) (n:=k+1+k2) (by omega) hc];rfl,by omega,by rw[hW,←KU (d:=d) (n:=k+1+k2) (by omega) hc];rfl,fun j h1 h2=>hej j (by omega) h2,rfl,rfl⟩
  ·have e1:=hej (k+1+k2) (by omega) (by omega)
   have e2:=hej (k+1+k2-1) (by omega) (by omega)
   rw[e1,e2]at hc
   have e3:PI d (k+1+(k2+1))=PI d (k+1+k2)++[d[k+1+k2]!]:=Oh fun _=>hc
   refine again.mk ⟨_,by omega,k2+1,_,w+1,E.setIfInBounds w E[k+1+k2]!,rfl,by omega,by omega,by simpa using hE,by rw[e3,List.length_append,←hw];rfl,by omega,?_,fun j h1 h2=>?_,rfl,rfl⟩
   ·rw[Array.toList_setIfInBounds,List.take_succ_eq_append_getElem (by simp;omega),e3,←hW,e1]
    simp[List.take_set_of_le]
   ·rw[← hej j (by omega) h2,getElem!_pos _ j (by simp;omega),getElem!_pos E j (by omega),Array.getElem_setIfInBounds_ne (by omega) (by omega)]
  ·have Alh:k+1+k2=len:=by omega
   rw[Alh]at hW hw hwk
   refine Df (clr (n:=len-w) rfl LZ (by simp;omega) (by omega)) ?_
   rw[KT]
   have e4:List.take (Int.toNat (w:Int)) (vs (.int .i64) E.toList)=vs (.int .i64) (PI d len++[]):=by
        rw[List.append_nil,←hW];simp[vs,List.map_take]
   (conv=>whnf);repeat' (first|(rw [LZ];conv=>whnf)|(rw [Dh,KT];conv=>whnf)|(refine kA ?_;conv=>whnf)|(refine Br.mk (fun hc=>?_) fun hc=>?_<;>first|exact hc.elim|conv=>whnf)|(refine kB ?_))
   refine⟨c,[],by rw[← hw];rfl,?_⟩
   rw[← e4]
 ·exact again.mk ⟨_,by omega,k+1,_,rfl,by omega,fun j h0 hj=>by
   rcases Nat.lt_or_ge j k with h|h
   ·exact hk j h0 h
   ·obtain rfl:j=k:=by omega
    first|exact hc|assumption,rfl,rfl⟩
 ·have e:=hend (fun j h0 hj=>hk j h0 (by omega))
  rw[e,show d.toList.length=len by simpa using hl]
  exact⟨_,[],rfl,by rw[List.append_nil]⟩
theorem Ali {σ:List Obj} {o g len c:Nat} {nn cl:Bool} {L:List Int} (h:nth σ o=some (.arr g 1 nn cl (vs (.int .i64) L))) (hl:L.length=len) (hs:len≤1099511627776):
 D6 (Ac tab) 64 [.own o g 0 len] ⟨σ,c⟩ fun out s'=>∃σ',out=.ok (.Ce [])∧s'=⟨σ',c⟩∧Gq σ σ' [o]∧nth σ' o=some (.arr g 1 nn cl (vs (.int .i64) (Gf L)))∧σ'.length=σ.length:=by
 have hsp:Gw [.own o g 0 len] ⟨σ,c⟩=some (.ok (.Ce []),⟨σ.set o (.arr g 1 nn cl (vs (.int .i64) (Gf L))),c⟩):=by
  show(match nth σ o with|some (.arr g' es nn cl xs)=>if g=g'∧es=1∧len=xs.length∧len≤1099511627776 then _ else none|_=>none)=_
  rw[h]
  show(if g=g∧1=1∧len=(vs (AV.int .i64) L).length∧len≤1099511627776 then _ else none)=_
  rw[if_pos ⟨rfl,rfl,by rw[lV,hl],hs⟩,Z8]
  rfl
 exact PN rfl hsp ⟨_,rfl,rfl,⟨by simp,fun p hp hn=>Qm (by simpa using fun e=>hn (by simp[e]))⟩,MX h,by simp⟩
theorem Alj {σ:List Obj} {c:Nat}:D6 (Ac tab) 64 [.sl false []] ⟨σ,c⟩ fun out s'=>out=.ok (.Ce [])∧s'=⟨σ,c⟩:=by
 have hsp:Gw [.sl false []] ⟨σ,c⟩=some (.ok (.Ce []),⟨σ,c⟩):=rfl
 exact PN rfl hsp ⟨rfl,rfl⟩
theorem Alk {σ:List Obj} {o g len c:Nat} {nn cl:Bool} {L:List Int} (h:nth σ o=some (.arr g 1 nn cl (vs (.int .i64) L))) (hl:L.length=len) (hs:len<2^61):
 D6 (Ac tab) 65 [.own o g 0 len] ⟨σ,c⟩ fun out s'=>∃σ' c' T,out=.ok (.own o g 0 (PI L.toArray len).length)∧s'=⟨σ',c'⟩∧Gq σ σ' [o]∧nth σ' o=some (.arr g 1 nn cl (vs (.int .i64) (PI L.toArray len++T)))∧σ'.length=σ.length:=by
 obtain⟨pre,post,rfl,rfl⟩:=Ahc h
 refine(Alf (d:=L.toArray) (pre:=pre) (post:=post) (g:=g) (c:=c) (nn:=nn) (cl:=cl) (by simpa using hl) hs).mono ?_
 rintro _ _ ⟨c',T,rfl,rfl⟩
 refine⟨_,c',T,rfl,rfl,⟨by simp,fun p hp hn=>?_⟩,LZ,by simp⟩
 have hne:p≠pre.length:=fun e=>hn (by simp[e])
 rw[Ar,Ar]
 by_cases hlt:p<pre.length
 ·rw[List.getElem?_append_left hlt,List.getElem?_append_left hlt]
 ·rw[List.getElem?_append_right (by omega),List.getElem?_append_right (by omega)]
  obtain⟨q,hq⟩:∃q,p-pre.length=q+1:=⟨p-pre.length-1,by omega⟩
  rw[hq];rfl
theorem Alm {σ:List Obj} {c:Nat}:D6 (Ac tab) 65 [.sl false []] ⟨σ,c⟩ fun out s'=>out=.ok (.sl false [])∧s'=⟨σ,c⟩:=by
 refine PK rfl rfl ?_
 (conv=>whnf);repeat' (first  |(refine kA ?_;conv=>whnf)|(refine Br.mk (fun hc=>?_) fun hc=>?_<;>first|exact hc.elim|conv=>whnf)|(refine kB ?_))
 all_goals first|exact⟨rfl,rfl⟩|(exfalso;omega)
end
theorem Ld (p:Int→Int):∀{S:List Int} {x:Int},x∈S→Dz (FB S p) x=some (p x)
 |[],x,h=>by cases h
 |i::S,x,h=>by
  show(if x=i then some (p i)else Dz (FB S p) x)=_
  by_cases e:x=i
  ·subst e;rw[if_pos rfl]
  ·rw[if_neg e]
   rcases List.mem_cons.1 h with k|k
   ·exact absurd k e
   ·exact Ld p k
structure Del (p:GE→Prop) [DecidablePred p] (L W:List GE) (i j:Nat):Prop where
 len:W.length=L.length
 le:i≤j
 new:W.take i=(L.take j).filter fun e=>decide (p e)
 old:∀k,j≤k→W[k]?=L[k]?
section
variable {p:GE→Prop} [DecidablePred p] {L W:List GE} {i j:Nat}
theorem Del.start {i:Nat} (h:i<L.length) (hf:¬p L[i]) (hb:∀e∈L.take i,p e):Del p L L i (i+1):=by
 refine⟨rfl,by omega,?_,fun _ _=>rfl⟩
 rw[List.take_succ_eq_append_getElem h,List.filter_append,List.filter_eq_self.2 fun e he=>decide_eq_true (hb e he)]
 simp[hf]
theorem Del.at (h:Del p L W i j) (hj:j<L.length):W[j]'(by rw[h.len];exact hj)=L[j]:=by
 have:=h.old j (Nat.le_refl _)
 rw[List.getElem?_eq_getElem hj,List.getElem?_eq_getElem (by rw[h.len];exact hj)]at this
 simpa using this
theorem Del.keep (h:Del p L W i j) (hj:j<L.length) (hp:p L[j]):Del p L (W.set i L[j]) (i+1) (j+1):=by
 have hi:i<W.length:=by rw[h.len];have:=h.le;omega
 refine⟨by simp[h.len],by have:=h.le;omega,?_,fun k hk=>?_⟩
 ·rw[List.take_succ_eq_append_getElem (by simpa using hi),List.getElem_set_self,List.take_set_of_le (Nat.le_refl _),h.new,List.take_succ_eq_append_getElem hj,List.filter_append]
  simp[hp]
 ·rw[List.getElem?_set_ne (by have:=h.le;omega)];exact h.old k (by omega)
theorem Del.drop (h:Del p L W i j) (hj:j<L.length) (hp:¬p L[j]):Del p L W i (j+1):=by
 refine⟨h.len,by have:=h.le;omega,?_,fun k hk=>h.old k (by omega)⟩
 rw[h.new,List.take_succ_eq_append_getElem hj,List.filter_append]
 simp[hp]
theorem Del.all (h:Del p L W i j) (hj:¬j<L.length):W.take i=L.filter fun e=>decide (p e):=by
 rw[h.new,List.take_of_length_le (by omega)]
end
def Ba (g:GG):List Int:=g.nodes.map GN.id
theorem CV (g:GG):(Ba g).length=g.nodes.length:=by simp[Ba]
theorem Gg {g:GG} {i:Nat} (h:i<g.nodes.length):(Ba g)[i]'(by rw[CV];exact h)=(g.nodes[i]).id:=by simp[Ba]
theorem AeN {l:List Int} (h:∀i (hi:i<l.length),0<i→l[i-1]<l[i]):l.Pairwise (· <·):=by
 rw[List.pairwise_iff_getElem]
 intro i j hi hj hij
 induction j with
 |zero=>omega
 |succ j ih=>
  have h1:=h (j+1) hj (by omega)
  simp only[Nat.add_sub_cancel]at h1
  by_cases e:i=j
  ·subst e;exact h1
  ·exact Int.lt_trans (ih (by omega) (by omega)) h1
theorem Aaz {g:GG} (h:Bd g=0):(Ba g).Pairwise (· <·):=AeN fun i hi h0=>by
 have hi':i<g.nodes.length:=by rw[← CV];exact hi
 rw[Gg (by omega),Gg hi']
 exact(AaR hi' ((Yb h).2.2.1 i hi')).1 h0
theorem VW {g:GG} (h:Bd g=0):(Ba g).Nodup:=(Aaz h).imp fun h=>by omega
theorem Lc {g:GG} (h:Bd g=0):∀e∈g.edges,e.fr∈Ba g∧e.to∈Ba g:=fun e he=>by
 obtain⟨i,hi,rfl⟩:=List.getElem_of_mem he
 have:=AfW hi ((Yb h).2.2.2 i hi)
 exact⟨this.2.2.2.1,this.2.2.2.2.1⟩
abbrev Yd (M:List (Int×AV)):List (AV×AV):=Ia (.int .i64) id M
theorem fkA {M:List (Int×AV)} {k:Int} {v:AV} {K:Option (Nat×AV)→Prop} (h:Dz M k=some v) (hK:∀i,K (some (i,v))):Nb .int (.int .i64 k) (Yd M) K:=
 IG (fv:=id) EK (fun e=>by rw[h]at e;cases e) (fun i w e=>by rw[h]at e;cases e;exact hK i)
theorem Amu {M:List (Int×AV)} {k:Int} {v:AV} {K:List (AV×AV)→Prop} (h:K (Yd (EI M k v))):XH .int (.int .i64 k) v (Yd M) K:=NT (fv:=id) EK h
noncomputable def I4 (types:List (List UInt8)) (L:Int→List (Int×Bool)) (e:GE):Int→List (Int×Bool):=
 if e.fr≠e.to∧HT types e then fun v=>if v=e.to then EI (L e.to) e.fr true else if v=e.fr then EI (L e.fr) e.to true else L v else L
noncomputable def QC (types:List (List UInt8)) (es:List GE):Int→List (Int×Bool):=es.foldl (I4 types) fun _=>[]
structure NbS (σ:List Obj) (M:List (Int×AV)) (L:Int→List (Int×Bool)) (ids:List Int):Prop where
 keys:M.map Prod.fst=ids
 pt:∀v∈ids,∃o g c,Dz M v=some (.map o g)∧nth σ o=some (.mp g c (Cb (L v)))∧1<o
 inj:∀v w o g h,Dz M v=some (.map o g)→Dz M w=some (.map o h)→v=w
theorem UW {α:Type} {M:List (Int×α)} {v:Int} {x:α} (h:v∉M.map Prod.fst):EI M v x=M++[(v,x)]:=by
 induction M with
 |nil=>rfl
 |cons p M ih=>
  simp only[List.map_cons,List.mem_cons,not_or]at h
  simp only[EI]
  rw[if_neg (fun e=>h.1 e),ih h.2]
  rfl
section
variable {σ σ':List Obj} {M:List (Int×AV)} {L L':Int→List (Int×Bool)} {ids:List Int} {F:List Nat}
theorem NbS.keep (h:NbS σ M L ids) (f:Gq σ σ' F) (hF:∀o∈F,o≤1∨σ.length≤o):NbS σ' M L ids:=
 ⟨h.keys,fun v hv=>by
  obtain⟨o,g,c,h1,h2,h3⟩:=h.pt v hv
  exact⟨o,g,c,h1,f.get h2 (fun hm=>by have:=hF o hm;have:=BZ h2;omega),h3⟩,h.inj⟩
theorem NbS.new (h:NbS σ M L ids) (f:Gq σ σ' F) (hF:∀o∈F,o≤1∨σ.length≤o) {v:Int} (hv:v∉ids) {o g:Nat} {c:Bool} (ho:σ.length≤o) (h1:1<o) (hq:nth σ' o=some (.mp g c (Cb []))) (hL:L v=[]):NbS σ' (EI M v (.map o g)) L (ids++[v]):=by
 have hk:v∉M.map Prod.fst:=by rw[h.keys];exact hv
 have hold:∀w o' g',Dz M w=some (.map o' g')→o'<σ.length:=fun w o' g' e=>by
  by_cases hw:w∈ids
  ·obtain⟨o2,g2,c2,e2,e3,_⟩:=h.pt w hw
   rw[e]at e2;cases e2;exact BZ e3
  ·rw[MK.2 (by show w∉M.map Prod.fst;rw[h.keys];exact hw)]at e;cases e
 refine⟨by rw[UW hk,List.map_append,h.keys];rfl,fun w hw=>?_,fun w w' o' g' h' e e'=>?_⟩
 ·by_cases e:w=v
  ·subst e;exact⟨o,g,c,by rw[JI,if_pos rfl],by rw[hL];exact hq,h1⟩
  ·rcases List.mem_append.1 hw with hw|hw
   ·obtain⟨o2,g2,c2,e1,e2,e3⟩:=(h.keep f hF).pt w hw
    exact⟨o2,g2,c2,by rw[JI,if_neg e];exact e1,e2,e3⟩
   ·exact absurd (List.mem_singleton.1 hw) e
 ·rw[JI]at e e'
  by_cases hw:w=v
  ·by_cases hw':w'=v
   ·rw[hw,hw']
   ·rw[if_pos hw]at e;rw[if_neg hw']at e';have:=hold _ _ _ e';cases e;omega
  ·by_cases hw':w'=v
   ·rw[if_neg hw]at e;rw[if_pos hw']at e';have:=hold _ _ _ e;cases e';omega
   ·rw[if_neg hw]at e;rw[if_neg hw']at e';exact h.inj _ _ _ _ _ e e'
theorem NbS.put (h:NbS σ M L ids) {o g:Nat} {c:Bool} {v:Int} (hm:Dz M v=some (.map o g)) (f:Gq σ σ' [o]) {S:List (Int×Bool)} (hq:nth σ' o=some (.mp g c (Cb S))) (hL:∀w,L' w=if w=v then S else L w):NbS σ' M L' ids:=
 ⟨h.keys,fun w hw=>by
  obtain⟨o2,g2,c2,e1,e2,e3⟩:=h.pt w hw
  by_cases e:w=v
  ·subst e
   rw[hm]at e1;cases e1
   exact⟨_,_,c,hm,by rw[hL,if_pos rfl];exact hq,e3⟩
  ·exact⟨o2,g2,c2,e1,by rw[hL,if_neg e];exact f.get e2 (fun hx=>e (h.inj _ _ _ _ _ e1 (by rw[List.mem_singleton.1 hx];exact hm))),e3⟩,h.inj⟩
end
theorem QD {σ:List Obj}:∀{L:List (Int×Bool)} {m:Nat},L.length+1≤m→Na σ m (Cb L)=some (Cb L)
 |[],m,_=>by cases m<;>rfl
 |p::L,m,h=>by
  simp only[List.length_cons]at h
  obtain⟨k,rfl⟩:∃k,m=k+1+1:=⟨m-2,by omega⟩
  show(match snap σ (k+1) (AV.bool p.2),Na σ (k+1) (Cb L)with|some a,some b=>if(AV.int .i64 p.1).closed then some ((AV.int .i64 p.1,a)::b)else none|_,_=>none)=_
  rw[QD (L:=L) (m:=k+1) (by omega)]
  rfl
theorem Ud {σ:List Obj} {D:Nat} {w:Int→AV}:∀{M:List (Int×AV)} {m:Nat},(∀ p∈M,∀k,D≤k→snap σ k p.2=some (w p.1))→D+M.length≤m→Na σ m (Yd M)=some (M.map fun p=>(.int .i64 p.1,w p.1))
 |[],m,_,_=>by cases m<;>rfl
 |p::M,m,h,hm=>by
  simp only[List.length_cons]at hm
  obtain⟨k,rfl⟩:∃k,m=k+1:=⟨m-1,by omega⟩
  show(match snap σ k p.2,Na σ k (Yd M)with|some a,some b=>if(AV.int .i64 p.1).closed then some ((AV.int .i64 p.1,a)::b)else none|_,_=>none)=_
  rw[Ud (M:=M) (m:=k) (fun q hq=>h q (by simp[hq])) (by omega),h p (by simp) k (by omega)]
  rfl
theorem AaT {α:Type} {M:List (Int×α)} {k:Int} {v:α}:(EI M k v).length≤M.length+1:=by
 induction M with
 |nil=>simp[EI]
 |cons p M ih=>
  simp only[EI]
  split
  ·simp
  ·simp only[List.length_cons];omega
theorem WQ {types:List (List UInt8)} {v:Int}:∀{es:List GE} {L:Int→List (Int×Bool)} {n:Nat},(∀ v,(L v).length≤n)→((es.foldl (I4 types) L) v).length≤n+es.length
 |[],L,n,h=>h v
 |e::es,L,n,h=>by
  have:=WQ (types:=types) (v:=v) (es:=es) (L:=I4 types L e) (n:=n+1) (fun u=>by
   unfold I4
   split
   ·dsimp only
    split
    ·exact Nat.le_trans AaT (by have:=h e.to;omega)
    ·split
     ·exact Nat.le_trans AaT (by have:=h e.fr;omega)
     ·have:=h u;omega
   ·have:=h u;omega)
  simp only[List.foldl_cons,List.length_cons]
  omega
theorem O9 {α:Type} {M:List (Int×α)} {p:Int×α} (h:(M.map Prod.fst).Nodup) (hp:p∈M):Dz M p.1=some p.2:=by
 induction M with
 |nil=>cases hp
 |cons q M ih=>
  rw[List.map_cons,List.nodup_cons]at h
  simp only[Dz]
  rcases List.mem_cons.1 hp with rfl|hp
  ·rw[if_pos rfl]
  ·rw[if_neg (fun e=>h.1 (List.mem_map.2 ⟨p,hp,e⟩)),ih h.2 hp]
theorem NbS.snap {σ:List Obj} {M:List (Int×AV)} {L:Int→List (Int×Bool)} {ids:List Int} (h:NbS σ M L ids) (hnd:ids.Nodup) {n:Nat} (hn:∀v,(L v).length≤n) {cl:Bool} {o g:Nat} (h1:nth σ o=some (.mp g cl (Yd M))) {d:Nat} (hd:n+ids.length+10≤d):snap σ d (.map o g)=some (.fmap (ids.map fun v=>(.int .i64 v,.fmap (Cb (L v))))):=by
 obtain⟨k,rfl⟩:∃k,d=k+1:=⟨d-1,by omega⟩
 have hl:M.length=ids.length:=by rw[← h.keys,List.length_map]
 have hs:=Ud (σ:=σ) (D:=n+5) (w:=fun v=>.fmap (Cb (L v))) (M:=M) (m:=k) (fun p hp j hj=>by
  have hk:p.1∈ids:=by rw[← h.keys];exact List.mem_map.2 ⟨p,hp,rfl⟩
  obtain⟨o2,g2,c2,e1,e2,_⟩:=h.pt _ hk
  rw[O9 (by rw[h.keys];exact hnd) hp,Option.some.injEq]at e1
  obtain⟨i,rfl⟩:∃i,j=i+1:=⟨j-1,by omega⟩
  rw[e1]
  have:=QD (σ:=σ) (L:=L p.1) (m:=i) (by have:=hn p.1;omega)
  simp only[AI.snap,e2,if_true,this,Option.map_some]) (by omega)
 simp only[AI.snap,h1,if_true,hs,Option.map_some]
 rw[← h.keys,List.map_map]
 rfl
set_option maxHeartbeats 4000000 in
theorem ZK {g:GG} (hg:g.ok) (hN:g.nodes.length≤1000) (hE:g.edges.length≤1000) (hck:Bd g=0) {types:List (List UInt8)} {tn:Bool} (ht:types.length<2^63):Ah (Ac tab) 55 [g.av,.sl tn (vs .str types)] (· =.fmap (g.nodes.map fun n=>(.int .i64 n.id,.fmap (Cb (QC types g.edges n.id))))):=by
 have hln:=hg.1
 have hle:=hg.2.2.2.1
 unfold Ln at hln hle
 have hnd:=VW hck
 have AcT:=Lc hck
 refine Ad rfl rfl ?_
 (conv=>whnf);repeat' (first  |(refine kA ?_;conv=>whnf)|(refine Br.mk (fun hc=>?_) fun hc=>?_<;>first|exact hc.elim|conv=>whnf)|(refine kB ?_))
 refine Ai (fun m env s=>∃(i c cn:Nat) (cl:Bool) (σ:List Obj) (M:List (Int×AV)),m=g.nodes.length-i∧i≤g.nodes.length∧nth σ 0=some (.arr 0 4 true true [g.av])∧nth σ 1=some (.mp 1 cl (Yd M))∧NbS σ M (fun _=>[]) ((g.nodes.take i).map GN.id)∧env=[(1,.sl tn (vs .str types)),(2,.ref 0 0 0 0),(5,.map 1 1),(12,.sl g.nn (vs GN.av g.nodes)),(13,.int .i64 g.nodes.length),(14,.int .i64 i)]∧s=⟨σ,c⟩) ?_ _ _ _ ⟨0,_,0,_,_,[],rfl,by omega,rfl,rfl,⟨rfl,by simp,fun v w o g h e=>by cases e⟩,rfl,rfl⟩
 rintro _ _ _ ⟨i,c,cn,cl,σ,M,rfl,hi,h0,h1,hS,rfl,rfl⟩
 refine⟨rfl,?_⟩
 by_cases hlt:i<g.nodes.length
 ·have Sl:(g.nodes.take (i+1)).map GN.id=(g.nodes.take i).map GN.id++[(g.nodes[i]).id]:=by rw[List.take_succ_eq_append_getElem hlt,List.map_append];rfl
  have hni:(g.nodes[i]).id∉(g.nodes.take i).map GN.id:=by
   have h:=hnd
   rw[show Ba g=(g.nodes.take (i+1)).map GN.id++(g.nodes.drop (i+1)).map GN.id by rw[← List.map_append,List.take_append_drop];rfl,Sl,List.append_assoc,List.nodup_append]at h
   exact fun hm=>h.2.2 _ hm _ (by simp) rfl
  have hl1:=BZ h1
  (conv=>whnf);repeat' (first|(refine Nc fun σ3 f3 h3 l3=>?_;have h03:=f3.get h02 (by simp);have h13:=f3.get h12 (by simp);have h23:=f3.get h2 (by simp);conv=>whnf)|(refine Nc fun σ1 f1 h2 l1=>?_;have h01:=f1.get h0 (by simp);have h11:=f1.get h1 (by simp);conv=>whnf)|(refine IB h13 fun σ4 f4 h4 l4=>?_;have h04:=f4.get h03 (by simp);conv=>whnf)|(refine IB h2 fun σ2 f2 h2 l2=>?_;have h02:=f2.get h01 (by simp;omega);have h12:=f2.get h11 (by simp;omega);conv=>whnf)|(rw [h2];conv=>whnf)|(rw [h23];conv=>whnf)|(rw [h13];conv=>whnf)|(refine Amu ?_;conv=>whnf)|(refine kA ?_;conv=>whnf)|(refine Br.mk (fun hc=>?_) fun hc=>?_<;>first|exact hc.elim|conv=>whnf)|(refine kB ?_))
  all_goals (
   replace f1:Gq σ σ1 []:=f1
   replace f2:Gq σ1 σ2 [σ.length]:=f2
   replace f3:Gq σ2 σ3 []:=f3
   replace f4:Gq σ3 σ4 [1]:=f4
   replace l1:σ1.length=σ.length+1:=l1
   replace l2:σ2.length=σ1.length:=l2
   have hq:=f4.get h3 (by simp;omega)
   have FT:Gq σ σ4 [1]:=(((f1.trans f2).trans f3).trans f4).mono (by
        intro o ho
        simp only[List.append_nil,List.nil_append,List.cons_append,List.mem_cons,List.mem_nil_iff,or_false]at ho ⊢
        omega)
   have hS4:=hS.new FT (by intro o ho;have:=List.mem_singleton.1 ho;exact .inl (by omega)) hni (o:=σ2.length) (by omega) (by omega) hq rfl
   rw[← Sl]at hS4
   first
   |(exfalso;omega)
   |exact again.mk ⟨_,by omega,i+1,_,0,_,σ4,_,rfl,by omega,h04,h4,hS4,rfl,rfl⟩)
 ·have hie:i=g.nodes.length:=by omega
  subst hie
  clear hlt hi cn
  rw[List.take_of_length_le (Nat.le_refl _)]at hS
  (conv=>whnf);repeat' (first|(rw [h0];conv=>whnf)|(rw [h1];conv=>whnf)|(refine kA ?_;conv=>whnf)|(refine Br.mk (fun hc=>?_) fun hc=>?_<;>first|exact hc.elim|conv=>whnf)|(refine kB ?_))
  refine Ai (fun m env s=>∃(i c:Nat) (cl:Bool) (σ:List Obj),m=g.edges.length-i∧i≤g.edges.length∧nth σ 0=some (.arr 0 4 true true [g.av])∧nth σ 1=some (.mp 1 cl (Yd M))∧NbS σ M (QC types (g.edges.take i)) (Ba g)∧env=[(1,.sl tn (vs .str types)),(5,.map 1 1),(24,.sl g.en (vs GE.av g.edges)),(25,.int .i64 g.edges.length),(26,.int .i64 i)]∧s=⟨σ,c⟩) ?_ _ _ _ ⟨0,_,_,_,rfl,by omega,h0,h1,hS,rfl,rfl⟩
  clear h0 h1 hS
  rintro _ _ _ ⟨i,c,cl,σ,rfl,hi,h0,h1,hS,rfl,rfl⟩
  refine⟨rfl,?_⟩
  by_cases hlt:i<g.edges.length
  ·have hL:QC types (g.edges.take (i+1))=I4 types (QC types (g.edges.take i)) g.edges[i]:=by
        unfold QC;rw[List.take_succ_eq_append_getElem hlt,List.foldl_append];rfl
   obtain⟨he1,he2⟩:=AcT _ (List.getElem_mem hlt)
   obtain⟨oa,ga,ca,a1,a2,a3⟩:=hS.pt _ he1
   obtain⟨ob,gb,cb,b1,b2,b3⟩:=hS.pt _ he2
   have hl1:=BZ h1
   have hla:=BZ a2
   have hlb:=BZ b2
   by_cases e1:(g.edges[i]).fr=(g.edges[i]).to
   ·rw[← show QC types (g.edges.take (i+1))=QC types (g.edges.take i) from by rw[hL];unfold I4;rw[if_neg (fun h=>h.1 e1)]]at hS
    (conv=>whnf);repeat' (first|(refine Nc fun σ1 f1 h2 l1=>?_;have h01:=f1.get h0 (by simp);have h11:=f1.get h1 (by simp);conv=>whnf)|(refine IB h2 fun σ2 f2 h2 l2=>?_;have h02:=f2.get h01 (by simp;omega);have h12:=f2.get h11 (by simp;omega);conv=>whnf)|(rw [h2];conv=>whnf)|(refine kA ?_;conv=>whnf)|(refine Br.mk (fun hc=>?_) fun hc=>?_<;>first|exact hc.elim|conv=>whnf)|(refine kB ?_))
    all_goals first
     |(exfalso;omega)
     |(exfalso;contradiction)
     |(replace f1:Gq σ σ1 []:=f1
       replace f2:Gq σ1 σ2 [σ.length]:=f2
       have FT:Gq σ σ2 []:=(f1.trans f2).mono (by
           intro o ho
           simp only[List.nil_append,List.mem_cons,List.mem_nil_iff,or_false]at ho ⊢
           omega)
       exact again.mk ⟨_,by omega,i+1,_,_,σ2,rfl,by omega,h02,h12,hS.keep FT (by simp),rfl,rfl⟩)
   ·have hab:oa≠ob:=fun e=>e1 (hS.inj _ _ _ _ _ a1 (by rw[e];exact b1))
    by_cases e2:HT types g.edges[i]
    ·have hT:=Sr (nn:=tn) (e:=g.edges[i]) ht
     rw[decide_eq_true e2]at hT
     (conv=>whnf);repeat' (first|(refine Nc fun σ1 f1 h2 l1=>?_;have h01:=f1.get h0 (by simp);have h11:=f1.get h1 (by simp);have a21:=f1.get a2 (by simp);have b21:=f1.get b2 (by simp);conv=>whnf)|(refine IB b23 fun σ4 f4 h4 l4=>?_;have h04:=f4.get h03 (by simp;omega);have h14:=f4.get h13 (by simp;omega);conv=>whnf)|(refine IB a22 fun σ3 f3 h3 l3=>?_;have h03:=f3.get h02 (by simp;omega);have h13:=f3.get h12 (by simp;omega);have h23:=f3.get h2 (by simp;omega);have b23:=f3.get b22 (by simp;omega);conv=>whnf)|(refine IB h2 fun σ2 f2 h2 l2=>?_;have h02:=f2.get h01 (by simp;omega);have h12:=f2.get h11 (by simp;omega);have a22:=f2.get a21 (by simp;omega);have b22:=f2.get b21 (by simp;omega);conv=>whnf)|(rw [h2];conv=>whnf)|(rw [h23];conv=>whnf)|(rw [h12];conv=>whnf)|(rw [h13];conv=>whnf)|(rw [a22];conv=>whnf)|(rw [b23];conv=>whnf)|(refine Aa hT ?_;rintro _ rfl;conv=>whnf)|(refine fkA a1 (fun _=>?_);conv=>whnf)|(refine fkA b1 (fun _=>?_);conv=>whnf)|(refine msT ?_;conv=>whnf)|(refine kA ?_;conv=>whnf)|(refine Br.mk (fun hc=>?_) fun hc=>?_<;>first|exact hc.elim|conv=>whnf)|(refine kB ?_))
     all_goals first
      |(exfalso;omega)
      |(exfalso;contradiction)
      |(replace f1:Gq σ σ1 []:=f1
        replace f2:Gq σ1 σ2 [σ.length]:=f2
        replace f3:Gq σ2 σ3 [oa]:=f3
        replace f4:Gq σ3 σ4 [ob]:=f4
        have F2:Gq σ σ2 []:=(f1.trans f2).mono (by
            intro o ho
            simp only[List.nil_append,List.mem_cons,List.mem_nil_iff,or_false]at ho ⊢
            omega)
        have hS3:=(hS.keep F2 (by simp)).put (L':=fun w=>if w=(g.edges[i]).fr then EI (QC types (g.edges.take i) (g.edges[i]).fr) (g.edges[i]).to true else QC types (g.edges.take i) w) a1 f3 h3 (fun w=>rfl)
        have hS4:=hS3.put (L':=QC types (g.edges.take (i+1))) b1 f4 h4 (fun w=>by
            rw[hL];unfold I4;rw[if_pos ⟨e1,e2⟩])
        exact again.mk ⟨_,by omega,i+1,_,_,σ4,rfl,by omega,h04,h14,hS4,rfl,rfl⟩)
    ·have hT:=Sr (nn:=tn) (e:=g.edges[i]) ht
     rw[decide_eq_false e2]at hT
     rw[← show QC types (g.edges.take (i+1))=QC types (g.edges.take i) from by rw[hL];unfold I4;rw[if_neg (fun h=>e2 h.2)]]at hS
     (conv=>whnf);repeat' (first|(refine Nc fun σ1 f1 h2 l1=>?_;have h01:=f1.get h0 (by simp);have h11:=f1.get h1 (by simp);conv=>whnf)|(refine IB h2 fun σ2 f2 h2 l2=>?_;have h02:=f2.get h01 (by simp;omega);have h12:=f2.get h11 (by simp;omega);conv=>whnf)|(rw [h2];conv=>whnf)|(refine Aa hT ?_;rintro _ rfl;conv=>whnf)|(refine kA ?_;conv=>whnf)|(refine Br.mk (fun hc=>?_) fun hc=>?_<;>first|exact hc.elim|conv=>whnf)|(refine kB ?_))
     all_goals first
      |(exfalso;omega)
      |(exfalso;contradiction)
      |(replace f1:Gq σ σ1 []:=f1
        replace f2:Gq σ1 σ2 [σ.length]:=f2
        have FT:Gq σ σ2 []:=(f1.trans f2).mono (by
            intro o ho
            simp only[List.nil_append,List.mem_cons,List.mem_nil_iff,or_false]at ho ⊢
            omega)
        exact again.mk ⟨_,by omega,i+1,_,_,σ2,rfl,by omega,h02,h12,hS.keep FT (by simp),rfl,rfl⟩)
  ·have hie:i=g.edges.length:=by omega
   subst hie
   rw[List.take_of_length_le (Nat.le_refl _)]at hS
   (conv=>whnf);repeat' (first  |(refine kA ?_;conv=>whnf)|(refine Br.mk (fun hc=>?_) fun hc=>?_<;>first|exact hc.elim|conv=>whnf)|(refine kB ?_))
   all_goals first
        |(exfalso;omega)
        |(refine Df (hS.snap hnd (n:=1000) (fun v=>Nat.le_trans (WQ (n:=0) (fun _=>Nat.le_refl _)) (by omega)) h1 (by rw[CV];show _≤1000000;omega)) ?_
          unfold Ba
          rw[List.map_map]
          rfl)
end AI
end Go.Proofs.YtchcadfjbkkgmaaGreatDoor
