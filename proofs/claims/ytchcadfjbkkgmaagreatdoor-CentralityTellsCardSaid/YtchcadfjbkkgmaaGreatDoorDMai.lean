/- Components as data: lists of labels, and a forest of sets whose representatives are their least elements. Plain. Lists of labels: Find, Join (both), Same. The reference's triangles: who is joined, the table, who is near. The reference's validity of values: it answers. The reference's validity of values, with lists in lists. The reference's bare values and strings. The reference's check of values that may be stored, of labels and properties. The reference's Check of a graph. The reference's triangles. -/
import GoSem.Dispatch
import Derived.Test.YtchcadfjbkkgmaaGreatDoorDMag
import Derived.Test.YtchcadfjbkkgmaaGreatDoorDMah
import Derived.Test.YtchcadfjbkkgmaaGreatDoorDMaf
set_option linter.unusedVariables false
set_option maxRecDepth 4000
namespace Go.Proofs.YtchcadfjbkkgmaaGreatDoor
namespace AI
def AbO (x y:Int):Int:=if y<x then y else x
def S9 (x y:Int) (p:Int×Int):Int×Int:=if p.2=x∨p.2=y then(p.1,AbO x y)else p
inductive Root (p:Int→Int):Int→Int→Prop where
 |here {x:Int} (h:p x=x):Root p x x
 |up {x c:Int} (h:p x≠x) (k:Root p (p x) c):Root p x c
theorem Root.fix {p:Int→Int} {x c:Int} (h:Root p x c):p c=c:=by
 induction h with
 |here h=>exact h
 |up _ _ ih=>exact ih
theorem Root.YI {p:Int→Int} {x c d:Int} (h:Root p x c) (k:Root p x d):c=d:=by
 induction h with
 |here h=>cases k with
  |here _=>rfl
  |up h' _=>exact absurd h h'
 |up h _ ih=>cases k with
  |here h'=>exact absurd h' h
  |up _ k'=>exact ih k'
def AbP (p:Int→Int) (x y:Int):Int→Int:=fun z=>if z=x then y else p z
theorem JH (p:Int→Int) (x y:Int):AbP p x y x=y:=if_pos rfl
theorem FK {p:Int→Int} {x y z:Int} (h:z≠x):AbP p x y z=p z:=if_neg h
theorem Root.union {p:Int→Int} {M m:Int} (hM:p M=M) (hm:p m=m) (hne:m≠M) {a d:Int} (h:Root p a d):Root (AbP p M m) a (if d=M then m else d):=by
 have hmm:AbP p M m m=m:=by rw[FK hne,hm]
 induction h with
 |@here a h=>
  by_cases e:a=M
  ·subst e
   rw[if_pos rfl]
   exact .up (by rw[JH];exact hne) (by rw[JH];exact .here hmm)
  ·rw[if_neg e]
   exact .here (by rw[FK e,h])
 |@up a d h k ih=>
  by_cases e:a=M
  ·subst e;exact absurd hM h
  ·exact .up (by rw[FK e];exact h) (by rw[FK e];exact ih)
structure IK (S:List Int) (p r:Int→Int):Prop where
 mem:∀x∈S,p x∈S
 le:∀x∈S,p x≤x
 root:∀x∈S,Root p x (r x)
section
variable {S:List Int} {p r:Int→Int}
theorem IK.Ajq (h:IK S p r) {x:Int} (hx:x∈S):r x∈S:=by
 have k:=h.root x hx
 generalize r x=c at k
 induction k with
 |here _=>exact hx
 |up _ _ ih=>exact ih (h.mem _ hx)
theorem IK.Ajr (h:IK S p r) {x:Int} (hx:x∈S):p (r x)=r x:=(h.root x hx).fix
theorem IK.step (h:IK S p r) {x:Int} (hx:x∈S):r (p x)=r x:=by
 have k:=h.root x hx
 by_cases e:p x=x
 ·rw[e]
 ·generalize r x=c at k
  cases k with
  |here h'=>exact absurd h' e
  |up _ k'=>exact(h.root _ (h.mem x hx)).YI k'
theorem IK.start (S:List Int):IK S (fun x=>x) (fun x=>x):=⟨fun _ h=>h,fun _ _=>Int.le_refl _,fun _ _=>.here rfl⟩
theorem IK.union (h:IK S p r) {a b:Int} (ha:a∈S) (hb:b∈S):
 IK S (AbP p (if r b>r a then r b else r a) (if r b<r a then r b else r a)) (fun c=>(S9 (r a) (r b) (c,r c)).2):=by
 obtain⟨M,hM⟩:∃M,(if r b>r a then r b else r a)=M:=⟨_,rfl⟩
 obtain⟨m,hm⟩:∃m,(if r b<r a then r b else r a)=m:=⟨_,rfl⟩
 rw[hM,hm]
 have fa:=h.Ajr ha
 have fb:=h.Ajr hb
 have ma:=h.Ajq ha
 have mb:=h.Ajq hb
 have hMr:M=r a∨M=r b:=by rw[← hM];split<;>simp
 have hmr:m=r a∨m=r b:=by rw[← hm];split<;>simp
 have hle:m≤M:=by rw[← hM,←hm];split<;>split<;>omega
 have hMS:M∈S:=by rcases hMr with e|e<;>rw[e]<;>assumption
 have hmS:m∈S:=by rcases hmr with e|e<;>rw[e]<;>assumption
 have hMf:p M=M:=by rcases hMr with e|e<;>rw[e]<;>assumption
 have hmf:p m=m:=by rcases hmr with e|e<;>rw[e]<;>assumption
 have hmin:AbO (r a) (r b)=m:=by rw[← hm];rfl
 refine⟨fun y hy=>?_,fun y hy=>?_,fun y hy=>?_⟩
 ·by_cases e:y=M
  ·subst e;rw[JH];exact hmS
  ·rw[FK e];exact h.mem y hy
 ·by_cases e:y=M
  ·subst e;rw[JH];exact hle
  ·rw[FK e];exact h.le y hy
 ·by_cases e:m=M
  ·have hab:r a=r b:=by
        rw[← hM,←hm]at e
        split at e<;>split at e<;>omega
   have hself:AbP p M m=p:=by
        funext z
        by_cases ez:z=M
        ·subst ez;rw[JH,hMf];exact e
        ·exact FK ez
   rw[hself]
   have:(S9 (r a) (r b) (y,r y)).2=r y:=by
        unfold S9
        split
        ·rename_i hc
         show AbO (r a) (r b)=r y
         unfold AbO
         simp only at hc
         split<;>omega
        ·rfl
   rw[this]
   exact h.root y hy
  ·have k:=(h.root y hy).union hMf hmf e
   have:(S9 (r a) (r b) (y,r y)).2=if r y=M then m else r y:=by
        unfold S9
        rw[hmin]
        simp only
        by_cases c1:r y=r a∨r y=r b
        ·rw[if_pos c1]
         show m=_
         by_cases c2:r y=M
         ·rw[if_pos c2]
         ·rw[if_neg c2]
          rcases c1 with c|c
          ·rw[c]at c2 ⊢
           rw[← hM]at c2
           rw[← hm]
           split at c2<;>split<;>omega
          ·rw[c]at c2 ⊢
           rw[← hM]at c2
           rw[← hm]
           split at c2<;>split<;>omega
        ·rw[if_neg c1]
         have:r y≠M:=fun e=>c1 (by rcases hMr with k|k<;>omega)
         rw[if_neg this]
   rw[this]
   exact k
def FB (S:List Int) (r:Int→Int):List (Int×Int):=S.map fun i=>(i,r i)
end
def pv (p:Int×Int):AV:=.agg [.int .i64 p.1,.int .i64 p.2]
theorem Agj (x:Int×Int):(pv x).cells.length=2:=rfl
structure Half (f:Int×Int→Int×Int) (l W:List (Int×Int)) (i:Nat):Prop where
 len:W.length=l.length
 old:∀j,i≤j→W[j]?=l[j]?
 new:∀j,j<i→W[j]?=(l.map f)[j]?
theorem Half.start (f:Int×Int→Int×Int) (l:List (Int×Int)):Half f l l 0:=⟨rfl,fun _ _=>rfl,fun _ h=>absurd h (by omega)⟩
theorem Half.at {f:Int×Int→Int×Int} {l W:List (Int×Int)} {i:Nat} (h:Half f l W i) (hi:i<l.length):W[i]'(by rw[h.len];exact hi)=l[i]:=by
 have:=h.old i (Nat.le_refl _)
 rw[List.getElem?_eq_getElem hi,List.getElem?_eq_getElem (by rw[h.len];exact hi)]at this
 simpa using this
theorem Half.put {f:Int×Int→Int×Int} {l W:List (Int×Int)} {i:Nat} (h:Half f l W i) (hi:i<l.length):Half f l (W.set i (f (l[i]))) (i+1):=by
 refine⟨by simp[h.len],fun j hj=>?_,fun j hj=>?_⟩
 ·rw[List.getElem?_set_ne (by omega)];exact h.old j (by omega)
 ·by_cases e:j=i
  ·subst e
   rw[List.getElem?_set_self (by rw[h.len];exact hi),List.getElem?_map,List.getElem?_eq_getElem hi];rfl
  ·rw[List.getElem?_set_ne (by omega)];exact h.new j (by omega)
theorem Half.skip {f:Int×Int→Int×Int} {l W:List (Int×Int)} {i:Nat} (h:Half f l W i) (hi:i<l.length) (he:f (l[i])=l[i]):Half f l W (i+1):=by
 refine⟨h.len,fun j hj=>h.old j (by omega),fun j hj=>?_⟩
 by_cases e:j=i
 ·subst e
  rw[h.old j (Nat.le_refl _),List.getElem?_map,List.getElem?_eq_getElem hi,Option.map_some,he]
 ·exact h.new j (by omega)
theorem Half.all {f:Int×Int→Int×Int} {l W:List (Int×Int)} {i:Nat} (h:Half f l W i) (hi:¬i<l.length):W=l.map f:=by
 apply List.ext_getElem?
 intro j
 by_cases hj:j<i
 ·exact h.new j hj
 ·rw[List.getElem?_eq_none (by rw[h.len];omega),List.getElem?_eq_none (by simp;omega)]
def JP (types:List (List UInt8)) (a b:Int) (e:GE):Prop:=e.fr=a∧e.to=b∧HT types e
instance (types:List (List UInt8)) (a b:Int) (e:GE):Decidable (JP types a b e):=by unfold JP;infer_instance
def JN (types:List (List UInt8)) (es:List GE) (a b:Int):Prop:=∃i,∃h:i<es.length,JP types a b es[i]
noncomputable instance (types:List (List UInt8)) (es:List GE) (a b:Int):Decidable (JN types es a b):=Classical.propDecidable _
set_option maxHeartbeats 1000000 in
theorem Agt {g:GG} (hg:g.ok) {types:List (List UInt8)} {tn:Bool} {a b:Int} (ht:types.length<2^63):Ah (Ac tab) 70 [g.av,.sl tn (vs .str types),.int .i64 a,.int .i64 b] (· =.bool (decide (JN types g.edges a b))):=by
 have hl:=hg.2.2.2.1
 unfold Ln at hl
 refine Ad rfl rfl ?_
 (conv=>whnf);repeat' (first  |(refine kA ?_;conv=>whnf)|(refine Br.mk (fun hc=>?_) fun hc=>?_<;>first|exact hc.elim|conv=>whnf)|(refine kB ?_))
 refine Ai (fun m env s=>∃(i c:Nat),m=g.edges.length-i∧(∀ k,∀h:k<g.edges.length,k<i→¬JP types a b g.edges[k])∧env=[(1,.sl tn (vs .str types)),(2,.int .i64 a),(3,.int .i64 b),(4,.ref 0 0 0 0),(9,.int .i64 i)]∧s=⟨[.arr 0 4 true true [g.av]],c⟩) ?_ _ _ _ ⟨0,_,rfl,fun k h hk=>by omega,rfl,rfl⟩
 rintro _ _ _ ⟨i,c,rfl,hno,rfl,rfl⟩
 refine⟨rfl,?_⟩
 by_cases hlt:i<g.edges.length
 ·have hnext:¬JP types a b g.edges[i]→∀k,∀h:k<g.edges.length,k<i+1→¬JP types a b g.edges[k]:=fun hn k h hk=>by
   by_cases e:k=i
   ·subst e;exact hn
   ·exact hno k h (by omega)
  by_cases h1:(g.edges[i]).fr=a<;>by_cases h2:(g.edges[i]).to=b<;>by_cases h3:HT types g.edges[i]
  all_goals (
   have hT:=AeR (nn:=tn) (e:=g.edges[i]) ht
   first|rw[decide_eq_true h3]at hT|rw[decide_eq_false h3]at hT
   (conv=>whnf);repeat' (first|(refine Aa hT ?_;rintro _ rfl;conv=>whnf)|(refine kA ?_;conv=>whnf)|(refine Br.mk (fun hc=>?_) fun hc=>?_<;>first|exact hc.elim|conv=>whnf)|(refine kB ?_)))
  all_goals first
   |(exfalso;omega)
   |(exfalso;contradiction)
   |exact again.mk ⟨_,by omega,i+1,_,rfl,hnext (fun h=>by first|exact h1 h.1|exact h2 h.2.1|exact h3 h.2.2),rfl,rfl⟩
   |exact BN ⟨i,hlt,h1,h2,h3⟩
 ·(conv=>whnf);repeat' (first  |(refine kA ?_;conv=>whnf)|(refine Br.mk (fun hc=>?_) fun hc=>?_<;>first|exact hc.elim|conv=>whnf)|(refine kB ?_))
  all_goals first
   |(exfalso;omega)
   |exact Bf (fun ⟨k,h,hk⟩=>hno k h (by omega) hk)
noncomputable def adj (types:List (List UInt8)) (g:GG) (m n:GN):Bool:=decide (JN types g.edges m.id n.id)
noncomputable def Gs (types:List (List UInt8)) (g:GG):List (List Bool):=g.nodes.map fun m=>g.nodes.map (adj types g m)
def UL (r:List Bool):AV:=.sl true (vs .bool r)
theorem cellsB (b:Bool):(AV.bool b).cells.length=1:=rfl
theorem Agu (r:List Bool):(UL r).cells.length=1:=rfl
set_option maxHeartbeats 1000000 in
theorem AcE {g:GG} (hg:g.ok) (hN:g.nodes.length≤1000) {types:List (List UInt8)} {tn:Bool} (ht:types.length<2^63):Ah (Ac tab) 34 [g.av,.sl tn (vs .str types)] (· =.sl (decide (0<g.nodes.length)) (vs UL (Gs types g))):=by
 refine Ad rfl rfl ?_
 (conv=>whnf);repeat' (first  |(refine kA ?_;conv=>whnf)|(refine Br.mk (fun hc=>?_) fun hc=>?_<;>first|exact hc.elim|conv=>whnf)|(refine kB ?_))
 refine Ai (fun m env s=>∃(i c gg:Nat) (nn:Bool),m=g.nodes.length-i∧i≤g.nodes.length∧nn=decide (0<i)∧env=[(1,.sl tn (vs .str types)),(2,.ref 0 0 0 0),(5,.own 1 gg 0 i),(6,.int .i64 i)]∧s=⟨[.arr 0 4 true true [g.av],.arr gg 1 nn true (vs UL ((Gs types g).take i))],c⟩) ?_ _ _ _ ⟨0,_,_,_,rfl,by omega,rfl,rfl,rfl⟩
 rintro _ _ _ ⟨i,c,gg,nn,rfl,hi,hnn,rfl,rfl⟩
 refine⟨rfl,?_⟩
 by_cases hlt:i<g.nodes.length
 ·have hrl:(g.nodes.map (adj types g g.nodes[i])).length=g.nodes.length:=List.length_map _
  (conv=>whnf);repeat' (first  |(refine kA ?_;conv=>whnf)|(refine Br.mk (fun hc=>?_) fun hc=>?_<;>first|exact hc.elim|conv=>whnf)|(refine kB ?_))
  refine Ai (fun m env s=>∃(j c g2:Nat) (n2:Bool),m=g.nodes.length-j∧j≤g.nodes.length∧(0<j→n2=true)∧env=[(1,.sl tn (vs .str types)),(2,.ref 0 0 0 0),(5,.own 1 gg 0 i),(6,.int .i64 i),(7,.own 2 g2 0 j),(8,.int .i64 j)]∧s=⟨[.arr 0 4 true true [g.av],.arr gg 1 nn true (vs UL ((Gs types g).take i)),.arr g2 1 n2 true (vs .bool ((g.nodes.map (adj types g g.nodes[i])).take j))],c⟩) ?_ _ _ _ ⟨0,_,_,_,rfl,by omega,fun h=>by omega,rfl,rfl⟩
  rintro _ _ _ ⟨j,c2,g2,n2,rfl,hj,hn2,rfl,rfl⟩
  refine⟨rfl,?_⟩
  by_cases hjlt:j<g.nodes.length
  ·have pj:=Agt (a:=(g.nodes[i]).id) (b:=(g.nodes[j]).id) (tn:=tn) hg ht
   have htk:((g.nodes.map (adj types g g.nodes[i])).take j).length=j:=by rw[List.length_take,hrl];omega
   have hsn:(g.nodes.map (adj types g g.nodes[i])).take (j+1)=(g.nodes.map (adj types g g.nodes[i])).take j++[decide (JN types g.edges (g.nodes[i]).id (g.nodes[j]).id)]:=by
        rw[List.take_succ_eq_append_getElem (by rw[hrl];exact hjlt),List.getElem_map];rfl
   generalize decide (JN types g.edges (g.nodes[i]).id (g.nodes[j]).id)=bb at pj hsn
   cases bb
   all_goals (
        (conv=>whnf);repeat' (first|(refine Aa pj ?_;rintro _ rfl;conv=>whnf)|(refine Sm (f:=.bool) (l:=(g.nodes.map (adj types g g.nodes[i])).take j) cellsB (by rw[htk]) (by rw[htk];omega) ?_;conv=>whnf)|(refine kA ?_;conv=>whnf)|(refine Br.mk (fun hc=>?_) fun hc=>?_<;>first|exact hc.elim|conv=>whnf)|(refine kB ?_)))
   all_goals first
        |(exfalso;omega)
        |(rw [htk,←hsn];exact again.mk ⟨_,by omega,j+1,_,_,_,rfl,by omega,fun _=>rfl,rfl,rfl⟩)
  ·have hje:j=g.nodes.length:=by omega
   subst hje
   have hrt:(g.nodes.map (adj types g g.nodes[i])).take g.nodes.length=g.nodes.map (adj types g g.nodes[i]):=List.take_of_length_le (by rw[hrl];exact Nat.le_refl _)
   rw[hrt]
   have hsub:sub (vs AV.bool (g.nodes.map (adj types g g.nodes[i]))) 0 g.nodes.length=vs AV.bool (g.nodes.map (adj types g g.nodes[i])):=by
        have:sub (vs AV.bool (g.nodes.map (adj types g g.nodes[i]))) 0 (g.nodes.map (adj types g g.nodes[i])).length=vs AV.bool (g.nodes.map (adj types g g.nodes[i])):=uV
        rwa [hrl]at this
   obtain rfl:=hn2 (by omega)
   have hti:((Gs types g).take i).length=i:=by rw[List.length_take];unfold Gs;rw[List.length_map];omega
   have hsn:(Gs types g).take (i+1)=(Gs types g).take i++[g.nodes.map (adj types g g.nodes[i])]:=by
        rw[List.take_succ_eq_append_getElem (by unfold Gs;rw[List.length_map];exact hlt)];unfold Gs;rw[List.getElem_map]
   (conv=>whnf);repeat' (first|(rw [hsub];conv=>whnf)|(refine Sm (f:=UL) (l:=(Gs types g).take i) (x:=g.nodes.map (adj types g g.nodes[i])) Agu (by rw[hti]) (by rw[hti];omega) ?_;conv=>whnf)|(refine kA ?_;conv=>whnf)|(refine Br.mk (fun hc=>?_) fun hc=>?_<;>first|exact hc.elim|conv=>whnf)|(refine kB ?_))
   all_goals first
        |(exfalso;omega)
        |(rw [hti,←hsn];exact again.mk ⟨_,by omega,i+1,_,_,_,rfl,by omega,(decide_eq_true (by omega)).symm,rfl,rfl⟩)
        |(rw [hti,←hsn];exact again.mk ⟨_,by omega,i+1,_,_,_,rfl,by omega,(decide_eq_true (by omega)).symm,rfl,rfl⟩)
 ·have hie:i=g.nodes.length:=by omega
  subst hie
  have htl:(Gs types g).length=g.nodes.length:=by unfold Gs;rw[List.length_map]
  rw[List.take_of_length_le (by rw[htl];exact Nat.le_refl _)]
  have htS:sub (vs UL (Gs types g)) 0 g.nodes.length=vs UL (Gs types g):=by
   have:sub (vs UL (Gs types g)) 0 (Gs types g).length=vs UL (Gs types g):=uV
   rwa [htl]at this
  (conv=>whnf);repeat' (first|(refine AU (by rw[← htl];exact uV) ?_;conv=>whnf)|(refine Ak ⟨rfl,by simp[htl]⟩ ?_;conv=>whnf)|(refine kA ?_;conv=>whnf)|(refine Br.mk (fun hc=>?_) fun hc=>?_<;>first|exact hc.elim|conv=>whnf)|(refine kB ?_))
  all_goals first
   |(exfalso;omega)
   |(rw [hnn,htS])
theorem bare {g:GV} {n d s l:Bool}:Ah (Ac tab) 189 [g.av,.bool n,.bool d,.bool s,.bool l] (fun v=>∃b,v=.bool b):=by
 cases n<;>cases d<;>cases s<;>cases l<;>(
 refine Ad rfl rfl ?_
 (conv=>whnf);repeat' (first|(refine kA ?_;conv=>whnf)|(refine Br.mk (fun hc=>?_) fun hc=>?_<;>first|exact hc.elim|conv=>whnf)  |(refine kB ?_))
 all_goals exact⟨_,rfl⟩)
theorem AlV {n:Int}:Ah (Ac tab) 190 [.int .i64 n] (fun v=>∃b,v=.bool b):=by
 refine Ad rfl rfl ?_
 (conv=>whnf);repeat' (first|(refine kA ?_;conv=>whnf)|(refine Br.mk (fun hc=>?_) fun hc=>?_<;>first|exact hc.elim|conv=>whnf)  |(refine kB ?_))
 all_goals exact⟨_,rfl⟩
theorem size {n:Int} (h1:-2^62≤n) (h2:n≤2^62):Ah (Ac tab) 45 [.int .i64 n] (fun v=>∃z,v=.int .i64 z∧0≤z∧(z=n∨z=-n)):=by
 refine Ad rfl rfl ?_
 (conv=>whnf);repeat' (first|(refine kA ?_;conv=>whnf)|(refine Br.mk (fun hc=>?_) fun hc=>?_<;>first|exact hc.elim|conv=>whnf)  |(refine kB ?_))
 all_goals exact⟨_,rfl,by omega,by omega⟩
theorem gcd {a b:Int} (h1:0≤a) (h2:0≤b):Ah (Ac tab) 41 [.int .i64 a,.int .i64 b] (fun v=>∃z,v=.int .i64 z):=by
 refine Ad rfl rfl ?_
 (conv=>whnf);repeat' (first|(refine kA ?_;conv=>whnf)|(refine Br.mk (fun hc=>?_) fun hc=>?_<;>first|exact hc.elim|conv=>whnf)  |(refine kB ?_))
 refine Ai (fun m env s=>∃(a b:Int),m=b.toNat∧0≤a∧0≤b∧env=[(0,.int .i64 a),(1,.int .i64 b)]∧s=⟨[],0⟩) ?_ _ _ _ ⟨a,b,rfl,h1,h2,rfl,rfl⟩
 clear h1 h2 a b
 rintro _ _ _ ⟨a,b,rfl,h1,h2,rfl,rfl⟩
 refine⟨rfl,?_⟩
 (conv=>whnf);repeat' (first|(refine kA ?_;conv=>whnf)|(refine Br.mk (fun hc=>?_) fun hc=>?_<;>first|exact hc.elim|conv=>whnf)  |(refine kB ?_))
 ·have e:a.tmod b=a % b:=Int.tmod_eq_emod_of_nonneg h1
  have:=Int.emod_lt_of_pos a (by omega:0<b)
  have:=Int.emod_nonneg a (by omega:b≠0)
  exact again.mk ⟨_,by rw[e];omega,_,_,rfl,h2,by rw[e];omega,rfl,rfl⟩
 ·exact⟨_,rfl⟩
theorem AhC {n d:Int}:Ah (Ac tab) 40 [.agg [.int .i64 n,.int .i64 d]] (fun v=>∃b,v=.bool b∧(b=true→1≤d∧d≤1000000000000000∧-1000000000000000≤n∧n≤1000000000000000)):=by
 refine Ad rfl rfl ?_
 (conv=>whnf);repeat' (first|(refine kA ?_;conv=>whnf)|(refine Br.mk (fun hc=>?_) fun hc=>?_<;>first|exact hc.elim|conv=>whnf)|(refine Aa (size (n:=n) (by omega) (by omega)) ?_;rintro _ ⟨z,rfl,hz1,hz2⟩;conv=>whnf)|(refine Aa (gcd (by omega) (by omega)) ?_;rintro _ ⟨z2,rfl⟩;conv=>whnf)|(refine kB ?_))
 all_goals first|exact⟨_,rfl,fun _=>by omega⟩|exact⟨_,rfl,fun h=>absurd h Bool.false_ne_true⟩
theorem Ajw {s:List UInt8} (hl:s.length<2^63):Ah (Ac tab) 191 [.str s] (fun v=>∃b,v=.bool b):=by
 refine Ad rfl rfl ?_
 (conv=>whnf);repeat' (first|(refine kA ?_;conv=>whnf)|(refine Br.mk (fun hc=>?_) fun hc=>?_<;>first|exact hc.elim|conv=>whnf)  |(refine kB ?_))
 refine Ai (fun m env s'=>∃i:Nat,m=s.length-i∧env=[(0,.str s),(3,.int .i64 i)]∧s'=⟨[],0⟩) ?_ _ _ _ ⟨0,rfl,rfl,rfl⟩
 rintro _ _ _ ⟨i,rfl,rfl,rfl⟩
 refine⟨rfl,?_⟩
 (conv=>whnf);repeat' (first|(refine kA ?_;conv=>whnf)|(refine Br.mk (fun hc=>?_) fun hc=>?_<;>first|exact hc.elim|conv=>whnf)  |(refine kB ?_))
 all_goals first|exact⟨_,rfl⟩|exact again.mk ⟨_,by omega,i+1,rfl,rfl,rfl⟩
theorem Ab9 {g:GV} {n:Int} (h:g.k=5∨g.k=6):Ah (Ac tab) 163 [g.av,.int .i64 n] (fun v=>∃b,v=.bool b):=by
 refine Ad rfl rfl ?_
 (conv=>whnf);repeat' (first|(refine kA ?_;conv=>whnf)|(refine Br.mk (fun hc=>?_) fun hc=>?_<;>first|exact hc.elim|conv=>whnf)|(refine Aa (bare (g:=g)) ?_;rintro _ ⟨b,rfl⟩;conv=>whnf)|(refine kB ?_))
 all_goals exact⟨_,rfl⟩
theorem AhD {l:List AV} {nn:Bool} (hl:l.length<2^63) (h:∀x∈l,Like Tryz.prog 50 x):Ah (Ac tab) 192 [.sl nn l] (fun v=>∃b,v=.bool b):=by
 refine Ad rfl rfl ?_
 (conv=>whnf);repeat' (first|(refine kA ?_;conv=>whnf)|(refine Br.mk (fun hc=>?_) fun hc=>?_<;>first|exact hc.elim|conv=>whnf)  |(refine kB ?_))
 all_goals first|exact⟨_,rfl⟩|skip
 refine Ai (fun m env s'=>∃i:Nat,m=l.length-i∧env=[(0,.sl nn l),(3,.int .i64 i)]∧s'=⟨[],0⟩) ?_ _ _ _ ⟨0,rfl,rfl,rfl⟩
 rintro _ _ _ ⟨i,rfl,rfl,rfl⟩
 refine⟨rfl,?_⟩
 obtain⟨gx,hgx⟩:=VJ h i
 (conv=>whnf);repeat' (first|(refine kA ?_;conv=>whnf)|(refine Br.mk (fun hc=>?_) fun hc=>?_<;>first|exact hc.elim|conv=>whnf)|(apply Au;(· exact(hgx (by omega)).1);conv=>whnf)|(refine Aa (Ab9 (g:=gx) (by omega)) ?_;rintro _ ⟨b,rfl⟩;conv=>whnf)|(refine kB ?_))
 all_goals first|exact⟨_,rfl⟩|exact again.mk ⟨_,by omega,i+1,rfl,rfl,rfl⟩
theorem Aju {l:List AV} {nn:Bool} (hl:l.length<2^63):Ah (Ac tab) 193 [.sl nn l,.int .i64 0] (fun v=>∃b,v=.bool b):=by
 refine Ad rfl rfl ?_
 (conv=>whnf);repeat' (first|(refine kA ?_;conv=>whnf)|(refine Br.mk (fun hc=>?_) fun hc=>?_<;>first|exact hc.elim|conv=>whnf)  |(refine kB ?_))
 all_goals exact⟨_,rfl⟩
theorem Ajv {n:Nat} (ih:∀{g:GV},g.ok→Ah (Ac tab) 163 [g.av,.int .i64 n] (fun v=>∃b,v=.bool b)) (hn:n<2^60) {l:List AV} {nn:Bool} (hl:l.length<2^63) (h:∀x∈l,Like Tryz.prog 50 x):
 Ah (Ac tab) 193 [.sl nn l,.int .i64 (n+1:Nat)] (fun v=>∃b,v=.bool b):=by
 refine Ad rfl rfl ?_
 (conv=>whnf);repeat' (first|(refine kA ?_;conv=>whnf)|(refine Br.mk (fun hc=>?_) fun hc=>?_<;>first|exact hc.elim|conv=>whnf)  |(refine kB ?_))
 all_goals first|exact⟨_,rfl⟩|skip
 refine Ai (fun m env s'=>∃i:Nat,m=l.length-i∧env=[(0,.sl nn l),(1,.int .i64 (n+1:Nat)),(5,.int .i64 i)]∧s'=⟨[],0⟩) ?_ _ _ _ ⟨0,rfl,rfl,rfl⟩
 rintro _ _ _ ⟨i,rfl,rfl,rfl⟩
 refine⟨rfl,?_⟩
 obtain⟨gx,hgx⟩:=VJ h i
 have ih':∀{g:GV},g.ok→Ah (Ac tab) 163 [g.av,.int .i64 (((n+1:Nat):Int)-1)] (fun v=>∃b,v=.bool b):=by
  rw[show ((n+1:Nat):Int)-1=(n:Int) by omega];exact ih
 (conv=>whnf);repeat' (first|(refine kA ?_;conv=>whnf)|(refine Br.mk (fun hc=>?_) fun hc=>?_<;>first|exact hc.elim|conv=>whnf)|(apply Au;(· exact(hgx (by omega)).1);conv=>whnf)|(refine Aa (ih' (g:=gx) (hgx (by omega)).2.2) ?_;rintro _ ⟨b,rfl⟩;conv=>whnf)|(refine kB ?_))
 all_goals first|exact⟨_,rfl⟩|exact again.mk ⟨_,by omega,i+1,rfl,rfl,rfl⟩
theorem Adu {n:Int} {g:GV} (hg:g.ok) (hlist:Ah (Ac tab) 193 [.sl g.nn g.l,.int .i64 n] (fun v=>∃b,v=.bool b)):
 Ah (Ac tab) 163 [g.av,.int .i64 n] (fun v=>∃b,v=.bool b):=by
 obtain⟨g1,g2,g3,g4,g5,g6,g7⟩:=hg
 unfold Ln at g4 g5
 refine Ad rfl rfl ?_
 (conv=>whnf);repeat' (first|(refine kA ?_;conv=>whnf)|(refine Br.mk (fun hc=>?_) fun hc=>?_<;>first|exact hc.elim|conv=>whnf)|(refine Aa (bare (g:=g)) ?_;rintro _ ⟨b,rfl⟩;conv=>whnf)|(refine Aa (AlV (n:=g.n)) ?_;rintro _ ⟨b,rfl⟩;conv=>whnf)|(refine Aa (AhC (n:=g.n) (d:=g.d)) ?_;rintro _ ⟨b,rfl,_⟩;conv=>whnf)|(refine Aa (Ajw g4) ?_;rintro _ ⟨b,rfl⟩;conv=>whnf)|(refine Aa (AhD g5 g7) ?_;rintro _ ⟨b,rfl⟩;conv=>whnf)|(refine Aa hlist ?_;rintro _ ⟨b,rfl⟩;conv=>whnf)|(refine kB ?_))
 all_goals exact⟨_,rfl⟩
theorem valid {n:Nat} (hn:n<2^60):∀{g:GV},g.ok→Ah (Ac tab) 163 [g.av,.int .i64 n] (fun v=>∃b,v=.bool b):=by
 induction n with
 |zero=>intro g hg;exact Adu hg (Aju hg.2.2.2.2.1)
 |succ n ih=>intro g hg;exact Adu hg (Ajv (ih (by omega)) (by omega) hg.2.2.2.2.1 hg.2.2.2.2.2.2)
theorem Valid {g:GV} (hg:g.ok):Ah (Ac tab) 146 [g.av] (fun v=>∃b,v=.bool b):=by
 refine Ad rfl rfl ?_
 (conv=>whnf);repeat' (first|(refine kA ?_;conv=>whnf)|(refine Br.mk (fun hc=>?_) fun hc=>?_<;>first|exact hc.elim|conv=>whnf)|(refine Aa (valid (n:=8) (by omega) hg) ?_;rintro _ ⟨b,rfl⟩;conv=>whnf)|(refine kB ?_))
 all_goals exact⟨_,rfl⟩
def Vk (v:GV) (n d s l:Bool):Prop:=(n=true∨v.n=0)∧(d=true∨v.d=0)∧(s=true∨v.s=[])∧(l=true∨v.l.length=0)
instance (v:GV) (n d s l:Bool):Decidable (Vk v n d s l):=by unfold Vk;infer_instance
theorem AjX {v:GV} {n d s l:Bool} (hl:v.l.length<2^63):Ah (Ac tab) 189 [v.av,.bool n,.bool d,.bool s,.bool l] (· =.bool (decide (Vk v n d s l))):=by
 cases n<;>cases d<;>cases s<;>cases l
 all_goals
  refine Ad rfl rfl ?_
  (conv=>whnf);repeat' (first|(refine kA ?_;conv=>whnf)|(refine Br.mk (fun hc=>?_) fun hc=>?_<;>first|exact hc.elim|conv=>whnf)  |(refine kB ?_))
 all_goals first
  |(refine BN ?_;unfold Vk;refine⟨?_,?_,?_,?_⟩<;>first|(left;rfl)|(right;first|assumption|omega))
  |(refine Bf ?_;unfold Vk;rintro⟨h1,h2,h3,h4⟩;simp only[Bool.false_eq_true,false_or,true_or]at h1 h2 h3 h4;first|contradiction|omega)
theorem Amo {s:List UInt8} (hl:s.length<2^63):Ah (Ac tab) 191 [.str s] (· =.bool (decide (okS s))):=by
 refine Ad rfl rfl ?_
 (conv=>whnf);repeat' (first|(refine kA ?_;conv=>whnf)|(refine Br.mk (fun hc=>?_) fun hc=>?_<;>first|exact hc.elim|conv=>whnf)  |(refine kB ?_))
 refine Ai (fun m env s'=>∃i:Nat,m=s.length-i∧env=[(0,.str s),(3,.int .i64 i)]∧s'=⟨[],0⟩∧∀c∈s.take i,OH c=false) ?_ _ _ _ ⟨0,rfl,rfl,rfl,by simp⟩
 rintro _ _ _ ⟨i,rfl,rfl,rfl,hx⟩
 refine⟨rfl,?_⟩
 (conv=>whnf);repeat' (first|(refine kA ?_;conv=>whnf)|(refine Br.mk (fun hc=>?_) fun hc=>?_<;>first|exact hc.elim|conv=>whnf)  |(refine kB ?_))
 all_goals first
  |exact again.mk ⟨_,by omega,i+1,rfl,rfl,rfl,BG (by omega) hx (by unfold OH;simp;omega)⟩
  |(refine Bf fun h=>?_;have:=h.2 s[i] (List.getElem_mem (by omega));unfold OH at this;simp at this;omega)
  |(rw [List.take_of_length_le (by omega)]at hx;exact BN ⟨by omega,hx⟩)
  |(refine Bf fun h=>?_;have:=h.1;omega)
theorem Ah3 {v:GV} (hv:v.ok) (hk:IY v) {n:Int}:Ah (Ac tab) 163 [v.av,.int .i64 n] (· =.bool (decide (Ew v))):=by
 obtain⟨g1,g2,g3,g4,g5,g6,g7⟩:=hv
 unfold Ln at g4 g5
 unfold IY at hk
 refine Ad rfl rfl ?_
 (conv=>whnf);repeat' (first|(refine kA ?_;conv=>whnf)|(refine Br.mk (fun hc=>?_) fun hc=>?_<;>first|exact hc.elim|conv=>whnf)|(refine CP (AjX (v:=v) g5) (fun hb=>?_) (fun hb=>?_)<;>conv=>whnf)|(refine CP (Amn (n:=v.n)) (fun hr=>?_) (fun hr=>?_)<;>conv=>whnf)|(refine CP (Amo (s:=v.s) g4) (fun hr=>?_) (fun hr=>?_)<;>conv=>whnf)|(refine kB ?_))
 all_goals unfold Vk at hb
 all_goals simp only[Bool.false_eq_true,false_or,true_or,true_and]at hb
 all_goals first
  |exact BN (Ah4 (by omega) hb.1 hb.2.2 hb.2.1 (by omega))
  |exact BN (Ah5 (by omega) hb.1 hb.2.2 hb.2.1 hr)
  |exact BN (Ah6 (by omega) hb.2.1 hb.2.2 hb.1 hr)
  |exact Bf fun h=>hb ⟨h.1,Ah7 h (by omega),h.2.1⟩
  |exact Bf fun h=>hb ⟨(Aec h (by omega)).1,h.1,h.2.1⟩
  |(refine Bf fun h=>?_;have:=Ah8 h (by omega);omega)
  |exact Bf fun h=>hr (Ah9 h (by omega))
  |exact Bf fun h=>hr (Aec h (by omega)).2
  |(exfalso;omega)
theorem Aia {v:GV} (hv:v.ok) (hk:IY v):Ah (Ac tab) 146 [v.av] (· =.bool (decide (Ew v))):=by
 refine Ad rfl rfl ?_
 (conv=>whnf);repeat' (first|(refine kA ?_;conv=>whnf)|(refine Br.mk (fun hc=>?_) fun hc=>?_<;>first|exact hc.elim|conv=>whnf)|(refine CP (Ah3 (v:=v) hv hk) (fun hr=>?_) (fun hr=>?_)<;>conv=>whnf)|(refine kB ?_))
 all_goals first|exact BN (by assumption)|exact Bf (by assumption)
theorem Aib {v:GV} (hv:v.ok):Ah (Ac tab) 117 [v.av] (· =.bool (decide (Ew v))):=by
 by_cases hk:IY v
 ·have hk':=hk
  unfold IY at hk'
  refine Ad rfl rfl ?_
  (conv=>whnf);repeat' (first|(refine kA ?_;conv=>whnf)|(refine Br.mk (fun hc=>?_) fun hc=>?_<;>first|exact hc.elim|conv=>whnf)|(refine CP (Aia (v:=v) hv hk) (fun hr=>?_) (fun hr=>?_)<;>conv=>whnf)|(refine kB ?_))
  all_goals first|exact BN (by assumption)|exact Bf (by assumption)|(exfalso;omega)
 ·have hk':=hk
  unfold IY at hk'
  refine Ad rfl rfl ?_
  (conv=>whnf);repeat' (first|(refine kA ?_;conv=>whnf)|(refine Br.mk (fun hc=>?_) fun hc=>?_<;>first|exact hc.elim|conv=>whnf)|(refine Aa (Valid (g:=v) hv) ?_;rintro _ ⟨b,rfl⟩;conv=>whnf)|(refine kB ?_))
  all_goals first|exact Bf (fun h=>hk (Vl h))|(exfalso;omega)
theorem AjY {P:List GP} {nn:Bool} (hl:P.length<2^40):Ah (Ac tab) 114 [.sl nn (vs GP.av P)] (fun v=>∃b,v=.sl b (vs .str (keysOf P))):=by
 refine Ad rfl rfl ?_
 (conv=>whnf);repeat' (first|(refine kA ?_;conv=>whnf)|(refine Br.mk (fun hc=>?_) fun hc=>?_<;>first|exact hc.elim|conv=>whnf)  |(refine kB ?_))
 refine Ai (fun m env s=>∃(i c go n:Nat) (b:Bool),m=P.length-i∧i≤P.length∧n=i∧env=[(0,.sl nn (vs GP.av P)),(3,.own 0 go 0 n),(4,.int .i64 i)]∧s=⟨[.arr go 1 b true (vs .str (keysOf (P.take i)))],c⟩) ?_ _ _ _ ⟨0,_,_,0,_,rfl,by omega,rfl,rfl,rfl⟩
 rintro _ _ _ ⟨i,c,go,n,b,rfl,hi,hn,rfl,rfl⟩
 refine⟨rfl,?_⟩
 (conv=>whnf);repeat' (first|(refine Sm (x:=(P[i]).key) (fun _=>rfl) (by simp;omega) (by simp;omega) ?_;conv=>whnf)|(refine kA ?_;conv=>whnf)|(refine Br.mk (fun hc=>?_) fun hc=>?_<;>first|exact hc.elim|conv=>whnf)|(refine kB ?_))
 ·exact again.mk ⟨_,by omega,i+1,_,_,_,_,rfl,by omega,by simp;omega,rfl,by rw[QA (by omega)]⟩
 ·obtain rfl:i=P.length:=by omega
  refine⟨b,?_⟩
  rw[Ah2,hn]
  simp
  rw[List.take_of_length_le (by simp)]
theorem Ado {L:List (List UInt8)} {P:List GP} {ln pn:Bool} (hL:L.length<2^63) (hs:∀s∈L,s.length<2^63) (hP:P.length<2^63) (hp:∀p∈P,p.ok):Ah (Ac tab) 79 [.sl ln (vs .str L),.sl pn (vs GP.av P)] (· =.int .i64 (DF L P)):=by
 have hk:=Vm hp
 have hkl:(keysOf P).length<2^63:=by rw[NZ];exact hP
 refine Ad rfl rfl ?_
 (conv=>whnf);repeat' (first|(refine kA ?_;conv=>whnf)|(refine Br.mk (fun hc=>?_) fun hc=>?_<;>first|exact hc.elim|conv=>whnf)  |(refine kB ?_))
 ·exact Rq (by omega)
 ·exact Rq (by omega)
 have h16:¬(8<L.length∨16<P.length):=by omega
 refine Aa (AjY (P:=P) (by omega)) ?_
 rintro _ ⟨b,rfl⟩
 (conv=>whnf);repeat' (first|(refine CP (Ad8 hL hs) (fun h1=>?_) (fun h1=>?_)<;>conv=>whnf)|(refine CP (Ad8 hkl hk) (fun h2=>?_) (fun h2=>?_)<;>conv=>whnf)|(refine CP (Aea hL) (fun h3=>?_) (fun h3=>?_)<;>conv=>whnf)|(refine CP (Aea hkl) (fun h4=>?_) (fun h4=>?_)<;>conv=>whnf)|(refine kA ?_;conv=>whnf)|(refine Br.mk (fun hc=>?_) fun hc=>?_<;>first|exact hc.elim|conv=>whnf)|(refine kB ?_))
 all_goals first
  |exact Rt h16 fun h=>h1 h.1
  |exact Rt h16 fun h=>h2 h.2
  |exact O7 h16 ⟨h1,h2⟩ fun h=>h3 h.1
  |exact O7 h16 ⟨h1,h2⟩ fun h=>h4 h.2
  |skip
 refine Ai (fun m env s=>∃(i:Nat),m=P.length-i∧env=[(1,.sl pn (vs GP.av P)),(6,.int .i64 i)]∧s=⟨[],0⟩∧∀p∈P.take i,Ew p.v) ?_ _ _ _ ⟨0,rfl,rfl,rfl,by simp⟩
 rintro _ _ _ ⟨i,rfl,rfl,rfl,hx⟩
 refine⟨rfl,?_⟩
 (conv=>whnf);repeat' (first|(refine CP (Aib (v:=(P[i]).v) (hp _ (List.getElem_mem (by omega))).2) (fun hr=>?_) (fun hr=>?_)<;>conv=>whnf)|(refine kA ?_;conv=>whnf)|(refine Br.mk (fun hc=>?_) fun hc=>?_<;>first|exact hc.elim|conv=>whnf)|(refine kB ?_))
 ·exact again.mk ⟨_,by omega,i+1,rfl,rfl,rfl,BG (by omega) hx hr⟩
 ·exact AaM h16 ⟨h1,h2⟩ ⟨h3,h4⟩ fun h=>hr (h _ (List.getElem_mem _))
 ·rw[Di hc]at hx
  exact AaN h16 ⟨h1,h2⟩ ⟨h3,h4⟩ hx
theorem AgF {g:GG} (hl:g.nodes.length<2^62) {id:Int}:Ah (Ac tab) 80 [g.av,.int .i64 id] (fun v=>∃n:GN,v=.Ce [n.av,.bool (decide (id∈Gt g.nodes))]):=by
 refine Ad rfl rfl ?_
 (conv=>whnf);repeat' (first|(refine kA ?_;conv=>whnf)|(refine Br.mk (fun hc=>?_) fun hc=>?_<;>first|exact hc.elim|conv=>whnf)  |(refine kB ?_))
 refine Ai (fun m env s=>∃i:Nat,m=g.nodes.length-i∧id∉Gt (g.nodes.take i)∧env=[(1,.int .i64 id),(2,.ref 0 0 0 0),(4,.ref 1 1 0 0),(6,.int .i64 i)]∧s=⟨[.arr 0 4 true true [g.av],.arr 1 3 true true [.agg [.int .i64 0,.sl false [],.sl false []]]],2⟩) ?_ _ _ _ ⟨0,rfl,by simp[Gt],rfl,rfl⟩
 rintro _ _ _ ⟨i,rfl,hx,rfl,rfl⟩
 refine⟨rfl,?_⟩
 (conv=>whnf);repeat' (first|(refine kA ?_;conv=>whnf)|(refine Br.mk (fun hc=>?_) fun hc=>?_<;>first|exact hc.elim|conv=>whnf)  |(refine kB ?_))
 ·refine⟨g.nodes[i],?_⟩
  have:id∈Gt g.nodes:=hc▸List.mem_map_of_mem (List.getElem_mem _)
  rw[decide_eq_true this];rfl
 ·refine again.mk ⟨_,by omega,i+1,rfl,?_,rfl,rfl⟩
  unfold Gt at hx ⊢
  rw[List.take_succ_eq_append_getElem (by omega),List.map_append,List.mem_append]
  rintro(h|h)
  ·exact hx h
  ·simp at h;exact hc h.symm
 ·rw[Di hc]at hx
  refine⟨⟨0,false,[],false,[]⟩,?_⟩
  rw[decide_eq_false hx];rfl
theorem Ajm {g:GG} (hg:g.ok) {i:Nat} (hi:i<g.nodes.length):Ah (Ac tab) 38 [g.av,.int .i64 i] (· =.int .i64 (Fa g.nodes g.Dn i)):=by
 obtain⟨g1,g2,g3,g4,g5,g6,g7,g8⟩:=hg
 unfold Ln at g1 g4
 have hat:=g3 _ (List.getElem_mem hi)
 refine Ad rfl rfl ?_
 (conv=>whnf);repeat' (first|(apply Au;(· exact nVz (i-1) (by omega) (by omega));conv=>whnf)|(refine Aa (Ado (L:=(g.nodes[i]).labels) (P:=(g.nodes[i]).props) hat.2.1 hat.2.2.2.1 hat.2.2.2.2.1 hat.2.2.2.2.2.2) ?_;rintro _ rfl;conv=>whnf)|(refine kA ?_;conv=>whnf)|(refine Br.mk (fun hc=>?_) fun hc=>?_<;>first|exact hc.elim|conv=>whnf)|(refine kB ?_))
 all_goals first
  |(rw [Aan hi (fun h=>by first|assumption|omega) (by omega)];rfl)
  |(rw [Za hi (by omega) (by assumption)];rfl)
  |(rw [node1 hi (fun h=>by first|assumption|omega) (by omega)];rfl)
set_option maxHeartbeats 1000000 in
theorem Ajn {g:GG} (hg:g.ok) (hf:g.nodes.length<2^62) {i:Nat} (hi:i<g.edges.length):Ah (Ac tab) 39 [g.av,.int .i64 i] (· =.int .i64 (Fp g.nodes g.edges g.DJ i)):=by
 obtain⟨g1,g2,g3,g4,g5,g6,g7,g8⟩:=hg
 unfold Ln at g1 g4
 have hat:=g6 _ (List.getElem_mem hi)
 refine Ad rfl rfl ?_
 (conv=>whnf);repeat' (first|(apply Au;(· exact nVz (i-1) (by omega) (by omega));conv=>whnf)|(refine Aa (AgF (g:=g) (id:=(g.edges[i]).fr) hf) ?_;rintro _ ⟨n1,rfl⟩;conv=>whnf)|(refine Aa (AgF (g:=g) (id:=(g.edges[i]).to) hf) ?_;rintro _ ⟨n2,rfl⟩;conv=>whnf)|(refine CP (name2 (s:=(g.edges[i]).ty) hat.2.2.2.1) (fun hnm=>?_) (fun hnm=>?_)<;>conv=>whnf)|(refine Aa (Ado (L:=[]) (P:=(g.edges[i]).props) (by decide) (by simp) hat.2.2.2.2.1 hat.2.2.2.2.2.2) ?_;rintro _ rfl;conv=>whnf)|(refine kA ?_;conv=>whnf)|(refine Br.mk (fun hc=>?_) fun hc=>?_<;>first|exact hc.elim|conv=>whnf)|(refine kB ?_))
 all_goals try simp only[decide_eq_true_eq,decide_eq_false_iff_not]at*
 all_goals first
  |(rw [Zc hi (by omega) (by assumption)];rfl)
  |(rw [Ac8 hi (fun h=>by first|assumption|omega) (by omega)];rfl)
  |(rw [Aao hi (fun h=>by first|assumption|omega) (by omega) ⟨by assumption,by assumption⟩ hnm];rfl)
  |(rw [Ac9 hi (fun h=>by first|assumption|omega) (by omega) ⟨by assumption,by assumption⟩ hnm];rfl)
  |(rw [Zd hi (fun h=>by first|assumption|omega) (by omega) (fun h=>by first|exact absurd h.1 (by assumption)|exact absurd h.2 (by assumption))];rfl)
theorem AcD {g:GG} (hg:g.ok):Ah (Ac tab) 14 [g.av] (· =.int .i64 (Bd g)):=by
 have hg0:=hg
 obtain⟨g1,g2,g3,g4,g5,g6,g7,g8⟩:=hg
 unfold Ln at g1 g4
 refine Ad rfl rfl ?_
 (conv=>whnf);repeat' (first|(refine kA ?_;conv=>whnf)|(refine Br.mk (fun hc=>?_) fun hc=>?_<;>first|exact hc.elim|conv=>whnf)  |(refine kB ?_))
 all_goals first|exact Ada (by unfold FW;omega)|exact Adb (by unfold FW;omega) (by unfold Gv;omega)|skip
 have hf:FW g:=by unfold FW;omega
 have hnx:Gv g:=by unfold Gv;omega
 have hf1:=hf.1
 have hf2:=hf.2
 refine Ai (fun m env s=>∃i:Nat,m=g.nodes.length-i∧i≤g.nodes.length∧(∀ k,k<i→Fa g.nodes g.Dn k=0)∧env=[(1,.ref 0 0 0 0),(3,.int .i64 i)]∧s=⟨[.arr 0 4 true true [g.av]],1⟩) ?_ _ _ _ ⟨0,rfl,by omega,fun k h=>absurd h (by omega),rfl,rfl⟩
 rintro _ _ _ ⟨i,rfl,hin,hx,rfl,rfl⟩
 refine⟨rfl,?_⟩
 (conv=>whnf);repeat' (first|(refine Aa (Ajm hg0 (i:=i) (by omega)) ?_;rintro _ rfl;conv=>whnf)|(refine kA ?_;conv=>whnf)|(refine Br.mk (fun hc=>?_) fun hc=>?_<;>first|exact hc.elim|conv=>whnf)|(refine kB ?_))
 ·exact again.mk ⟨_,by omega,i+1,rfl,by omega,Je hx hc,rfl,rfl⟩
 ·exact checkN hf hnx (by omega) hx rfl hc
 have hN:∀k,k<g.nodes.length→Fa g.nodes g.Dn k=0:=fun k h=>hx k (by omega)
 refine Ai (fun m env s=>∃i:Nat,m=g.edges.length-i∧i≤g.edges.length∧(∀ k,k<i→Fp g.nodes g.edges g.DJ k=0)∧env=[(1,.ref 0 0 0 0),(5,.int .i64 i)]∧s=⟨[.arr 0 4 true true [g.av]],1⟩) ?_ _ _ _ ⟨0,rfl,by omega,fun k h=>absurd h (by omega),rfl,rfl⟩
 rintro _ _ _ ⟨j,rfl,hjn,hy,rfl,rfl⟩
 refine⟨rfl,?_⟩
 (conv=>whnf);repeat' (first|(refine Aa (Ajn hg0 (i:=j) (by omega) (by omega)) ?_;rintro _ rfl;conv=>whnf)|(refine kA ?_;conv=>whnf)|(refine Br.mk (fun hc=>?_) fun hc=>?_<;>first|exact hc.elim|conv=>whnf)|(refine kB ?_))
 ·exact again.mk ⟨_,by omega,j+1,rfl,by omega,Je hy hc,rfl,rfl⟩
 ·exact MG hf hnx hN (by omega) hy rfl hc
 ·exact Adc hf hnx hN fun k h=>hy k (by omega)
def MZ (T:List (List Bool)) (i k:Nat):Bool:=(T.getD i []).getD k false
def SqT (T:List (List Bool)):Prop:=T.length≤1000∧∀r∈T,r.length=T.length
theorem Z9 {types:List (List UInt8)} {g:GG} (hN:g.nodes.length≤1000):SqT (Gs types g):=by
 have hl:(Gs types g).length=g.nodes.length:=by unfold Gs;rw[List.length_map]
 refine⟨by omega,fun r hr=>?_⟩
 obtain⟨m,_,rfl⟩:=List.mem_map.1 hr
 rw[hl,List.length_map]
end AI
end Go.Proofs.YtchcadfjbkkgmaaGreatDoor
