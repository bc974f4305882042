/- Components as data: lists of labels, and a forest of sets whose representatives are their least elements. Plain. -/
import GoSem.Dispatch
set_option linter.unusedVariables false
set_option maxRecDepth 4000
namespace Go.Proofs.YtgmgkkbpgndaaaaGreatDoor
namespace AI
def findB (l:List (Int×Int)) (a:Int):Option Int:=(l.find? fun p=>decide (p.1=a)).map (·.2)
def minB (x y:Int):Int:=if y<x then y else x
def mergeB (x y:Int) (p:Int×Int):Int×Int:=if p.2=x∨p.2=y then(p.1,minB x y)else p
def joinB (l:List (Int×Int)) (a b:Int):List (Int×Int):=match findB l a,findB l b with
 |some x,some y=>l.map (mergeB x y)
 |_,_=>l
def weakB (ids:List Int) (es:List (Int×Int)):List (Int×Int):=es.foldl (fun l e=>joinB l e.1 e.2) (ids.map fun i=>(i,i))
theorem weakB_snoc (ids:List Int) (es:List (Int×Int)) (e:Int×Int):weakB ids (es++[e])=joinB (weakB ids es) e.1 e.2:=by simp[weakB]
theorem findB_map (r:Int→Int):∀(ids:List Int) {a:Int},a∈ids→findB (ids.map fun i=>(i,r i)) a=some (r a)
 |[],a,h=>by cases h
 |i::ids,a,h=>by
  unfold findB
  rw[List.map_cons,List.find?_cons]
  by_cases e:i=a
  ·subst e;simp
  ·rw[show (decide ((i,r i).1=a))=false from decide_eq_false e]
   rcases List.mem_cons.1 h with k|k
   ·exact absurd k.symm e
   ·exact findB_map r ids k
inductive Root (p:Int→Int):Int→Int→Prop where
 |here {x:Int} (h:p x=x):Root p x x
 |up {x c:Int} (h:p x≠x) (k:Root p (p x) c):Root p x c
theorem Root.fix {p:Int→Int} {x c:Int} (h:Root p x c):p c=c:=by
 induction h with
 |here h=>exact h
 |up _ _ ih=>exact ih
theorem Root.det {p:Int→Int} {x c d:Int} (h:Root p x c) (k:Root p x d):c=d:=by
 induction h with
 |here h=>cases k with
  |here _=>rfl
  |up h' _=>exact absurd h h'
 |up h _ ih=>cases k with
  |here h'=>exact absurd h' h
  |up _ k'=>exact ih k'
theorem Root.of_fix {p:Int→Int} {x c:Int} (h:Root p x c) (k:p x=x):c=x:=h.det (.here k)
def updF (p:Int→Int) (x y:Int):Int→Int:=fun z=>if z=x then y else p z
theorem updF_same (p:Int→Int) (x y:Int):updF p x y x=y:=if_pos rfl
theorem updF_other {p:Int→Int} {x y z:Int} (h:z≠x):updF p x y z=p z:=if_neg h
theorem Root.compress {p:Int→Int} {x c:Int} (hx:Root p x c) {a d:Int} (h:Root p a d):Root (updF p x c) a d:=by
 have hc:=hx.fix
 have hcc:updF p x c c=c:=by
  by_cases e:c=x
  ·subst e;exact updF_same ..
  ·rw[updF_other e,hc]
 induction h with
 |@here a h=>
  by_cases e:a=x
  ·subst e
   have:=hx.of_fix h
   subst this
   exact .here (updF_same ..)
  ·exact .here (by rw[updF_other e,h])
 |@up a d h k ih=>
  by_cases e:a=x
  ·subst e
   have:d=c:=(Root.up h k).det hx
   subst this
   by_cases e2:d=a
   ·subst e2;exact .here (updF_same ..)
   ·exact .up (by rw[updF_same];exact e2) (by rw[updF_same];exact .here hcc)
  ·exact .up (by rw[updF_other e];exact h) (by rw[updF_other e];exact ih)
theorem Root.union {p:Int→Int} {M m:Int} (hM:p M=M) (hm:p m=m) (hne:m≠M) {a d:Int} (h:Root p a d):Root (updF p M m) a (if d=M then m else d):=by
 have hmm:updF p M m m=m:=by rw[updF_other hne,hm]
 induction h with
 |@here a h=>
  by_cases e:a=M
  ·subst e
   rw[if_pos rfl]
   exact .up (by rw[updF_same];exact hne) (by rw[updF_same];exact .here hmm)
  ·rw[if_neg e]
   exact .here (by rw[updF_other e,h])
 |@up a d h k ih=>
  by_cases e:a=M
  ·subst e;exact absurd hM h
  ·exact .up (by rw[updF_other e];exact h) (by rw[updF_other e];exact ih)
structure Forest (S:List Int) (p r:Int→Int):Prop where
 mem:∀x∈S,p x∈S
 le:∀x∈S,p x≤x
 root:∀x∈S,Root p x (r x)
variable {S:List Int} {p r:Int→Int}
theorem Forest.rmem (h:Forest S p r) {x:Int} (hx:x∈S):r x∈S:=by
 have k:=h.root x hx
 generalize r x=c at k
 induction k with
 |here _=>exact hx
 |up _ _ ih=>exact ih (h.mem _ hx)
theorem Forest.rle (h:Forest S p r) {x:Int} (hx:x∈S):r x≤x:=by
 have k:=h.root x hx
 generalize r x=c at k
 induction k with
 |here _=>exact Int.le_refl _
 |up _ _ ih=>exact Int.le_trans (ih (h.mem _ hx)) (h.le _ hx)
theorem Forest.rfix (h:Forest S p r) {x:Int} (hx:x∈S):p (r x)=r x:=(h.root x hx).fix
theorem Forest.of_fix (h:Forest S p r) {x:Int} (hx:x∈S) (k:p x=x):r x=x:=(h.root x hx).of_fix k
theorem Forest.step (h:Forest S p r) {x:Int} (hx:x∈S):r (p x)=r x:=by
 have k:=h.root x hx
 by_cases e:p x=x
 ·rw[e]
 ·generalize r x=c at k
  cases k with
  |here h'=>exact absurd h' e
  |up _ k'=>exact(h.root _ (h.mem x hx)).det k'
theorem Forest.compress (h:Forest S p r) {x c:Int} (hx:x∈S) (hc:c=r x):Forest S (updF p x c) r:=by
 subst hc
 refine⟨fun y hy=>?_,fun y hy=>?_,fun y hy=>(h.root x hx).compress (h.root y hy)⟩
 ·by_cases e:y=x
  ·subst e;rw[updF_same];exact h.rmem hx
  ·rw[updF_other e];exact h.mem y hy
 ·by_cases e:y=x
  ·subst e;rw[updF_same];exact h.rle hx
  ·rw[updF_other e];exact h.le y hy
theorem Forest.start (S:List Int):Forest S (fun x=>x) (fun x=>x):=⟨fun _ h=>h,fun _ _=>Int.le_refl _,fun _ _=>.here rfl⟩
theorem Forest.union (h:Forest S p r) {a b:Int} (ha:a∈S) (hb:b∈S):
 Forest S (updF p (if r b>r a then r b else r a) (if r b<r a then r b else r a)) (fun c=>(mergeB (r a) (r b) (c,r c)).2):=by
 obtain⟨M,hM⟩:∃M,(if r b>r a then r b else r a)=M:=⟨_,rfl⟩
 obtain⟨m,hm⟩:∃m,(if r b<r a then r b else r a)=m:=⟨_,rfl⟩
 rw[hM,hm]
 have fa:=h.rfix ha
 have fb:=h.rfix hb
 have ma:=h.rmem ha
 have mb:=h.rmem hb
 have hMr:M=r a∨M=r b:=by rw[← hM];split<;>simp
 have hmr:m=r a∨m=r b:=by rw[← hm];split<;>simp
 have hle:m≤M:=by rw[← hM,←hm];split<;>split<;>omega
 have hMS:M∈S:=by rcases hMr with e|e<;>rw[e]<;>assumption
 have hmS:m∈S:=by rcases hmr with e|e<;>rw[e]<;>assumption
 have hMf:p M=M:=by rcases hMr with e|e<;>rw[e]<;>assumption
 have hmf:p m=m:=by rcases hmr with e|e<;>rw[e]<;>assumption
 have hmin:minB (r a) (r b)=m:=by rw[← hm];rfl
 refine⟨fun y hy=>?_,fun y hy=>?_,fun y hy=>?_⟩
 ·by_cases e:y=M
  ·subst e;rw[updF_same];exact hmS
  ·rw[updF_other e];exact h.mem y hy
 ·by_cases e:y=M
  ·subst e;rw[updF_same];exact hle
  ·rw[updF_other e];exact h.le y hy
 ·by_cases e:m=M
  ·have hab:r a=r b:=by
        rw[← hM,←hm]at e
        split at e<;>split at e<;>omega
   have hself:updF p M m=p:=by
        funext z
        by_cases ez:z=M
        ·subst ez;rw[updF_same,hMf];exact e
        ·exact updF_other ez
   rw[hself]
   have:(mergeB (r a) (r b) (y,r y)).2=r y:=by
        unfold mergeB
        split
        ·rename_i hc
         show minB (r a) (r b)=r y
         unfold minB
         simp only at hc
         split<;>omega
        ·rfl
   rw[this]
   exact h.root y hy
  ·have k:=(h.root y hy).union hMf hmf e
   have:(mergeB (r a) (r b) (y,r y)).2=if r y=M then m else r y:=by
        unfold mergeB
        rw[hmin]
        simp only
        by_cases c1:r y=r a∨r y=r b
        ·rw[if_pos c1]
         show m=_
         by_cases c2:r y=M
         ·rw[if_pos c2]
         ·rw[if_neg c2]
          rcases c1 with c|c
          ·rw[c]at c2 ⊢
           rw[← hM]at c2
           rw[← hm]
           split at c2<;>split<;>omega
          ·rw[c]at c2 ⊢
           rw[← hM]at c2
           rw[← hm]
           split at c2<;>split<;>omega
        ·rw[if_neg c1]
         have:r y≠M:=fun e=>c1 (by rcases hMr with k|k<;>omega)
         rw[if_neg this]
   rw[this]
   exact k
def labelsB (S:List Int) (r:Int→Int):List (Int×Int):=S.map fun i=>(i,r i)
theorem joinB_labels {a b:Int} (ha:a∈S) (hb:b∈S):joinB (labelsB S r) a b=labelsB S (fun c=>(mergeB (r a) (r b) (c,r c)).2):=by
 unfold joinB labelsB
 rw[findB_map r S ha,findB_map r S hb]
 show(S.map _).map _=_
 rw[List.map_map]
 refine List.map_congr_left fun c _=>?_
 show mergeB (r a) (r b) (c,r c)=(c,(mergeB (r a) (r b) (c,r c)).2)
 unfold mergeB
 by_cases hc:r c=r a∨r c=r b
 ·simp only[hc,if_true]
 ·simp only[hc,if_false]
theorem labelsB_start (S:List Int):labelsB S (fun x=>x)=weakB S []:=rfl
end AI
end Go.Proofs.YtgmgkkbpgndaaaaGreatDoor
