/- Lists of labels: Find, Join (both), Same. -/
import Derived.Test.YtgmgkkbpgndaaaaGreatDoorGrTy
import Derived.Test.YtgmgkkbpgndaaaaGreatDoorCoA
set_option linter.unusedVariables false
set_option maxRecDepth 4000
namespace Go.Proofs.YtgmgkkbpgndaaaaGreatDoor
namespace AI
def pv (p:Int×Int):AV:=.agg [.int .i64 p.1,.int .i64 p.2]
theorem cellsPv (x:Int×Int):(pv x).cells.length=2:=rfl
theorem findB_at {l:List (Int×Int)} {a:Int} {i:Nat} (h:∀p∈l.take i,p.1≠a) (hi:i<l.length) (hx:(l[i]).1=a):findB l a=some (l[i]).2:=by
 unfold findB
 have:(l.find? fun p=>decide (p.1=a))=some l[i]:=by
  rw[List.find?_eq_some_iff_getElem]
  refine⟨decide_eq_true hx,i,hi,rfl,fun j hj=>?_⟩
  have:=h (l[j]) (by rw[List.mem_take_iff_getElem];exact⟨j,by omega,rfl⟩)
  simpa using this
 rw[this]
 rfl
theorem findB_no {l:List (Int×Int)} {a:Int} (h:∀p∈l,p.1≠a):findB l a=none:=by
 unfold findB
 rw[List.find?_eq_none.2 fun p hp=>by simpa using h p hp]
 rfl
theorem ne_snoc {l:List (Int×Int)} {a:Int} {i:Nat} (h:∀p∈l.take i,p.1≠a) (hi:i<l.length) (hx:¬(l[i]).1=a):∀p∈l.take (i+1),p.1≠a:=by
 intro p hp
 rw[List.take_succ_eq_append_getElem hi,List.mem_append,List.mem_singleton]at hp
 rcases hp with hp|rfl
 ·exact h p hp
 ·exact hx
theorem ne_all {l:List (Int×Int)} {a:Int} {i:Nat} (h:∀p∈l.take i,p.1≠a) (hi:¬i<l.length):∀p∈l,p.1≠a:=by
 rwa [List.take_of_length_le (by omega)]at h
def fndV:Option Int→AV
 |some b=>.tup [.int .i64 b,.bool true]
 |none=>.tup [.int .i64 0,.bool false]
theorem findR {l:List (Int×Int)} {a:Int} {nn:Bool} (hl:l.length<2^62):PureP (findFn tab) 24 [.sl nn (vs pv l),.int .i64 a] (· =fndV (findB l a)):=by
 refine pureP_of rfl rfl ?_
 (conv=>whnf);repeat' (first  |(refine kA ?_;conv=>whnf)|(refine Br.mk (fun hc=>?_) fun hc=>?_<;>first|exact hc.elim|conv=>whnf)|(refine kB ?_))
 refine loop_inv (fun m env s=>∃i:Nat,m=l.length-i∧env=[(0,.sl nn (vs pv l)),(1,.int .i64 a),(6,.int .i64 i)]∧s=⟨[],0⟩∧∀p∈l.take i,p.1≠a) ?_ _ _ _ ⟨0,rfl,rfl,rfl,by simp⟩
 rintro _ _ _ ⟨i,rfl,rfl,rfl,hx⟩
 refine⟨rfl,?_⟩
 by_cases hlt:i<l.length
 ·by_cases he:(l[i]).1=a
  ·have hf:=findB_at hx hlt he
   (conv=>whnf);repeat' (first  |(refine kA ?_;conv=>whnf)|(refine Br.mk (fun hc=>?_) fun hc=>?_<;>first|exact hc.elim|conv=>whnf)|(refine kB ?_))
   all_goals first
        |(exfalso;omega)
        |(rw [hf];rfl)
        | (trace_state; fail "find1")
  ·(conv=>whnf);repeat' (first  |(refine kA ?_;conv=>whnf)|(refine Br.mk (fun hc=>?_) fun hc=>?_<;>first|exact hc.elim|conv=>whnf)|(refine kB ?_))
   all_goals first
        |(exfalso;omega)
        |exact again.mk ⟨_,by omega,i+1,rfl,rfl,rfl,ne_snoc hx hlt he⟩
        | (trace_state; fail "find2")
 ·have hf:=findB_no (ne_all hx hlt)
  (conv=>whnf);repeat' (first  |(refine kA ?_;conv=>whnf)|(refine Br.mk (fun hc=>?_) fun hc=>?_<;>first|exact hc.elim|conv=>whnf)|(refine kB ?_))
  all_goals first
   |(exfalso;omega)
   |(rw [hf];rfl)
   | (trace_state; fail "find3")
theorem isA1 {p:Int×Int} {a:Int}:PureP (findFn tab) 22 [pv p,.fref [.int .i64 a]] (· =.bool (decide (p.1=a))):=by
 refine pureP_of rfl rfl ?_
 (conv=>whnf);repeat' (first  |(refine kA ?_;conv=>whnf)|(refine Br.mk (fun hc=>?_) fun hc=>?_<;>first|exact hc.elim|conv=>whnf)|(refine kB ?_))
 ·exact bool_t (by assumption)
 ·exact bool_f (by assumption)
theorem isA2 {p:Int×Int} {a:Int}:PureP (findFn tab) 23 [pv p,.fref [.int .i64 a]] (· =.bool (decide (p.1=a))):=by
 refine pureP_of rfl rfl ?_
 (conv=>whnf);repeat' (first  |(refine kA ?_;conv=>whnf)|(refine Br.mk (fun hc=>?_) fun hc=>?_<;>first|exact hc.elim|conv=>whnf)|(refine kB ?_))
 ·exact bool_t (by assumption)
 ·exact bool_f (by assumption)
inductive IdxB (l:List (Int×Int)) (a:Int):AV→Prop
 |at(i:Nat) (h:i<l.length) (hf:findB l a=some (l[i]).2):IdxB l a (.int .i64 i)
 |no (hf:findB l a=none):IdxB l a (.int .i64 (-1))
theorem idx {k:Nat} {l:List (Int×Int)} {a:Int} {nn:Bool} (hl:l.length<2^62) (hk:∀p:Int×Int,PureP (findFn tab) k [pv p,.fref [.int .i64 a]] (· =.bool (decide (p.1=a)))):
 PureP (findFn tab) 21 [.sl nn (vs pv l),.fn k [.fref [.int .i64 a]]] (IdxB l a):=by
 refine pureP_of rfl rfl ?_
 (conv=>whnf);repeat' (first  |(refine kA ?_;conv=>whnf)|(refine Br.mk (fun hc=>?_) fun hc=>?_<;>first|exact hc.elim|conv=>whnf)|(refine kB ?_))
 refine loop_inv (fun m env s=>∃i:Nat,m=l.length-i∧env=[(0,.sl nn (vs pv l)),(1,.fn k [.fref [.int .i64 a]]),(7,.int .i64 l.length),(8,.int .i64 i)]∧s=⟨[],0⟩∧∀p∈l.take i,p.1≠a) ?_ _ _ _ ⟨0,rfl,rfl,rfl,by simp⟩
 rintro _ _ _ ⟨i,rfl,rfl,rfl,hx⟩
 refine⟨rfl,?_⟩
 by_cases hlt:i<l.length
 ·have hp:=hk (l[i])
  by_cases he:(l[i]).1=a
  ·have hf:=findB_at hx hlt he
   rw[decide_eq_true he]at hp
   (conv=>whnf);repeat' (first|(refine callK_of hp ?_;rintro _ rfl;conv=>whnf)|(refine kA ?_;conv=>whnf)|(refine Br.mk (fun hc=>?_) fun hc=>?_<;>first|exact hc.elim|conv=>whnf)|(refine kB ?_))
   all_goals first
        |(exfalso;omega)
        |exact .at i hlt hf
        | (trace_state; fail "idx1")
  ·rw[decide_eq_false he]at hp
   (conv=>whnf);repeat' (first|(refine callK_of hp ?_;rintro _ rfl;conv=>whnf)|(refine kA ?_;conv=>whnf)|(refine Br.mk (fun hc=>?_) fun hc=>?_<;>first|exact hc.elim|conv=>whnf)|(refine kB ?_))
   all_goals first
        |(exfalso;omega)
        |exact again.mk ⟨_,by omega,i+1,rfl,rfl,rfl,ne_snoc hx hlt he⟩
        | (trace_state; fail "idx2")
 ·have hf:=findB_no (ne_all hx hlt)
  (conv=>whnf);repeat' (first  |(refine kA ?_;conv=>whnf)|(refine Br.mk (fun hc=>?_) fun hc=>?_<;>first|exact hc.elim|conv=>whnf)|(refine kB ?_))
  all_goals first
   |(exfalso;omega)
   |exact .no hf
   | (trace_state; fail "idx3")
theorem tPv {l:List (Int×Int)} {i:Nat} {y:Int×Int} {v:Int} {K:List AV→Prop} (k:K (vs pv (l.set i (y.1,v)))):eqK ((vs pv l).set (Int.toNat (i:Int)) (writeCells (pv y) (0+1) (.int .i64 v))) K:=by
 refine eqK_intro ?_ k
 show(vs pv l).set i (pv (y.1,v))=_
 simp[vs,List.map_set]
structure Half (f:Int×Int→Int×Int) (l W:List (Int×Int)) (i:Nat):Prop where
 len:W.length=l.length
 old:∀j,i≤j→W[j]?=l[j]?
 new:∀j,j<i→W[j]?=(l.map f)[j]?
theorem Half.start (f:Int×Int→Int×Int) (l:List (Int×Int)):Half f l l 0:=⟨rfl,fun _ _=>rfl,fun _ h=>absurd h (by omega)⟩
theorem Half.at {f:Int×Int→Int×Int} {l W:List (Int×Int)} {i:Nat} (h:Half f l W i) (hi:i<l.length):W[i]'(by rw[h.len];exact hi)=l[i]:=by
 have:=h.old i (Nat.le_refl _)
 rw[List.getElem?_eq_getElem hi,List.getElem?_eq_getElem (by rw[h.len];exact hi)]at this
 simpa using this
theorem Half.put {f:Int×Int→Int×Int} {l W:List (Int×Int)} {i:Nat} (h:Half f l W i) (hi:i<l.length):Half f l (W.set i (f (l[i]))) (i+1):=by
 refine⟨by simp[h.len],fun j hj=>?_,fun j hj=>?_⟩
 ·rw[List.getElem?_set_ne (by omega)];exact h.old j (by omega)
 ·by_cases e:j=i
  ·subst e
   rw[List.getElem?_set_self (by rw[h.len];exact hi),List.getElem?_map,List.getElem?_eq_getElem hi];rfl
  ·rw[List.getElem?_set_ne (by omega)];exact h.new j (by omega)
theorem Half.skip {f:Int×Int→Int×Int} {l W:List (Int×Int)} {i:Nat} (h:Half f l W i) (hi:i<l.length) (he:f (l[i])=l[i]):Half f l W (i+1):=by
 refine⟨h.len,fun j hj=>h.old j (by omega),fun j hj=>?_⟩
 by_cases e:j=i
 ·subst e
  rw[h.old j (Nat.le_refl _),List.getElem?_map,List.getElem?_eq_getElem hi,Option.map_some,he]
 ·exact h.new j (by omega)
theorem Half.all {f:Int×Int→Int×Int} {l W:List (Int×Int)} {i:Nat} (h:Half f l W i) (hi:¬i<l.length):W=l.map f:=by
 apply List.ext_getElem?
 intro j
 by_cases hj:j<i
 ·exact h.new j hj
 ·rw[List.getElem?_eq_none (by rw[h.len];omega),List.getElem?_eq_none (by simp;omega)]
theorem mergeB_hit {x y:Int} {p:Int×Int} (h:p.2=x∨p.2=y):mergeB x y p=(p.1,if y<x then y else x):=by unfold mergeB;rw[if_pos h];rfl
theorem mergeB_miss {x y:Int} {p:Int×Int} (h1:¬p.2=x) (h2:¬p.2=y):mergeB x y p=p:=by unfold mergeB;rw[if_neg (by intro h;rcases h with h|h;exact h1 h;exact h2 h)]
end AI
end Go.Proofs.YtgmgkkbpgndaaaaGreatDoor
