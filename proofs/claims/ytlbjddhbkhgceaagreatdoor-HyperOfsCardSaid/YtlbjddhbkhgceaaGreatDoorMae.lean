/- The reference's order of a value and null. The reference's check of an atom: its parts. Sorting numbers in place: the order. A sorted list without its repeated elements. Leaving out what repeats (slices.Compact[[]int,int]). Leaving out what repeats (slices.Compact[[]string,string]). -/
import Derived.Test.YtlbjddhbkhgceaaGreatDoorMad
import Derived.Test.YtlbjddhbkhgceaaGreatDoorMac
set_option linter.unusedVariables false
set_option maxRecDepth 4000
namespace Go.Proofs.YtlbjddhbkhgceaaGreatDoor
namespace AI
def clsR (k:Int):Int:=if k=0 then 0 else if k=1 then 1 else if k=2∨k=3 then 2 else if k=4 then 3 else if k=5 then 4 else if k=6 then 5 else if k=8 then 6 else 7
theorem clsR0 {k:Int}:clsR k=0↔k=0:=by
 unfold clsR
 constructor
 ·intro h
  repeat' split at h
  all_goals first|assumption|(exfalso;omega)
 ·intro h;rw[if_pos h]
theorem classR {k:Int}:PureP (findFn tab) 85 [.int .i64 k] (· =.int .i64 (clsR k)):=by
 refine pureP_of rfl rfl ?_
 (conv=>whnf);repeat' (first  |(refine kA ?_;conv=>whnf)|(refine Br.mk (fun hc=>?_) fun hc=>?_<;>first|exact hc.elim|conv=>whnf)|(refine kB ?_))
 all_goals first
  |rfl
  |(unfold clsR;repeat' split
    all_goals first|rfl|(exfalso;omega))
theorem validK0 {v:GV} (hv:v.ok) (hk:v.k=0) {n:Int}:PureP (findFn tab) 116 [v.av,.int .i64 n] (· =.bool (decide (isNull v))):=by
 have hl:=hv.2.2.2.2.1
 unfold Ln at hl
 refine pureP_of rfl rfl ?_
 (conv=>whnf);repeat' (first|(refine callB (bareE (v:=v) (n:=false) (d:=false) (s:=false) (l:=false) hl) (fun hb=>?_) (fun hb=>?_)<;>conv=>whnf)|(refine kA ?_;conv=>whnf)|(refine Br.mk (fun hc=>?_) fun hc=>?_<;>first|exact hc.elim|conv=>whnf)|(refine kB ?_))
 ·unfold bareP at hb
  exact bool_t ⟨hk,hb.1.resolve_left (by decide),hb.2.1.resolve_left (by decide),hb.2.2.1.resolve_left (by decide),hb.2.2.2.resolve_left (by decide)⟩
 ·unfold bareP at hb
  exact bool_f fun h=>hb ⟨.inr h.2.1,.inr h.2.2.1,.inr h.2.2.2.1,.inr h.2.2.2.2⟩
theorem validRN {v:GV} (hv:v.ok):PureP (findFn tab) 81 [v.av] (fun w=>∃b,w=.bool b∧(isNull v→b=true)∧(b=true→v.k=0→isNull v)):=by
 by_cases hk:v.k=0
 ·refine pureP_of rfl rfl ?_
  (conv=>whnf);repeat' (first|(refine callB (validK0 hv hk) (fun hb=>?_) (fun hb=>?_)<;>conv=>whnf)|(refine kA ?_;conv=>whnf)|(refine Br.mk (fun hc=>?_) fun hc=>?_<;>first|exact hc.elim|conv=>whnf)|(refine kB ?_))
  ·exact⟨_,rfl,fun _=>rfl,fun _ _=>hb⟩
  ·exact⟨_,rfl,fun h=>absurd h hb,fun h=>Bool.noConfusion h⟩
 ·obtain⟨_,⟨b,rfl⟩,h⟩:=(Valid hv).det
  refine pureP_of rfl rfl ?_
  (conv=>whnf);repeat' (first|(refine callK_of (valid (n:=8) (by omega) hv) ?_;rintro _ ⟨b,rfl⟩;conv=>whnf)|(refine kA ?_;conv=>whnf)|(refine Br.mk (fun hc=>?_) fun hc=>?_<;>first|exact hc.elim|conv=>whnf)|(refine kB ?_))
  all_goals exact⟨_,rfl,fun h=>absurd h.1 hk,fun _ h=>absurd h hk⟩
theorem intsR {a b:Int}:PureP (findFn tab) 84 [.int .i64 a,.int .i64 b] (fun v=>∃z,v=.int .i64 z∧(z=0↔a=b)):=by
 refine pureP_of rfl rfl ?_
 (conv=>whnf);repeat' (first  |(refine kA ?_;conv=>whnf)|(refine Br.mk (fun hc=>?_) fun hc=>?_<;>first|exact hc.elim|conv=>whnf)|(refine kB ?_))
 all_goals exact⟨_,rfl,by omega⟩
theorem fieldsZ {v:GV} (h:isNull v):PureP (findFn tab) 83 [v.av,gv0.av] (· =.int .i64 0):=by
 obtain⟨k,n,d,s,nn,l⟩:=v
 obtain⟨h1,h2,h3,h4,h5⟩:=h
 dsimp only at h1 h2 h3 h4 h5
 subst h1 h2 h3 h4
 obtain rfl:l=[]:=List.eq_nil_of_length_eq_zero h5
 have hl:PureP (findFn tab) 118 [.sl nn [],.sl false []] (· =.int .i64 0):=by
  refine pureP_of rfl rfl ?_
  (conv=>whnf);repeat' (first  |(refine kA ?_;conv=>whnf)|(refine Br.mk (fun hc=>?_) fun hc=>?_<;>first|exact hc.elim|conv=>whnf)|(refine kB ?_))
  refine loop_inv (fun m env s=>m=0∧env=[(0,.sl nn []),(1,.sl false []),(5,.int .i64 0)]∧s=⟨[],0⟩) ?_ _ _ _ ⟨rfl,rfl,rfl⟩
  rintro _ _ _ ⟨rfl,rfl,rfl⟩
  refine⟨rfl,?_⟩
  (conv=>whnf);repeat' (first|(refine callK_of ints0 ?_;rintro _ rfl;conv=>whnf)|(refine kA ?_;conv=>whnf)|(refine Br.mk (fun hc=>?_) fun hc=>?_<;>first|exact hc.elim|conv=>whnf)|(refine kB ?_))
  all_goals rfl
 refine pureP_of rfl rfl ?_
 (conv=>whnf);repeat' (first|(refine callK_of ints0 ?_;rintro _ rfl;conv=>whnf)|(refine callK_of strs0 ?_;rintro _ rfl;conv=>whnf)|(refine callK_of hl ?_;rintro _ rfl;conv=>whnf)|(refine kA ?_;conv=>whnf)|(refine Br.mk (fun hc=>?_) fun hc=>?_<;>first|exact hc.elim|conv=>whnf)|(refine kB ?_))
 all_goals rfl
theorem numberR {g:GV} (hg:g.ok):PureP (findFn tab) 86 [g.av] (fun v=>∃n d b,v=.tup [.agg [.int .i64 n,.int .i64 d],.bool b]∧(b=true→g.k=2∨g.k=3)):=by
 refine pureP_of rfl rfl ?_
 (conv=>whnf);repeat' (first|(refine callK_of (Valid hg) ?_;rintro _ ⟨b,rfl⟩;conv=>whnf)|(refine kA ?_;conv=>whnf)|(refine Br.mk (fun hc=>?_) fun hc=>?_<;>first|exact hc.elim|conv=>whnf)|(refine kB ?_))
 all_goals first|exact⟨_,_,_,rfl,fun h=>Bool.noConfusion h⟩|exact⟨_,_,_,rfl,fun _=>by omega⟩
theorem yesF:PureP (findFn tab) 82 [.bool false] (· =.int .i64 0):=by
 refine pureP_of rfl rfl ?_
 (conv=>whnf);repeat' (first  |(refine kA ?_;conv=>whnf)|(refine Br.mk (fun hc=>?_) fun hc=>?_<;>first|exact hc.elim|conv=>whnf)|(refine kB ?_))
 rfl
theorem orderRN {v:GV} (hv:v.ok):PureP (findFn tab) 62 [v.av,gv0.av] (fun w=>∃z,w=.int .i64 z∧(z=0↔isNull v)):=by
 obtain⟨_,⟨b,rfl,v1,v2⟩,hV⟩:=(validRN hv).det
 obtain⟨_,⟨b0,rfl,w1,_⟩,hV0⟩:=(validRN gv0_ok).det
 obtain rfl:=w1 null_gv0
 obtain⟨_,⟨n,d,b2,rfl,h2⟩,hN⟩:=(numberR hv).det
 obtain⟨_,⟨n0,d0,b3,rfl,h3⟩,hN0⟩:=(numberR gv0_ok).det
 obtain⟨_,⟨z,rfl,hz⟩,hI⟩:=(intsR (a:=clsR v.k) (b:=clsR gv0.k)).det
 have h0:clsR gv0.k=0:=rfl
 have hzk:z=0↔v.k=0:=by rw[hz,h0];exact clsR0
 cases b with
 |false=>
  have hnn:¬isNull v:=fun h=>by have:=v1 h;cases this
  refine pureP_of rfl rfl ?_
  (conv=>whnf);repeat' (first|(refine callK_of hV ?_;rintro _ rfl;conv=>whnf)|(refine callK_of hV0 ?_;rintro _ rfl;conv=>whnf)|(refine callK_of yesF ?_;rintro _ rfl;conv=>whnf)|(refine kA ?_;conv=>whnf)|(refine Br.mk (fun hc=>?_) fun hc=>?_<;>first|exact hc.elim|conv=>whnf)|(refine kB ?_))
  all_goals exact⟨_,rfl,fun h=>absurd h (by decide),fun h=>absurd h hnn⟩
 |true=>
  by_cases hk:v.k=0
  ·have hnl:=v2 rfl hk
   have hz0:=hzk.2 hk
   have hb2:b2=false:=by cases b2 with
        |false=>rfl
        |true=>have:=h2 rfl;omega
   subst hb2
   refine pureP_of rfl rfl ?_
   (conv=>whnf);repeat' (first|(refine callK_of hV ?_;rintro _ rfl;conv=>whnf)|(refine callK_of hV0 ?_;rintro _ rfl;conv=>whnf)|(refine callK_of (classR (k:=v.k)) ?_;rintro _ rfl;conv=>whnf)|(refine callK_of (classR (k:=gv0.k)) ?_;rintro _ rfl;conv=>whnf)|(refine callK_of hI ?_;rintro _ rfl;conv=>whnf)|(refine callK_of hN ?_;rintro _ rfl;conv=>whnf)|(refine callK_of hN0 ?_;rintro _ rfl;conv=>whnf)|(refine callK_of (fieldsZ hnl) ?_;rintro _ rfl;conv=>whnf)|(refine kA ?_;conv=>whnf)|(refine Br.mk (fun hc=>?_) fun hc=>?_<;>first|exact hc.elim|conv=>whnf)|(refine kB ?_))
   all_goals exact⟨_,rfl,fun _=>hnl,fun _=>rfl⟩
  ·have hz0:=mt hzk.1 hk
   refine pureP_of rfl rfl ?_
   (conv=>whnf);repeat' (first|(refine callK_of hV ?_;rintro _ rfl;conv=>whnf)|(refine callK_of hV0 ?_;rintro _ rfl;conv=>whnf)|(refine callK_of (classR (k:=v.k)) ?_;rintro _ rfl;conv=>whnf)|(refine callK_of (classR (k:=gv0.k)) ?_;rintro _ rfl;conv=>whnf)|(refine callK_of hI ?_;rintro _ rfl;conv=>whnf)|(refine kA ?_;conv=>whnf)|(refine Br.mk (fun hc=>?_) fun hc=>?_<;>first|exact hc.elim|conv=>whnf)|(refine kB ?_))
   all_goals exact⟨_,rfl,fun h=>absurd h hz0,fun h=>absurd h.1 hk⟩
section
open Go.Sort
theorem risesT {l:List (List UInt8)} {nn:Bool} (hl:l.length<2^63):PureP (findFn tab) 61 [.sl nn (vs .str l)] (· =.bool (decide (rises l))):=by
 refine pureP_of rfl rfl ?_
 (conv=>whnf);repeat' (first|(refine kA ?_;conv=>whnf)|(refine Br.mk (fun hc=>?_) fun hc=>?_<;>first|exact hc.elim|conv=>whnf)  |(refine kB ?_))
 refine loop_inv (fun m env s=>∃i:Nat,m=l.length-i∧env=[(0,.sl nn (vs .str l)),(3,.int .i64 (i+1:Nat))]∧s=⟨[],0⟩∧∀j (h:j+1<l.length),j<i→(Op.bytesLess l[j+1] l[j]||l[j+1]==l[j])=false) ?_ _ _ _ ⟨0,rfl,rfl,rfl,fun j _ h=>absurd h (by omega)⟩
 rintro _ _ _ ⟨i,rfl,rfl,rfl,hx⟩
 refine⟨rfl,?_⟩
 (conv=>whnf);repeat' (first|(refine kA ?_;conv=>whnf)|(refine Br.mk (fun hc=>?_) fun hc=>?_<;>first|exact hc.elim|conv=>whnf)|(apply nthK_intro;(· exact nVz i (by omega) (by omega));conv=>whnf)|(refine kB ?_))
 ·exact bool_f fun h=>by simp only[show (((i+1:Nat):Int)-1).toNat=i by omega]at hc;rw[h i (by omega)]at hc;cases hc
 ·simp only[show (((i+1:Nat):Int)-1).toNat=i by omega]at hc
  exact again.mk ⟨_,by omega,i+1,rfl,rfl,rfl,fun j h hj=>by
   by_cases e:j=i
   ·subst e;simpa using hc
   ·exact hx j h (by omega)⟩
 ·exact bool_t fun j h=>hx j h (by omega)
theorem cntR {k:Int}:PureP (findFn tab) 60 [.int .i64 k] (· =.int .i64 (if arityI k=0 then -1 else arityI k)):=by
 refine pureP_of rfl rfl ?_
 (conv=>whnf);repeat' (first|(refine kA ?_;conv=>whnf)|(refine Br.mk (fun hc=>?_) fun hc=>?_<;>first|exact hc.elim|conv=>whnf)  |(refine kB ?_))
 all_goals first|(unfold arityI;simp[*];done)|(unfold arityI;repeat' split)<;>first|rfl|(exfalso;omega)
theorem nullRq:PureP (findFn tab) 63 [] (· =gv0.av):=by
 refine pureP_of rfl rfl ?_
 (conv=>whnf);repeat' (first|(refine kA ?_;conv=>whnf)|(refine Br.mk (fun hc=>?_) fun hc=>?_<;>first|exact hc.elim|conv=>whnf)  |(refine kB ?_))
 all_goals rfl
theorem formedR {a:GT} (ha:a.ok):PureP (findFn tab) 37 [a.av] (· =.bool (decide (FormA a))):=by
 obtain⟨h1,h2,h3,h4,h5,h6,h7,h8,h9⟩:=ha
 by_cases h0:arityI a.k=0
 ·refine pureP_of rfl rfl ?_
  (conv=>whnf);repeat' (first|(refine kA ?_;conv=>whnf)|(refine Br.mk (fun hc=>?_) fun hc=>?_<;>first|exact hc.elim|conv=>whnf)|(refine callK_of cntR ?_;rintro _ rfl;rw[if_pos h0];conv=>whnf)|(refine kB ?_))
  all_goals exact bool_f fun h=>h.1 h0
 ·refine pureP_of rfl rfl ?_
  (conv=>whnf);repeat' (first|(refine kA ?_;conv=>whnf)|(refine Br.mk (fun hc=>?_) fun hc=>?_<;>first|exact hc.elim|conv=>whnf)|(refine callK_of cntR ?_;rintro _ rfl;rw[if_neg h0];conv=>whnf)|(refine callB (risesT h7) (fun hr=>?_) (fun hr=>?_)<;>conv=>whnf)|(refine callK_of nullRq ?_;rintro _ rfl;conv=>whnf)|(refine callK_of (orderRN h9) ?_;rintro _ ⟨z,rfl,hz⟩;conv=>whnf)|(refine callB (plain2 h9) (fun hp=>?_) (fun hp=>?_)<;>conv=>whnf)|(refine kB ?_))
  all_goals first
   |(refine bool_f fun h=>?_;obtain⟨q1,q2,q3,q4,q5,q6,q7⟩:=h;first|omega|exact hr q3|(rw [q4 (by omega),List.length_nil]at hc;omega)|exact hc (q5 (by omega) (by omega))|exact hp (q6 (by omega))|exact(by assumption:¬z=0) (hz.2 (q7 (by omega))))
   |(have hT:a.k≠3→a.types=[]:=fun h=>by first|(exact List.eq_nil_of_length_eq_zero (by omega))|(exfalso;omega)
     have hN:a.k≠1→a.k≠2→a.name=[]:=fun e1 e2=>by first|assumption|(exfalso;omega)
     exact bool_t ⟨h0,by omega,hr,hT,hN,fun e=>by first|exact hp|(exfalso;omega),fun e=>by first|exact hz.1 (by assumption)|(exfalso;omega)⟩)
theorem inRangeR {a:GT} {n:Nat} (ha:a.ok):PureP (findFn tab) 38 [a.av,.int .i64 n] (· =.bool (decide (RangeA n a))):=by
 obtain⟨h1,h2,h3,h4,h5,h6,h7,h8,h9⟩:=ha
 have h3':a.vars.length<2^63:=h3
 refine pureP_of rfl rfl ?_
 (conv=>whnf);repeat' (first|(refine kA ?_;conv=>whnf)|(refine Br.mk (fun hc=>?_) fun hc=>?_<;>first|exact hc.elim|conv=>whnf)  |(refine kB ?_))
 refine loop_inv (fun m env s=>∃i:Nat,m=a.vars.length-i∧i≤a.vars.length∧env=[(1,.int .i64 n),(2,.ref 0 0 0 0),(5,.int .i64 i)]∧s=⟨[.arr 0 9 true true [a.av]],1⟩∧∀x∈a.vars.take i,0≤x∧x<n) ?_ _ _ _ ⟨0,rfl,by omega,rfl,rfl,by simp⟩
 rintro _ _ _ ⟨i,rfl,hi,rfl,rfl,hx⟩
 refine⟨rfl,?_⟩
 (conv=>whnf);repeat' (first|(refine kA ?_;conv=>whnf)|(refine Br.mk (fun hc=>?_) fun hc=>?_<;>first|exact hc.elim|conv=>whnf)  |(refine kB ?_))
 ·exact bool_f fun h=>by have:=(h _ (List.getElem_mem (show i<a.vars.length by omega))).1;omega
 ·exact bool_f fun h=>by have:=(h _ (List.getElem_mem (show i<a.vars.length by omega))).2;omega
 ·have hi2:i<a.vars.length:=by omega
  refine again.mk ⟨_,by omega,i+1,rfl,by omega,rfl,rfl,fun x hm=>?_⟩
  rw[List.take_succ_eq_append_getElem hi2,List.mem_append,List.mem_singleton]at hm
  rcases hm with hm|rfl
  ·exact hx x hm
  ·omega
 ·have e:a.vars.take i=a.vars:=List.take_of_length_le (by omega)
  rw[e]at hx
  exact bool_t hx
theorem namedR {a:GT} (ha:a.ok):PureP (findFn tab) 40 [a.av] (· =.bool (decide (NamedA a))):=by
 obtain⟨h1,h2,h3,h4,h5,h6,h7,h8,h9⟩:=ha
 have h7':a.types.length<2^63:=h7
 refine pureP_of rfl rfl ?_
 (conv=>whnf);repeat' (first|(refine kA ?_;conv=>whnf)|(refine Br.mk (fun hc=>?_) fun hc=>?_<;>first|exact hc.elim|conv=>whnf)  |(refine kB ?_))
 refine loop_inv (fun m env s=>∃i:Nat,m=a.types.length-i∧i≤a.types.length∧env=[(1,.ref 0 0 0 0),(3,.int .i64 i)]∧s=⟨[.arr 0 9 true true [a.av]],1⟩∧∀x∈a.types.take i,isName x) ?_ _ _ _ ⟨0,rfl,by omega,rfl,rfl,by simp⟩
 rintro _ _ _ ⟨i,rfl,hi,rfl,rfl,hx⟩
 refine⟨rfl,?_⟩
 (conv=>whnf);repeat' (first|(refine kA ?_;conv=>whnf)|(refine Br.mk (fun hc=>?_) fun hc=>?_<;>first|exact hc.elim|conv=>whnf)|(refine callB (name2 h5) (fun hr=>?_) (fun hr=>?_)<;>conv=>whnf)|(refine kB ?_))
 ·have hi2:i<a.types.length:=by omega
  refine callB (name2 (h8 _ (List.getElem_mem hi2))) (fun hr=>?_) (fun hr=>?_)
  ·(conv=>whnf);repeat' (first|(refine kA ?_;conv=>whnf)|(refine Br.mk (fun hc=>?_) fun hc=>?_<;>first|exact hc.elim|conv=>whnf)  |(refine kB ?_))
   refine again.mk ⟨_,by omega,i+1,rfl,by omega,rfl,rfl,fun x hm=>?_⟩
   rw[List.take_succ_eq_append_getElem hi2,List.mem_append,List.mem_singleton]at hm
   rcases hm with hm|rfl
   ·exact hx x hm
   ·exact hr
  ·(conv=>whnf);repeat' (first|(refine kA ?_;conv=>whnf)|(refine Br.mk (fun hc=>?_) fun hc=>?_<;>first|exact hc.elim|conv=>whnf)  |(refine kB ?_))
   exact bool_f fun h=>hr (h.1 _ (List.getElem_mem hi2))
 all_goals
  have e:a.types.take i=a.types:=List.take_of_length_le (by omega)
  rw[e]at hx
  first
   |exact bool_t ⟨hx,fun h=>by first|exact hr|(exfalso;omega)⟩
   |exact bool_f fun h=>hr (h.2 (by omega))
theorem twiceR {l:List (List UInt8)} {nn:Bool} (hl:l.length<2^63):PureP (findFn tab) 39 [.sl nn (vs .str l)] (· =.bool (decide (¬ l.Nodup))):=by
 refine pureP_of rfl rfl ?_
 (conv=>whnf);repeat' (first|(refine kA ?_;conv=>whnf)|(refine Br.mk (fun hc=>?_) fun hc=>?_<;>first|exact hc.elim|conv=>whnf)  |(refine kB ?_))
 refine loop_inv (fun m env s=>∃i:Nat,m=l.length-i∧i≤l.length∧env=[(0,.sl nn (vs .str l)),(3,.int .i64 i)]∧s=⟨[],0⟩∧(l.take i).Nodup) ?_ _ _ _ ⟨0,rfl,by omega,rfl,rfl,by simp⟩
 rintro _ _ _ ⟨i,rfl,hi,rfl,rfl,hx⟩
 refine⟨rfl,?_⟩
 (conv=>whnf);repeat' (first|(refine kA ?_;conv=>whnf)|(refine Br.mk (fun hc=>?_) fun hc=>?_<;>first|exact hc.elim|conv=>whnf)  |(refine kB ?_))
 ·have hi2:i<l.length:=by omega
  refine loop_inv (fun m env s=>∃k:Nat,m=i-k∧k≤i∧env=[(0,.sl nn (vs .str l)),(3,.int .i64 i),(4,.int .i64 k)]∧s=⟨[],0⟩∧l[i]∉l.take k) ?_ _ _ _ ⟨0,rfl,by omega,rfl,rfl,by simp⟩
  rintro _ _ _ ⟨k,rfl,hk,rfl,rfl,hy⟩
  refine⟨rfl,?_⟩
  (conv=>whnf);repeat' (first|(refine kA ?_;conv=>whnf)|(refine Br.mk (fun hc=>?_) fun hc=>?_<;>first|exact hc.elim|conv=>whnf)  |(refine kB ?_))
  ·refine bool_t fun h=>?_
   exact List.pairwise_iff_getElem.1 h k i (by omega) hi2 (by omega) (by assumption:l[i]=l[k]).symm
  ·have hk2:k<i:=by omega
   refine again.mk ⟨_,by omega,k+1,rfl,by omega,rfl,rfl,fun hm=>?_⟩
   rw[List.take_succ_eq_append_getElem (by omega),List.mem_append,List.mem_singleton]at hm
   exact hm.elim hy (by assumption)
  ·obtain rfl:k=i:=by omega
   refine again.mk ⟨_,by omega,k+1,rfl,by omega,rfl,rfl,?_⟩
   rw[List.take_succ_eq_append_getElem hi2,List.nodup_append]
   refine⟨hx,by simp,fun a ha b hb=>?_⟩
   obtain rfl:=List.mem_singleton.1 hb
   rintro rfl
   exact hy ha
 ·have e:l.take i=l:=List.take_of_length_le (by omega)
  rw[e]at hx
  exact bool_f fun h=>h hx
theorem usedR {l:List GT} {nn:Bool} {z:Int} (hl:l.length<2^63) (ho:∀a∈l,a.ok):PureP (findFn tab) 41 [.sl nn (vs GT.av l),.int .i64 z] (· =.bool (decide (∃ a∈l,z∈a.vars))):=by
 refine pureP_of rfl rfl ?_
 (conv=>whnf);repeat' (first|(refine kA ?_;conv=>whnf)|(refine Br.mk (fun hc=>?_) fun hc=>?_<;>first|exact hc.elim|conv=>whnf)  |(refine kB ?_))
 refine loop_inv (fun m env s=>∃i:Nat,m=l.length-i∧i≤l.length∧env=[(0,.sl nn (vs GT.av l)),(1,.int .i64 z),(5,.int .i64 i)]∧s=⟨[],0⟩∧∀a∈l.take i,z∉a.vars) ?_ _ _ _ ⟨0,rfl,by omega,rfl,rfl,by simp⟩
 rintro _ _ _ ⟨i,rfl,hi,rfl,rfl,hx⟩
 refine⟨rfl,?_⟩
 (conv=>whnf);repeat' (first|(refine kA ?_;conv=>whnf)|(refine Br.mk (fun hc=>?_) fun hc=>?_<;>first|exact hc.elim|conv=>whnf)  |(refine kB ?_))
 ·have hi2:i<l.length:=by omega
  have hv:l[i].vars.length<2^63:=(ho _ (List.getElem_mem hi2)).2.2.1
  refine loop_inv (fun m env s=>∃k:Nat,m=l[i].vars.length-k∧k≤l[i].vars.length∧env=[(0,.sl nn (vs GT.av l)),(1,.int .i64 z),(5,.int .i64 i),(6,.int .i64 k)]∧s=⟨[],0⟩∧z∉l[i].vars.take k) ?_ _ _ _ ⟨0,rfl,by omega,rfl,rfl,by simp⟩
  rintro _ _ _ ⟨k,rfl,hk,rfl,rfl,hy⟩
  refine⟨rfl,?_⟩
  (conv=>whnf);repeat' (first|(refine kA ?_;conv=>whnf)|(refine Br.mk (fun hc=>?_) fun hc=>?_<;>first|exact hc.elim|conv=>whnf)  |(refine kB ?_))
  ·exact bool_t ⟨_,List.getElem_mem hi2,by rw[← (by assumption:l[i].vars[k]=z)];exact List.getElem_mem _⟩
  ·have hk2:k<l[i].vars.length:=by omega
   refine again.mk ⟨_,by omega,k+1,rfl,by omega,rfl,rfl,fun hm=>?_⟩
   rw[List.take_succ_eq_append_getElem hk2,List.mem_append,List.mem_singleton]at hm
   exact hm.elim hy fun e=>(by assumption:¬l[i].vars[k]=z) e.symm
  ·have e:l[i].vars.take k=l[i].vars:=List.take_of_length_le (by omega)
   rw[e]at hy
   refine again.mk ⟨_,by omega,i+1,rfl,by omega,rfl,rfl,fun a hm=>?_⟩
   rw[List.take_succ_eq_append_getElem hi2,List.mem_append,List.mem_singleton]at hm
   rcases hm with hm|rfl
   ·exact hx a hm
   ·exact hy
 ·have e:l.take i=l:=List.take_of_length_le (by omega)
  rw[e]at hx
  exact bool_f fun⟨a,h1,h2⟩=>hx a h1 h2
end
section
open Go.Sort
def ltJ (x y:Int):Bool:=decide (x<y)
theorem ltJ_iff {x y:Int}:ltJ x y=true↔x<y:=by unfold ltJ;rw[decide_eq_true_eq]
theorem ltJ_no {x y:Int}:ltJ x y=false↔¬x<y:=by rw[← ltJ_iff];simp
theorem ltJ_swo:SWO ltJ where
 irrefl x:=ltJ_no.2 (by omega)
 trans x y z h1 h2:=ltJ_iff.2 (by have:=ltJ_iff.1 h1;have:=ltJ_iff.1 h2;omega)
 ntrans x y z h1 h2:=ltJ_no.2 (by have:=ltJ_no.1 h1;have:=ltJ_no.1 h2;omega)
theorem cellsI (x:Int):(AV.int .i64 x).cells.length=1:=rfl
theorem nanI {x:Int}:PureP (findFn tab) 94 [.int .i64 x] (· =.bool (decide False)):=by
 refine pureP_of rfl rfl ?_
 (conv=>whnf);repeat' (first  |(refine kA ?_;conv=>whnf)|(refine Br.mk (fun hc=>?_) fun hc=>?_<;>first|exact hc.elim|conv=>whnf)|(refine kB ?_))
 all_goals first|exact absurd rfl hc|rfl
attribute [irreducible] ltJ
end
section
open Go.Sort
theorem clr {C:CallF} {es o g off n:Nat} {nn cl:Bool} {x:AO} {env:Env} {σ:List Obj} {c:Nat} {elems:List AV} (hx:x.val env=.own o g off n) (ho:nth σ o=some (.arr g es nn cl elems)) (h:off+n≤elems.length) (hn:n≠0):
 evOp C (.clear es x) env ⟨σ,c⟩=some (.ok .undef,⟨σ.set o (.arr g es nn cl (elems.take off)),c⟩):=by
 simp[evOp,hx,ho,h,hn]
section
variable {α:Type} [Inhabited α]
theorem nPn {f:α→AV} {d:Array α} {m:Nat} (i:Nat) (hm:m=i) (h:i<d.size):nth (vs f d.toList) m=some (f d[i]!):=by
 subst hm
 have:=nP (f:=f) (d:=d) (z:=(m:Int)) m rfl h
 exact this
open Classical in
noncomputable def cpn (d:Array α):Nat→List α
 |0=>[]
 |n+1=>if 0<n∧d[n]! =d[n-1]! then cpn d n else cpn d n++[d[n]!]
theorem cpn_same {d:Array α} {n:Nat} (h0:0<n) (h:d[n]! =d[n-1]!):cpn d (n+1)=cpn d n:=if_pos ⟨h0,h⟩
theorem cpn_more {d:Array α} {n:Nat} (h:0<n→¬d[n]! =d[n-1]!):cpn d (n+1)=cpn d n++[d[n]!]:=if_neg fun h1=>h h1.1 h1.2
theorem cpn_len (d:Array α):∀n,(cpn d n).length≤n
 |0=>by simp[cpn]
 |n+1=>by
  have:=cpn_len d n
  unfold cpn
  split
  ·omega
  ·simp;omega
theorem cpn_all {d:Array α}:∀n,n≤d.size→(∀ j,0<j→j<n→¬d[j]! =d[j-1]!)→cpn d n=d.toList.take n
 |0,_,_=>by simp[cpn]
 |n+1,hn,h=>by
  rw[cpn_more (fun h0=>h n h0 (by omega)),cpn_all n (by omega) fun j h0 hj=>h j h0 (by omega),List.take_succ_eq_append_getElem (by simp;omega)]
  congr 2
  rw[getElem!_pos d n (by omega)]
  simp
theorem mem_cpn {d:Array α} {x:α}:∀n,n≤d.size→(x∈cpn d n↔x∈d.toList.take n)
 |0,_=>by simp[cpn]
 |n+1,hn=>by
  have e:d[n]! =d.toList[n]'(by simp;omega):=by rw[getElem!_pos d n (by omega)];simp
  rw[List.take_succ_eq_append_getElem (by simp;omega),List.mem_append,List.mem_singleton,←e]
  by_cases h:0<n∧d[n]! =d[n-1]!
  ·rw[cpn_same h.1 h.2,mem_cpn n (by omega)]
   refine⟨Or.inl,fun h1=>h1.elim id ?_⟩
   rintro rfl
   rw[h.2,getElem!_pos d (n-1) (by omega)]
   rw[List.mem_take_iff_getElem]
   exact⟨n-1,by simp;omega,by simp⟩
  ·rw[cpn_more (fun h0 h1=>h ⟨h0,h1⟩),List.mem_append,List.mem_singleton,mem_cpn n (by omega)]
theorem cpn_lt {lt:α→α→Bool} (hS:SWO lt) (htot:∀x y,lt x y=false→lt y x=false→x=y) {d:Array α} (hs:SortedIn lt 0 d.size d):∀n,n≤d.size→(cpn d n).Pairwise (fun x y=>lt x y=true)
 |0,_=>by simp[cpn]
 |n+1,hn=>by
  have ih:=cpn_lt hS htot hs n (by omega)
  by_cases h:0<n∧d[n]! =d[n-1]!
  ·rw[cpn_same h.1 h.2];exact ih
  ·rw[cpn_more (fun h0 h1=>h ⟨h0,h1⟩)]
   refine List.pairwise_append.2 ⟨ih,List.pairwise_singleton ..,fun x hx y hy=>?_⟩
   obtain rfl:=List.mem_singleton.1 hy
   rw[mem_cpn n (by omega),List.mem_take_iff_getElem]at hx
   obtain⟨j,hj,rfl⟩:=hx
   simp only[Array.length_toList]at hj
   have ej:d.toList[j]'(by simp;omega)=d[j]!:=by rw[getElem!_pos d j (by omega)];simp
   rw[ej]
   cases hc:lt d[j]! d[n]! with
   |true=>rfl
   |false=>
    exfalso
    have h1:=hs j n (by omega) (by omega) (by omega)
    have e1:=htot _ _ hc h1
    refine h ⟨by omega,?_⟩
    rcases Nat.lt_or_ge j (n-1)with h2|h2
    ·have h3:=hs j (n-1) (by omega) h2 (by omega)
     have h4:=hs (n-1) n (by omega) (by omega) (by omega)
     rw[e1]at h3
     exact htot _ _ h4 h3
    ·obtain rfl:j=n-1:=by omega
     exact e1.symm
omit [Inhabited α]in
theorem strict_unique {lt:α→α→Bool} (hS:SWO lt):∀{a b:List α},a.Pairwise (fun x y=>lt x y=true)→b.Pairwise (fun x y=>lt x y=true)→(∀ x,x∈a↔x∈b)→a=b
 |[],[],_,_,_=>rfl
 |[],y::b,_,_,h=>absurd ((h y).2 (List.mem_cons_self ..)) (by simp)
 |x::a,[],_,_,h=>absurd ((h x).1 (List.mem_cons_self ..)) (by simp)
 |x::a,y::b,ha,hb,h=>by
  have ha':=List.pairwise_cons.1 ha
  have hb':=List.pairwise_cons.1 hb
  have hxy:x=y:=by
   rcases List.mem_cons.1 ((h x).1 (List.mem_cons_self ..))with e|hx
   ·exact e
   rcases List.mem_cons.1 ((h y).2 (List.mem_cons_self ..))with e|hy
   ·exact e.symm
   have:=hS.trans _ _ _ (ha'.1 y hy) (hb'.1 x hx)
   rw[hS.irrefl]at this;cases this
  subst hxy
  rw[strict_unique hS ha'.2 hb'.2 fun z=>?_]
  have hn1:x∉a:=fun h1=>by have:=ha'.1 x h1;rw[hS.irrefl]at this;cases this
  have hn2:x∉b:=fun h1=>by have:=hb'.1 x h1;rw[hS.irrefl]at this;cases this
  have:=h z
  simp only[List.mem_cons]at this
  constructor
  ·intro hz
   rcases this.1 (Or.inr hz)with rfl|h2
   ·exact absurd hz hn1
   ·exact h2
  ·intro hz
   rcases this.2 (Or.inr hz)with rfl|h2
   ·exact absurd hz hn2
   ·exact h2
end
end
section
open Go.Sort
theorem pjcpt {ob0:Obj} {g len c:Nat} {nn cl:Bool} {d:Array Int} (hl:d.size=len) (hs:len<2^61):
 Calls1 (findFn tab) 34 [.own 1 g 0 len] ⟨[ob0,.arr g 1 nn cl (vs (.int .i64) d.toList)],c⟩ fun out s'=>∃c' T,out=.ok (.own 1 g 0 (cpn d len).length)∧s'=⟨[ob0,.arr g 1 nn cl (vs (.int .i64) (cpn d len++T))],c'⟩:=by
 have hend:(∀ j,0<j→j<len→¬d[j]! =d[j-1]!)→cpn d len=d.toList:=fun h=>by
  rw[cpn_all len (by omega) h,List.take_of_length_le (by simp[hl])]
 refine calls1_of rfl rfl ?_
 (conv=>whnf);repeat' (first  |(refine kA ?_;conv=>whnf)|(refine Br.mk (fun hc=>?_) fun hc=>?_<;>first|exact hc.elim|conv=>whnf)|(refine kB ?_))
 ·have e:=hend (fun j h0 hj=>absurd h0 (by omega))
  rw[e,Array.length_toList,hl]
  exact⟨_,[],rfl,by rw[List.append_nil]⟩
 refine loop_inv (fun m env s=>∃(k c:Nat),m=len-k∧0<k∧(∀ j,0<j→j<k→¬d[j]! =d[j-1]!)∧env=[(0,.own 1 g 0 len),(3,.int .i64 k)]∧s=⟨[ob0,.arr g 1 nn cl (vs (.int .i64) d.toList)],c⟩) ?_ _ _ _ ⟨1,c,rfl,by omega,fun j h0 h1=>absurd h0 (by omega),rfl,rfl⟩
 rintro _ _ _ ⟨k,c,rfl,hk0,hk,rfl,rfl⟩
 refine⟨rfl,?_⟩
 (conv=>whnf);repeat' (first|((with_reducible show nthK _ _ _);refine nPK (k) ?_;conv=>whnf)|((with_reducible show nthK _ _ _);refine nPK (k-1) ?_;conv=>whnf)|(refine kA ?_;conv=>whnf)|(refine Br.mk (fun hc=>?_) fun hc=>?_<;>first|exact hc.elim|conv=>whnf)|(refine kB ?_))
 ·have h1:cpn d (k+1)=cpn d k:=cpn_same hk0 (by assumption)
  have h2:cpn d k=d.toList.take k:=cpn_all k (by omega) hk
  obtain⟨k,rfl⟩:∃k',k=k'+1:=⟨k-1,by omega⟩
  refine loop_inv (fun m env s=>∃(k2 c w:Nat) (E:Array Int),m=len-(k+1)-k2∧0<k2∧k+1+k2≤len∧E.size=len∧w=(cpn d (k+1+k2)).length∧w<k+1+k2∧E.toList.take w=cpn d (k+1+k2)∧(∀ j,k+1+k2≤j+1→j<len→E[j]! =d[j]!)∧env=[(0,.own 1 g 0 len),(3,.int .i64 w),(4,.own 1 g (k+1) (len-(k+1))),(5,.int .i64 k2)]∧s=⟨[ob0,.arr g 1 nn cl (vs (.int .i64) E.toList)],c⟩) ?_ _ _ _ ⟨1,_,k+1,d,rfl,by omega,by omega,hl,by rw[h1,h2];simp;omega,by omega,by rw[h1,h2],fun j _ _=>rfl,rfl,rfl⟩
  rintro _ _ _ ⟨k2,c,w,E,rfl,hk2,hkl,hE,hw,hwk,hW,hej,rfl,rfl⟩
  refine⟨rfl,?_⟩
  (conv=>whnf);repeat' (first|(apply nthK_intro;(· exact nPn (k+1+k2) (by omega) (by first|omega|(simp;omega)));conv=>whnf)|(apply nthK_intro;(· exact nPn (k+1+k2-1) (by omega) (by first|omega|(simp;omega)));conv=>whnf)|((with_reducible show nthK _ _ _);refine nPK (w) ?_;conv=>whnf)|((with_reducible show eqK _ _);refine tPK cellsI (w) ?_;conv=>whnf)|(refine kA ?_;conv=>whnf)|(refine Br.mk (fun hc=>?_) fun hc=>?_<;>first|exact hc.elim|conv=>whnf)|(refine kB ?_))
  ·have e1:=hej (k+1+k2) (by omega) (by omega)
   have e2:=hej (k+1+k2-1) (by omega) (by omega)
   rw[e1,e2]at hc
   exact again.mk ⟨_,by omega,k2+1,_,w,E,rfl,by omega,by omega,hE,by rw[hw,←cpn_same (d:=d) (n:=k+1+k2) (by omega) hc];rfl,by omega,by rw[hW,←cpn_same (d:=d) (n:=k+1+k2) (by omega) hc];rfl,fun j h1 h2=>hej j (by omega) h2,rfl,rfl⟩
  ·have e1:=hej (k+1+k2) (by omega) (by omega)
   have e2:=hej (k+1+k2-1) (by omega) (by omega)
   rw[e1,e2]at hc
   have e3:cpn d (k+1+(k2+1))=cpn d (k+1+k2)++[d[k+1+k2]!]:=cpn_more fun _=>hc
   refine again.mk ⟨_,by omega,k2+1,_,w+1,E.setIfInBounds w E[k+1+k2]!,rfl,by omega,by omega,by simpa using hE,by rw[e3,List.length_append,←hw];rfl,by omega,?_,fun j h1 h2=>?_,rfl,rfl⟩
   ·rw[Array.toList_setIfInBounds,List.take_succ_eq_append_getElem (by simp;omega),e3,←hW,e1]
    simp[List.take_set_of_le]
   ·rw[← hej j (by omega) h2,getElem!_pos _ j (by simp;omega),getElem!_pos E j (by omega),Array.getElem_setIfInBounds_ne (by omega) (by omega)]
  ·have hk2e:k+1+k2=len:=by omega
   rw[hk2e]at hW hw hwk
   refine getK_intro (clr (n:=len-w) rfl rfl (by simp;omega) (by omega)) ?_
   have e4:List.take (Int.toNat (w:Int)) (vs (.int .i64) E.toList)=vs (.int .i64) (cpn d len++[]):=by
        rw[List.append_nil,←hW];simp[vs,List.map_take]
   (conv=>whnf);repeat' (first  |(refine kA ?_;conv=>whnf)|(refine Br.mk (fun hc=>?_) fun hc=>?_<;>first|exact hc.elim|conv=>whnf)|(refine kB ?_))
   refine⟨c,[],by rw[← hw];rfl,?_⟩
   rw[← e4]
   rfl
 ·exact again.mk ⟨_,by omega,k+1,_,rfl,by omega,fun j h0 hj=>by
   rcases Nat.lt_or_ge j k with h|h
   ·exact hk j h0 h
   ·obtain rfl:j=k:=by omega
    first|exact hc|assumption,rfl,rfl⟩
 ·have e:=hend (fun j h0 hj=>hk j h0 (by omega))
  rw[e,Array.length_toList,hl]
  exact⟨_,[],rfl,by rw[List.append_nil]⟩
end
section
open Go.Sort
theorem pscpt {ob0:Obj} {g len c:Nat} {nn cl:Bool} {d:Array (List UInt8)} (hl:d.size=len) (hs:len<2^61):
 Calls1 (findFn tab) 31 [.own 1 g 0 len] ⟨[ob0,.arr g 1 nn cl (vs .str d.toList)],c⟩ fun out s'=>∃c' T,out=.ok (.own 1 g 0 (cpn d len).length)∧s'=⟨[ob0,.arr g 1 nn cl (vs .str (cpn d len++T))],c'⟩:=by
 have hend:(∀ j,0<j→j<len→¬d[j]! =d[j-1]!)→cpn d len=d.toList:=fun h=>by
  rw[cpn_all len (by omega) h,List.take_of_length_le (by simp[hl])]
 refine calls1_of rfl rfl ?_
 (conv=>whnf);repeat' (first  |(refine kA ?_;conv=>whnf)|(refine Br.mk (fun hc=>?_) fun hc=>?_<;>first|exact hc.elim|conv=>whnf)|(refine kB ?_))
 ·have e:=hend (fun j h0 hj=>absurd h0 (by omega))
  rw[e,Array.length_toList,hl]
  exact⟨_,[],rfl,by rw[List.append_nil]⟩
 refine loop_inv (fun m env s=>∃(k c:Nat),m=len-k∧0<k∧(∀ j,0<j→j<k→¬d[j]! =d[j-1]!)∧env=[(0,.own 1 g 0 len),(3,.int .i64 k)]∧s=⟨[ob0,.arr g 1 nn cl (vs .str d.toList)],c⟩) ?_ _ _ _ ⟨1,c,rfl,by omega,fun j h0 h1=>absurd h0 (by omega),rfl,rfl⟩
 rintro _ _ _ ⟨k,c,rfl,hk0,hk,rfl,rfl⟩
 refine⟨rfl,?_⟩
 (conv=>whnf);repeat' (first|((with_reducible show nthK _ _ _);refine nPK (k) ?_;conv=>whnf)|((with_reducible show nthK _ _ _);refine nPK (k-1) ?_;conv=>whnf)|(refine kA ?_;conv=>whnf)|(refine Br.mk (fun hc=>?_) fun hc=>?_<;>first|exact hc.elim|conv=>whnf)|(refine kB ?_))
 ·have h1:cpn d (k+1)=cpn d k:=cpn_same hk0 (by assumption)
  have h2:cpn d k=d.toList.take k:=cpn_all k (by omega) hk
  obtain⟨k,rfl⟩:∃k',k=k'+1:=⟨k-1,by omega⟩
  refine loop_inv (fun m env s=>∃(k2 c w:Nat) (E:Array (List UInt8)),m=len-(k+1)-k2∧0<k2∧k+1+k2≤len∧E.size=len∧w=(cpn d (k+1+k2)).length∧w<k+1+k2∧E.toList.take w=cpn d (k+1+k2)∧(∀ j,k+1+k2≤j+1→j<len→E[j]! =d[j]!)∧env=[(0,.own 1 g 0 len),(3,.int .i64 w),(4,.own 1 g (k+1) (len-(k+1))),(5,.int .i64 k2)]∧s=⟨[ob0,.arr g 1 nn cl (vs .str E.toList)],c⟩) ?_ _ _ _ ⟨1,_,k+1,d,rfl,by omega,by omega,hl,by rw[h1,h2];simp;omega,by omega,by rw[h1,h2],fun j _ _=>rfl,rfl,rfl⟩
  rintro _ _ _ ⟨k2,c,w,E,rfl,hk2,hkl,hE,hw,hwk,hW,hej,rfl,rfl⟩
  refine⟨rfl,?_⟩
  (conv=>whnf);repeat' (first|(apply nthK_intro;(· exact nPn (k+1+k2) (by omega) (by first|omega|(simp;omega)));conv=>whnf)|(apply nthK_intro;(· exact nPn (k+1+k2-1) (by omega) (by first|omega|(simp;omega)));conv=>whnf)|((with_reducible show nthK _ _ _);refine nPK (w) ?_;conv=>whnf)|((with_reducible show eqK _ _);refine tPK cellsS (w) ?_;conv=>whnf)|(refine kA ?_;conv=>whnf)|(refine Br.mk (fun hc=>?_) fun hc=>?_<;>first|exact hc.elim|conv=>whnf)|(refine kB ?_))
  ·have e1:=hej (k+1+k2) (by omega) (by omega)
   have e2:=hej (k+1+k2-1) (by omega) (by omega)
   rw[e1,e2]at hc
   exact again.mk ⟨_,by omega,k2+1,_,w,E,rfl,by omega,by omega,hE,by rw[hw,←cpn_same (d:=d) (n:=k+1+k2) (by omega) hc];rfl,by omega,by rw[hW,←cpn_same (d:=d) (n:=k+1+k2) (by omega) hc];rfl,fun j h1 h2=>hej j (by omega) h2,rfl,rfl⟩
  ·have e1:=hej (k+1+k2) (by omega) (by omega)
   have e2:=hej (k+1+k2-1) (by omega) (by omega)
   rw[e1,e2]at hc
   have e3:cpn d (k+1+(k2+1))=cpn d (k+1+k2)++[d[k+1+k2]!]:=cpn_more fun _=>hc
   refine again.mk ⟨_,by omega,k2+1,_,w+1,E.setIfInBounds w E[k+1+k2]!,rfl,by omega,by omega,by simpa using hE,by rw[e3,List.length_append,←hw];rfl,by omega,?_,fun j h1 h2=>?_,rfl,rfl⟩
   ·rw[Array.toList_setIfInBounds,List.take_succ_eq_append_getElem (by simp;omega),e3,←hW,e1]
    simp[List.take_set_of_le]
   ·rw[← hej j (by omega) h2,getElem!_pos _ j (by simp;omega),getElem!_pos E j (by omega),Array.getElem_setIfInBounds_ne (by omega) (by omega)]
  ·have hk2e:k+1+k2=len:=by omega
   rw[hk2e]at hW hw hwk
   refine getK_intro (clr (n:=len-w) rfl rfl (by simp;omega) (by omega)) ?_
   have e4:List.take (Int.toNat (w:Int)) (vs .str E.toList)=vs .str (cpn d len++[]):=by
        rw[List.append_nil,←hW];simp[vs,List.map_take]
   (conv=>whnf);repeat' (first  |(refine kA ?_;conv=>whnf)|(refine Br.mk (fun hc=>?_) fun hc=>?_<;>first|exact hc.elim|conv=>whnf)|(refine kB ?_))
   refine⟨c,[],by rw[← hw];rfl,?_⟩
   rw[← e4]
   rfl
 ·exact again.mk ⟨_,by omega,k+1,_,rfl,by omega,fun j h0 hj=>by
   rcases Nat.lt_or_ge j k with h|h
   ·exact hk j h0 h
   ·obtain rfl:j=k:=by omega
    first|exact hc|assumption,rfl,rfl⟩
 ·have e:=hend (fun j h0 hj=>hk j h0 (by omega))
  rw[e,Array.length_toList,hl]
  exact⟨_,[],rfl,by rw[List.append_nil]⟩
end
end AI
end Go.Proofs.YtlbjddhbkhgceaaGreatDoor
