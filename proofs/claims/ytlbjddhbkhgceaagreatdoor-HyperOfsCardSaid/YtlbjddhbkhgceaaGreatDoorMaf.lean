/- The reference's check of a query, and its variables of an atom. The program's variables of an atom, its check of a query. Lists of lists of numbers, compared by the reference. -/
import Derived.Test.YtlbjddhbkhgceaaGreatDoorMae
import Derived.Test.YtlbjddhbkhgceaaGreatDoorHyP
set_option linter.unusedVariables false
set_option maxRecDepth 4000
namespace Go.Proofs.YtlbjddhbkhgceaaGreatDoor
namespace AI
section
open Go.Sort
def Ups (W:List Int):Prop:=W.Pairwise (fun x y=>x<y)
theorem ups_eq:∀{a b:List Int},Ups a→Ups b→(∀ x,x∈a↔x∈b)→a=b
 |[],[],_,_,_=>rfl
 |[],y::b,_,_,h=>absurd ((h y).2 (by simp)) (by simp)
 |x::a,[],_,_,h=>absurd ((h x).1 (by simp)) (by simp)
 |x::a,y::b,ha,hb,h=>by
  have ha':=List.pairwise_cons.1 ha
  have hb':=List.pairwise_cons.1 hb
  have hxy:x=y:=by
   rcases List.mem_cons.1 ((h x).1 (by simp))with e|h1
   ·exact e
   rcases List.mem_cons.1 ((h y).2 (by simp))with e|h2
   ·exact e.symm
   have:=ha'.1 y h2
   have:=hb'.1 x h1
   omega
  subst hxy
  congr 1
  refine ups_eq ha'.2 hb'.2 fun z=>?_
  have hz:=h z
  simp only[List.mem_cons]at hz
  constructor
  ·intro h1
   rcases hz.1 (.inr h1)with rfl|h2
   ·have:=ha'.1 _ h1;omega
   ·exact h2
  ·intro h1
   rcases hz.2 (.inr h1)with rfl|h2
   ·have:=hb'.1 _ h1;omega
   ·exact h2
theorem ups_snoc {A:List Int} {w:Int} (h:Ups A) (hw:∀y∈A,y<w):Ups (A++[w]):=by
 unfold Ups
 rw[List.pairwise_append]
 exact⟨h,List.pairwise_singleton _ _,fun a ha b hb=>by rw[List.mem_singleton]at hb;subst hb;exact hw a ha⟩
theorem ups_lt {W:List Int} (h:Ups W) {i:Nat} (hi:i<W.length):∀y∈W.take i,y<W[i]:=by
 intro y hy
 obtain⟨j,hj,e⟩:=List.mem_take_iff_getElem.1 hy
 rw[← e]
 exact List.pairwise_iff_getElem.1 h j i (by omega) hi (by omega)
theorem mem_take_succ {W:List Int} {i:Nat} (hi:i<W.length) {y:Int}:y∈W.take (i+1)↔y∈W.take i∨y=W[i]:=by
 rw[List.take_succ_eq_append_getElem hi,List.mem_append,List.mem_singleton]
set_option maxHeartbeats 1000000 in
theorem withT {W:List Int} {b:Bool} {x:Int} (hl:W.length≤100000) (hs:Ups W):PureP (findFn tab) 42 [.sl b (vs (.int .i64) W),.int .i64 x] (fun v=>∃b' W',v=.sl b' (vs (.int .i64) W')∧Ups W'∧W'.length≤W.length+1∧∀y,y∈W'↔y∈W∨y=x):=by
 refine pureP_of rfl rfl ?_
 (conv=>whnf);repeat' (first  |(refine kA ?_;conv=>whnf)|(refine Br.mk (fun hc=>?_) fun hc=>?_<;>first|exact hc.elim|conv=>whnf)|(refine kB ?_))
 refine loop_inv (fun m env s=>∃(i c ga n:Nat) (fa d:Bool) (A:List Int),m=W.length-i∧i≤W.length∧n=A.length∧A.length≤i+1∧Ups A∧(∀ y,y∈A↔y∈W.take i∨(d=true∧y=x))∧(d=false→A.length≤i∧∀y∈W.take i,y<x)∧(d=true→∃y∈W.take i,x≤y)∧env=[(0,.sl b (vs (.int .i64) W)),(1,.int .i64 x),(5,.own 0 ga 0 n),(6,.bool d),(7,.int .i64 i)]∧s=⟨[.arr ga 1 fa true (vs (.int .i64) A)],c⟩) ?_ _ _ _ ⟨0,_,_,_,_,false,[],rfl,by omega,rfl,by simp,List.Pairwise.nil,by simp,by simp,(fun h=>by cases h),rfl,rfl⟩
 rintro _ _ _ ⟨i,c,ga,n,fa,d,A,rfl,hi,hn,hAl,hA,hm,h0,h1,rfl,rfl⟩
 refine⟨rfl,?_⟩
 by_cases hlt:i<W.length
 ·have hW:=ups_lt hs hlt
  have hmt:=fun y=>mem_take_succ (y:=y) hlt
  cases d
  ·obtain⟨hAl2,h0⟩:=h0 rfl
   have hAx:∀y∈A,y<x∧y<W[i]:=fun y hy=>by
        rcases(hm y).1 hy with h|h
        ·exact⟨h0 y h,hW y h⟩
        ·cases h.1
   rcases Int.lt_trichotomy W[i] x with hw|hw|hw
   ·have f1:Ups (A++[W[i]]):=ups_snoc hA fun y hy=>(hAx y hy).2
    have f2:∀y,y∈A++[W[i]]↔y∈W.take (i+1)∨(false=true∧y=x):=fun y=>by rw[List.mem_append,List.mem_singleton,hm,hmt];simp
    have f3:∀y∈W.take (i+1),y<x:=fun y hy=>by
     rcases(hmt y).1 hy with h|h
     ·exact h0 y h
     ·rw[h];exact hw
    clear hm h0 hA hAx hmt hW
    (conv=>whnf);repeat' (first|(refine apV1 (f:=.int .i64) (l:=A) (x:=W[i]) cellsI hn (by omega) ?_;conv=>whnf)|(refine kA ?_;conv=>whnf)|(refine Br.mk (fun hc=>?_) fun hc=>?_<;>first|exact hc.elim|conv=>whnf)|(refine kB ?_))
    all_goals first
     |exact again.mk ⟨_,by omega,i+1,_,_,_,_,false,A++[W[i]],rfl,by omega,by simp,by simp;omega,f1,f2,fun _=>⟨by simp;omega,f3⟩,(fun h=>by cases h),rfl,rfl⟩
     |(exfalso;omega)
     | (trace_state; fail "withT1")
   ·have f1:Ups (A++[W[i]]):=ups_snoc hA fun y hy=>(hAx y hy).2
    have f2:∀y,y∈A++[W[i]]↔y∈W.take (i+1)∨(true=true∧y=x):=fun y=>by
     rw[List.mem_append,List.mem_singleton,hm,hmt]
     simp only[Bool.false_eq_true,false_and,or_false,true_and,hw]
     constructor
     ·exact fun h=>.inl h
     ·exact fun h=>h.elim id .inr
    have f3:∃y∈W.take (i+1),x≤y:=⟨W[i],(hmt _).2 (.inr rfl),by omega⟩
    clear hm h0 hA hAx hmt hW
    (conv=>whnf);repeat' (first|(refine apV1 (f:=.int .i64) (l:=A) (x:=W[i]) cellsI hn (by omega) ?_;conv=>whnf)|(refine kA ?_;conv=>whnf)|(refine Br.mk (fun hc=>?_) fun hc=>?_<;>first|exact hc.elim|conv=>whnf)|(refine kB ?_))
    all_goals first
     |exact again.mk ⟨_,by omega,i+1,_,_,_,_,true,A++[W[i]],rfl,by omega,by simp,by simp;omega,f1,f2,(fun h=>by cases h),fun _=>f3,rfl,rfl⟩
     |(exfalso;omega)
     | (trace_state; fail "withT2")
   ·have f0:Ups (A++[x]):=ups_snoc hA fun y hy=>(hAx y hy).1
    have f1:Ups (A++[x]++[W[i]]):=ups_snoc f0 fun y hy=>by
     rcases List.mem_append.1 hy with h|h
     ·exact(hAx y h).2
     ·rw[List.mem_singleton]at h;omega
    have f2:∀y,y∈A++[x]++[W[i]]↔y∈W.take (i+1)∨(true=true∧y=x):=fun y=>by
     rw[List.mem_append,List.mem_append,List.mem_singleton,List.mem_singleton,hm,hmt]
     simp only[Bool.false_eq_true,false_and,or_false,true_and]
     constructor
     ·rintro((h|h)|h)
      ·exact .inl (.inl h)
      ·exact .inr h
      ·exact .inl (.inr h)
     ·rintro((h|h)|h)
      ·exact .inl (.inl h)
      ·exact .inr h
      ·exact .inl (.inr h)
    have f3:∃y∈W.take (i+1),x≤y:=⟨W[i],(hmt _).2 (.inr rfl),by omega⟩
    have hn2:n+1=(A++[x]).length:=by simp[hn]
    clear hm h0 hA hAx hmt hW
    (conv=>whnf);repeat' (first|(refine apV1 (f:=.int .i64) (l:=A) (x:=x) cellsI hn (by omega) ?_;conv=>whnf)|(refine apV1 (f:=.int .i64) (l:=A++[x]) (x:=W[i]) cellsI (by simp) (by simp;omega) ?_;conv=>whnf)|(refine kA ?_;conv=>whnf)|(refine Br.mk (fun hc=>?_) fun hc=>?_<;>first|exact hc.elim|conv=>whnf)|(refine kB ?_))
    all_goals first
     |exact again.mk ⟨_,by omega,i+1,_,_,_,_,true,A++[x]++[W[i]],rfl,by omega,by simp,by simp;omega,f1,f2,(fun h=>by cases h),fun _=>f3,rfl,rfl⟩
     |(exfalso;omega)
     | (trace_state; fail "withT3")
  ·obtain⟨q,hq,hqx⟩:=h1 rfl
   have hwx:x<W[i]:=by have:=hW q hq;omega
   have f1:Ups (A++[W[i]]):=ups_snoc hA fun y hy=>by
        rcases(hm y).1 hy with h|h
        ·exact hW y h
        ·rw[h.2];exact hwx
   have f2:∀y,y∈A++[W[i]]↔y∈W.take (i+1)∨(true=true∧y=x):=fun y=>by
        rw[List.mem_append,List.mem_singleton,hm,hmt]
        simp only[true_and]
        constructor
        ·rintro((h|h)|h)
         ·exact .inl (.inl h)
         ·exact .inr h
         ·exact .inl (.inr h)
        ·rintro((h|h)|h)
         ·exact .inl (.inl h)
         ·exact .inr h
         ·exact .inl (.inr h)
   have f3:∃y∈W.take (i+1),x≤y:=⟨q,(hmt _).2 (.inl hq),hqx⟩
   clear hm h0 hA hmt hW h1 hq
   (conv=>whnf);repeat' (first|(refine apV1 (f:=.int .i64) (l:=A) (x:=W[i]) cellsI hn (by omega) ?_;conv=>whnf)|(refine kA ?_;conv=>whnf)|(refine Br.mk (fun hc=>?_) fun hc=>?_<;>first|exact hc.elim|conv=>whnf)|(refine kB ?_))
   all_goals first
        |exact again.mk ⟨_,by omega,i+1,_,_,_,_,true,A++[W[i]],rfl,by omega,by simp,by simp;omega,f1,f2,(fun h=>by cases h),fun _=>f3,rfl,rfl⟩
        |(exfalso;omega)
        | (trace_state; fail "withT4")
 ·rw[List.take_of_length_le (by omega)]at hm h0 h1
  cases d
  ·obtain⟨hAl2,h0⟩:=h0 rfl
   have f1:Ups (A++[x]):=ups_snoc hA fun y hy=>by
     rcases(hm y).1 hy with h|h
     ·exact h0 y h
     ·cases h.1
   have f2:∀y,y∈A++[x]↔y∈W∨y=x:=fun y=>by rw[List.mem_append,List.mem_singleton,hm];simp
   (conv=>whnf);repeat' (first|(refine apV1 (f:=.int .i64) (l:=A) (x:=x) cellsI hn (by omega) ?_;conv=>whnf)|(refine kA ?_;conv=>whnf)|(refine Br.mk (fun hc=>?_) fun hc=>?_<;>first|exact hc.elim|conv=>whnf)|(refine kB ?_))
   all_goals first
     |exact⟨_,A++[x],rfl,f1,by simp;omega,f2⟩
     |(exfalso;omega)
     |(refine ⟨_,A++[x],?_,f1,by simp;omega,f2⟩;rw[hn,sub_vs];simp)
     | (trace_state; fail "withT5")
  ·obtain⟨q,hq,hqx⟩:=h1 rfl
   have f2:∀y,y∈A↔y∈W∨y=x:=fun y=>by rw[hm];simp
   (conv=>whnf);repeat' (first  |(refine kA ?_;conv=>whnf)|(refine Br.mk (fun hc=>?_) fun hc=>?_<;>first|exact hc.elim|conv=>whnf)|(refine kB ?_))
   all_goals first
     |exact⟨_,A,rfl,hA,by omega,f2⟩
     |(exfalso;omega)
     |exact⟨fa,A,by rw[hn,sub_vs];simp,hA,by omega,f2⟩
     | (trace_state; fail "withT6")
theorem varsR {a:GT} (ha:a.ok) (hv:a.vars.length≤3):PureP (findFn tab) 19 [a.av] (fun v=>∃b,v=.sl b (vs (.int .i64) (varsI a.vars))):=by
 obtain⟨h1,h2,h3,h4,h5,h6,h7,h8,h9⟩:=ha
 refine pureP_of rfl rfl ?_
 (conv=>whnf);repeat' (first  |(refine kA ?_;conv=>whnf)|(refine Br.mk (fun hc=>?_) fun hc=>?_<;>first|exact hc.elim|conv=>whnf)|(refine kB ?_))
 refine loop_inv (fun m env s=>∃(i:Nat) (b:Bool) (W:List Int),m=a.vars.length-i∧i≤a.vars.length∧W.length≤i∧Ups W∧(∀ y,y∈W↔y∈a.vars.take i)∧env=[(1,.ref 0 0 0 0),(3,.sl b (vs (.int .i64) W)),(4,.int .i64 i)]∧s=⟨[.arr 0 9 true true [a.av]],1⟩) ?_ _ _ _ ⟨0,false,[],rfl,by omega,by simp,.nil,by simp,rfl,rfl⟩
 rintro _ _ _ ⟨i,b,W,rfl,hi,hW,hU,hm,rfl,rfl⟩
 refine⟨rfl,?_⟩
 (conv=>whnf);repeat' (first|(refine callK_of (withT (by omega) hU) ?_;rintro _ ⟨b',W',rfl,hU',hW',hm'⟩;conv=>whnf)|(refine kA ?_;conv=>whnf)|(refine Br.mk (fun hc=>?_) fun hc=>?_<;>first|exact hc.elim|conv=>whnf)|(refine kB ?_))
 ·have hi2:i<a.vars.length:=by omega
  refine again.mk ⟨_,by omega,i+1,_,W',rfl,by omega,by omega,hU',fun y=>?_,rfl,rfl⟩
  rw[hm',hm,List.take_succ_eq_append_getElem hi2,List.mem_append,List.mem_singleton]
 ·have e:a.vars.take i=a.vars:=List.take_of_length_le (by omega)
  rw[e]at hm
  have hWv:W=varsI a.vars:=ups_eq hU (varsI_pw _) fun y=>by rw[hm,mem_varsI]
  rw[hWv]
  exact⟨_,rfl⟩
theorem chk4 {c:GQ} (h:24<c.vars.length∨12<c.atoms.length):(4:Int)=chkQ c:=by unfold chkQ;rw[if_pos h]
theorem chk1 {c:GQ} (h:¬(24<c.vars.length∨12<c.atoms.length)) (h1:¬∀a∈c.atoms,FormA a∧RangeA c.vars.length a):(1:Int)=chkQ c:=by unfold chkQ;rw[if_neg h,if_neg h1]
theorem chk7 {c:GQ} (h:¬(24<c.vars.length∨12<c.atoms.length)) (h1:∀a∈c.atoms,FormA a∧RangeA c.vars.length a) (h2:¬c.vars.Nodup):(7:Int)=chkQ c:=by unfold chkQ;rw[if_neg h,if_pos h1,if_neg h2]
theorem chk6 {c:GQ} (h:¬(24<c.vars.length∨12<c.atoms.length)) (h1:∀a∈c.atoms,FormA a∧RangeA c.vars.length a) (h2:c.vars.Nodup) (h3:¬∀a∈c.atoms,NamedA a):(6:Int)=chkQ c:=by unfold chkQ;rw[if_neg h,if_pos h1,if_pos h2,if_neg h3]
theorem chk25 {c:GQ} (h:¬(24<c.vars.length∨12<c.atoms.length)) (h1:∀a∈c.atoms,FormA a∧RangeA c.vars.length a) (h2:c.vars.Nodup) (h3:∀a∈c.atoms,NamedA a) (h4:¬UsedA c.atoms c.vars.length):(25:Int)=chkQ c:=by unfold chkQ;rw[if_neg h,if_pos h1,if_pos h2,if_pos h3,if_neg h4]
theorem chk0 {c:GQ} (h:¬(24<c.vars.length∨12<c.atoms.length)) (h1:∀a∈c.atoms,FormA a∧RangeA c.vars.length a) (h2:c.vars.Nodup) (h3:∀a∈c.atoms,NamedA a) (h4:UsedA c.atoms c.vars.length):(0:Int)=chkQ c:=by unfold chkQ;rw[if_neg h,if_pos h1,if_pos h2,if_pos h3,if_pos h4]
theorem all_succ {α:Type} {P:α→Prop} {l:List α} {i:Nat} (hi:i<l.length) (h:∀x∈l.take i,P x) (hx:P l[i]):∀x∈l.take (i+1),P x:=fun x hm=>by
 rw[List.take_succ_eq_append_getElem hi,List.mem_append,List.mem_singleton]at hm
 rcases hm with hm|rfl
 ·exact h x hm
 ·exact hx
theorem all_end {α:Type} {P:α→Prop} {l:List α} {i:Nat} (hi:l.length≤i) (h:∀x∈l.take i,P x):∀x∈l,P x:=by
 rwa [List.take_of_length_le hi]at h
theorem checkR {c:GQ} (hq:c.ok):PureP (findFn tab) 18 [c.av] (· =.int .i64 (chkQ c)):=by
 obtain⟨h1,h2,h3,h4,h5,h6⟩:=hq
 have h2':c.vars.length<2^63:=h2
 have h5':c.atoms.length<2^63:=h5
 refine pureP_of rfl rfl ?_
 (conv=>whnf);repeat' (first|(refine kA ?_;conv=>whnf)|(refine Br.mk (fun hc=>?_) fun hc=>?_<;>first|exact hc.elim|conv=>whnf)  |(refine kB ?_))
 ·exact congrArg (AV.int .i64) (chk4 (.inl (by omega)))
 ·exact congrArg (AV.int .i64) (chk4 (.inr (by omega)))
 have k0:¬(24<c.vars.length∨12<c.atoms.length):=by omega
 refine loop_inv (fun m env s=>∃i:Nat,m=c.atoms.length-i∧i≤c.atoms.length∧env=[(1,.ref 0 0 0 0),(3,.int .i64 i)]∧s=⟨[.arr 0 2 true true [c.av]],1⟩∧∀a∈c.atoms.take i,FormA a∧RangeA c.vars.length a) ?_ _ _ _ ⟨0,rfl,by omega,rfl,rfl,by simp⟩
 rintro _ _ _ ⟨i,rfl,hi,rfl,rfl,hx⟩
 refine⟨rfl,?_⟩
 (conv=>whnf);repeat' (first|(refine kA ?_;conv=>whnf)|(refine Br.mk (fun hc=>?_) fun hc=>?_<;>first|exact hc.elim|conv=>whnf)  |(refine kB ?_))
 ·have hi2:i<c.atoms.length:=by omega
  have ho:=h6 _ (List.getElem_mem hi2)
  refine callB (formedR ho) (fun hf=>?_) (fun hf=>?_)
  ·(conv=>whnf);repeat' (first|(refine kA ?_;conv=>whnf)|(refine Br.mk (fun hc=>?_) fun hc=>?_<;>first|exact hc.elim|conv=>whnf)|(refine callB (inRangeR ho) (fun hr=>?_) (fun hr=>?_)<;>conv=>whnf)|(refine kB ?_))
   all_goals first
        |exact again.mk ⟨_,by omega,i+1,rfl,by omega,rfl,rfl,all_succ hi2 hx ⟨hf,hr⟩⟩
        |exact congrArg (AV.int .i64) (chk1 k0 fun h=>hr (h _ (List.getElem_mem hi2)).2)
  ·(conv=>whnf);repeat' (first|(refine kA ?_;conv=>whnf)|(refine Br.mk (fun hc=>?_) fun hc=>?_<;>first|exact hc.elim|conv=>whnf)  |(refine kB ?_))
   exact congrArg (AV.int .i64) (chk1 k0 fun h=>hf (h _ (List.getElem_mem hi2)).1)
 have k1:=all_end (by omega) hx
 refine callB (twiceR h2) (fun hd=>?_) (fun hd=>?_)
 ·(conv=>whnf);repeat' (first|(refine kA ?_;conv=>whnf)|(refine Br.mk (fun hc=>?_) fun hc=>?_<;>first|exact hc.elim|conv=>whnf)  |(refine kB ?_))
  exact congrArg (AV.int .i64) (chk7 k0 k1 hd)
 have k2:=Classical.not_not.1 hd
 (conv=>whnf);repeat' (first|(refine kA ?_;conv=>whnf)|(refine Br.mk (fun hc=>?_) fun hc=>?_<;>first|exact hc.elim|conv=>whnf)  |(refine kB ?_))
 refine loop_inv (fun m env s=>∃i:Nat,m=c.atoms.length-i∧i≤c.atoms.length∧env=[(1,.ref 0 0 0 0),(4,.int .i64 i)]∧s=⟨[.arr 0 2 true true [c.av]],1⟩∧∀a∈c.atoms.take i,NamedA a) ?_ _ _ _ ⟨0,rfl,by omega,rfl,rfl,by simp⟩
 rintro _ _ _ ⟨i2,rfl,hi2,rfl,rfl,hx2⟩
 refine⟨rfl,?_⟩
 (conv=>whnf);repeat' (first|(refine kA ?_;conv=>whnf)|(refine Br.mk (fun hc=>?_) fun hc=>?_<;>first|exact hc.elim|conv=>whnf)  |(refine kB ?_))
 ·have hi3:i2<c.atoms.length:=by omega
  refine callB (namedR (h6 _ (List.getElem_mem hi3))) (fun hf=>?_) (fun hf=>?_)
  ·(conv=>whnf);repeat' (first|(refine kA ?_;conv=>whnf)|(refine Br.mk (fun hc=>?_) fun hc=>?_<;>first|exact hc.elim|conv=>whnf)  |(refine kB ?_))
   exact again.mk ⟨_,by omega,i2+1,rfl,by omega,rfl,rfl,all_succ hi3 hx2 hf⟩
  ·(conv=>whnf);repeat' (first|(refine kA ?_;conv=>whnf)|(refine Br.mk (fun hc=>?_) fun hc=>?_<;>first|exact hc.elim|conv=>whnf)  |(refine kB ?_))
   exact congrArg (AV.int .i64) (chk6 k0 k1 k2 fun h=>hf (h _ (List.getElem_mem hi3)))
 have k3:=all_end (by omega) hx2
 refine loop_inv (fun m env s=>∃i:Nat,m=c.vars.length-i∧i≤c.vars.length∧env=[(1,.ref 0 0 0 0),(5,.int .i64 i)]∧s=⟨[.arr 0 2 true true [c.av]],1⟩∧UsedA c.atoms i) ?_ _ _ _ ⟨0,rfl,by omega,rfl,rfl,fun i h=>absurd h (by omega)⟩
 rintro _ _ _ ⟨i3,rfl,hi3,rfl,rfl,hx3⟩
 refine⟨rfl,?_⟩
 (conv=>whnf);repeat' (first|(refine kA ?_;conv=>whnf)|(refine Br.mk (fun hc=>?_) fun hc=>?_<;>first|exact hc.elim|conv=>whnf)|(refine callB (usedR h5 h6) (fun hf=>?_) (fun hf=>?_)<;>conv=>whnf)|(refine kB ?_))
 ·refine again.mk ⟨_,by omega,i3+1,rfl,by omega,rfl,rfl,fun j hj=>?_⟩
  by_cases e:j=i3
  ·subst e;exact hf
  ·exact hx3 j (by omega)
 ·exact congrArg (AV.int .i64) (chk25 k0 k1 k2 k3 fun h=>hf (h i3 (by omega)))
 ·obtain rfl:i3=c.vars.length:=by omega
  exact congrArg (AV.int .i64) (chk0 k0 k1 k2 k3 hx3)
end
section
open Go.Sort
theorem valuesI {nn:Bool} {l:List Int}:PureP (findFn tab) 36 [.sl nn (vs (.int .i64) l)] (· =.fn 59 [.fref [.sl nn (vs (.int .i64) l)]]):=by
 refine pureP_of rfl rfl ?_
 (conv=>whnf);repeat' (first|(refine kA ?_;conv=>whnf)|(refine Br.mk (fun hc=>?_) fun hc=>?_<;>first|exact hc.elim|conv=>whnf)  |(refine kB ?_))
 all_goals rfl
theorem valuesS {nn:Bool} {l:List (List UInt8)}:PureP (findFn tab) 30 [.sl nn (vs .str l)] (· =.fn 52 [.fref [.sl nn (vs .str l)]]):=by
 refine pureP_of rfl rfl ?_
 (conv=>whnf);repeat' (first|(refine kA ?_;conv=>whnf)|(refine Br.mk (fun hc=>?_) fun hc=>?_<;>first|exact hc.elim|conv=>whnf)  |(refine kB ?_))
 all_goals rfl
theorem calls1_ext {AP:Nat→Option AFn} {f:Nat} {sp:List AV→Sto→Option (AOut×Sto)} {args:List AV} {s s':Sto} {out:AOut} {K:AOut→Sto→Prop} (hf:AP f=some (.ext sp)) (h:sp args s=some (out,s')) (hK:K out s'):Calls1 AP f args s K:=
 ⟨1,out,s',by simp only[run,hf,h],hK⟩
theorem sortedN {l:List Int} (h0:l≠[]) (hl:l.length≤100):Calls1 (findFn tab) 35 [.fn 59 [.fref [.sl true (vs (.int .i64) l)]]] ⟨[],0⟩ fun out s'=>∃o g,out=.ok (.own o g 0 (vs (.int .i64) (srtI l)).length)∧nth s'.σ o=some (.arr g 1 true true (vs (.int .i64) (srtI l))):=by
 obtain⟨x,r,rfl⟩:=List.exists_cons_of_ne_nil h0
 have e:(vs (AV.int .i64) (srtI (x::r))).length=(x::r).length:=by rw[lV];unfold srtI;simp
 have hd:decI (vs (AV.int .i64) (x::r))=some (x::r):=decI_map (x::r)
 refine calls1_ext (sp:=svSpecI) rfl (s':=AI.push ⟨[],0⟩ (.arr 0 1 true true (vs (.int .i64) (srtI (x::r))))) (out:=.ok (.own 0 0 0 (x::r).length)) ?_ ⟨0,0,by rw[e],rfl⟩
 unfold svSpecI
 simp only[hd]
 rw[show (Nat.beq 59 59)=true from rfl]
 rw[cond_true,if_pos ⟨trivial,by omega⟩]
 rfl
theorem sortedT {l:List (List UInt8)} (h0:l≠[]) (hl:l.length≤100):Calls1 (findFn tab) 29 [.fn 52 [.fref [.sl true (vs .str l)]]] ⟨[],0⟩ fun out s'=>∃o g,out=.ok (.own o g 0 (vs .str (srtS l)).length)∧nth s'.σ o=some (.arr g 1 true true (vs .str (srtS l))):=by
 obtain⟨x,r,rfl⟩:=List.exists_cons_of_ne_nil h0
 have e:(vs AV.str (srtS (x::r))).length=(x::r).length:=by rw[lV];unfold srtS;simp
 have hd:decS (vs AV.str (x::r))=some (x::r):=decS_map (x::r)
 refine calls1_ext (sp:=svSpecS) rfl (s':=AI.push ⟨[],0⟩ (.arr 0 1 true true (vs .str (srtS (x::r))))) (out:=.ok (.own 0 0 0 (x::r).length)) ?_ ⟨0,0,by rw[e],rfl⟩
 unfold svSpecS
 simp only[hd]
 rw[show (Nat.beq 52 52)=true from rfl]
 rw[cond_true,if_pos ⟨trivial,by omega⟩]
 rfl
theorem sortedT0 {nn:Bool}:Calls1 (findFn tab) 29 [.fn 52 [.fref [.sl nn []]]] ⟨[],0⟩ fun out _=>out=.ok (.sl false []):=
 calls1_ext (sp:=svSpecS) rfl rfl rfl
theorem inc_cpnI {W:List Int} (hs:W.Pairwise (fun x y=>ltJ y x=false)):Ups (cpn W.toArray W.length)∧∀x,x∈cpn W.toArray W.length↔x∈W:=by
 have h:SortedIn ltJ 0 W.toArray.size W.toArray:=by
  intro i j _ hij hj
  have hj':j<W.length:=by simpa using hj
  have:=List.pairwise_iff_getElem.1 hs i j (by omega) hj' hij
  rw[getElem!_pos W.toArray j (by simpa using hj'),getElem!_pos W.toArray i (by simp;omega)]
  simpa using this
 refine⟨(cpn_lt ltJ_swo (fun x y h1 h2=>by have:=ltJ_no.1 h1;have:=ltJ_no.1 h2;omega) h W.length (by simp)).imp fun h=>ltJ_iff.1 h,fun x=>?_⟩
 rw[mem_cpn W.length (by simp)]
 simp
theorem srtI_pw (l:List Int):(srtI l).Pairwise (fun x y=>ltJ y x=false):=by
 unfold srtI
 refine(List.pairwise_mergeSort (le:=fun x y:Int=>decide (x≤y)) (fun a b c h1 h2=>by simp only[decide_eq_true_eq]at *;omega) (fun a b=>by simp only[Bool.or_eq_true,decide_eq_true_eq];omega) l).imp fun h=>?_
 exact ltJ_no.2 (by have:=of_decide_eq_true h;omega)
theorem varsP {a:GT} (ha:a.ok) (hv:a.vars.length≤3) (h0:a.vars≠[]):PureP (findFn tab) 17 [a.av] (fun v=>∃b,v=.sl b (vs (.int .i64) (varsI a.vars))):=by
 obtain⟨h1,h2,h3,h4,h5,h6,h7,h8,h9⟩:=ha
 have hvn:a.vn=true:=by
  cases h:a.vn with
  |true=>rfl
  |false=>exact absurd (h2 h) h0
 refine pureP_of rfl rfl ?_
 (conv=>whnf);repeat' (first|(refine callK_of valuesI ?_;rintro _ rfl;conv=>whnf)|(refine kA ?_;conv=>whnf)|(refine Br.mk (fun hc=>?_) fun hc=>?_<;>first|exact hc.elim|conv=>whnf)|(refine kB ?_))
 rw[hvn]
 have hs:(srtI a.vars).length≤3:=by unfold srtI;simpa using hv
 refine ownK rfl (sortedN h0 (by omega)) ?_
 rw[lV]
 conv=>whnf
 refine(pjcpt (d:=(srtI a.vars).toArray) (by simp) (by omega)).mono ?_
 rintro _ _ ⟨c2,T,rfl,rfl⟩
 conv=>whnf
 apply getK_intro rfl
 (conv=>whnf);repeat' (first  |(refine kA ?_;conv=>whnf)|(refine Br.mk (fun hc=>?_) fun hc=>?_<;>first|exact hc.elim|conv=>whnf)|(refine kB ?_))
 obtain⟨q1,q2⟩:=inc_cpnI (srtI_pw a.vars)
 refine⟨true,?_⟩
 rw[sub_vs]
 have e:cpn (srtI a.vars).toArray (srtI a.vars).length=varsI a.vars:=ups_eq q1 (varsI_pw _) fun y=>by rw[q2,mem_varsI];unfold srtI;exact List.mem_mergeSort
 simp[e]
theorem idxB {l:List Bool} {nn:Bool} (hl:l.length<2^63):PureP (findFn tab) 56 [.sl nn (vs .bool l),.bool false] (fun v=>∃z,v=.int .i64 z∧(0≤z↔false∈l)):=by
 refine pureP_of rfl rfl ?_
 (conv=>whnf);repeat' (first|(refine kA ?_;conv=>whnf)|(refine Br.mk (fun hc=>?_) fun hc=>?_<;>first|exact hc.elim|conv=>whnf)  |(refine kB ?_))
 refine loop_inv (fun m env s=>∃(i:Nat),m=l.length-i∧i≤l.length∧env=[(0,.sl nn (vs .bool l)),(1,.bool false),(7,.int .i64 l.length),(8,.int .i64 i)]∧s=⟨[],0⟩∧∀x∈l.take i,x=true) ?_ _ _ _ ⟨0,rfl,by omega,rfl,rfl,by simp⟩
 rintro _ _ _ ⟨i,rfl,hi,rfl,rfl,hx⟩
 refine⟨rfl,?_⟩
 (conv=>whnf);repeat' (first|(refine kA ?_;conv=>whnf)|(refine Br.mk (fun hc=>?_) fun hc=>?_<;>first|exact hc.elim|conv=>whnf)  |(refine kB ?_))
 ·have hi2:i<l.length:=by omega
  exact again.mk ⟨_,by omega,i+1,rfl,by omega,rfl,rfl,all_succ hi2 hx (by assumption)⟩
 ·exact⟨i,rfl,fun _=>by rw[← (by assumption:l[i]=false)];exact List.getElem_mem _,fun _=>by omega⟩
 ·have:=all_end (by omega) hx
  exact⟨-1,rfl,fun h=>absurd h (by omega),fun h=>by have:=this _ h;cases this⟩
theorem boolsP {l:List Bool} {nn:Bool} (hl:l.length<2^63):PureP (findFn tab) 33 [.sl nn (vs .bool l),.bool false] (· =.bool (decide (false∈l))):=by
 refine pureP_of rfl rfl ?_
 (conv=>whnf);repeat' (first|(refine kA ?_;conv=>whnf)|(refine Br.mk (fun hc=>?_) fun hc=>?_<;>first|exact hc.elim|conv=>whnf)|(refine callK_of (idxB hl) ?_;rintro _ ⟨z,rfl,hz⟩;conv=>whnf)|(refine kB ?_))
 all_goals (rw [show decide (false∈l)=decide (0≤z) from decide_eq_decide.2 hz.symm];first|exact bool_t (by assumption)|exact bool_f (by assumption)|rfl)
theorem nodup_le {α:Type} [DecidableEq α]:∀{R W:List α},R.Nodup→(∀ x∈R,x∈W)→R.length≤W.length
 |[],W,_,_=>by simp
 |a::R,W,h,hs=>by
  obtain⟨h1,h2⟩:=List.nodup_cons.1 h
  have ha:a∈W:=hs a (by simp)
  have:=nodup_le (R:=R) (W:=W.erase a) h2 fun x hx=>(List.mem_erase_of_ne (by rintro rfl;exact h1 hx)).2 (hs x (by simp[hx]))
  rw[List.length_erase_of_mem ha]at this
  have:=List.length_pos_of_mem ha
  simp only[List.length_cons]
  omega
theorem dup_less {α:Type} [DecidableEq α]:∀{V:List α},¬V.Nodup→∃V':List α,V'.length<V.length∧∀x,x∈V→x∈V'
 |[],h=>absurd List.nodup_nil h
 |a::V,h=>by
  by_cases ha:a∈V
  ·exact⟨V,by simp,fun x hx=>(List.mem_cons.1 hx).elim (fun e=>e▸ha) id⟩
  ·obtain⟨V',h1,h2⟩:=dup_less (V:=V) fun hn=>h (List.nodup_cons.2 ⟨ha,hn⟩)
   exact⟨a::V',by simpa using h1,fun x hx=>(List.mem_cons.1 hx).elim (fun e=>by simp[e]) fun hx=>by simp[h2 x hx]⟩
theorem inc_cpnS {W:List (List UInt8)} (hs:W.Pairwise (fun x y=>ltS y x=false)):(cpn W.toArray W.length).Pairwise (fun x y=>ltS x y=true)∧∀x,x∈cpn W.toArray W.length↔x∈W:=by
 have h:SortedIn ltS 0 W.toArray.size W.toArray:=by
  intro i j _ hij hj
  have hj':j<W.length:=by simpa using hj
  have:=List.pairwise_iff_getElem.1 hs i j (by omega) hj' hij
  rw[getElem!_pos W.toArray j (by simpa using hj'),getElem!_pos W.toArray i (by simp;omega)]
  simpa using this
 refine⟨cpn_lt ltS_swo ltS_tot h W.length (by simp),fun x=>?_⟩
 rw[mem_cpn W.length (by simp)]
 simp
theorem srtS_pw (l:List (List UInt8)):(srtS l).Pairwise (fun x y=>ltS y x=false):=by
 unfold srtS
 refine(List.pairwise_mergeSort (le:=fun x y:List UInt8=>decide (x≤y)) (fun a b c h1 h2=>by simp only[decide_eq_true_eq]at *;exact List.le_trans h1 h2) (fun a b=>by simp only[Bool.or_eq_true,decide_eq_true_eq];exact List.le_total a b) l).imp fun{x y} h=>?_
 rw[ltS_eq]
 exact decide_eq_false (List.not_lt.2 (of_decide_eq_true h))
theorem twice_iff {V:List (List UInt8)}:(cpn (srtS V).toArray (srtS V).length).length<V.length↔¬V.Nodup:=by
 obtain⟨q1,q2⟩:=inc_cpnS (srtS_pw V)
 have hm:∀x,x∈srtS V↔x∈V:=fun x=>by unfold srtS;exact List.mem_mergeSort
 have hn:(cpn (srtS V).toArray (srtS V).length).Nodup:=q1.imp fun{x y} h=>by rintro rfl;rw[ltS_swo.irrefl]at h;cases h
 constructor
 ·intro h hV
  have:=nodup_le hV (W:=cpn (srtS V).toArray (srtS V).length) fun x hx=>(q2 x).2 ((hm x).2 hx)
  omega
 ·intro h
  obtain⟨V',h1,h2⟩:=dup_less h
  have:=nodup_le hn (W:=V') fun x hx=>h2 x ((hm x).1 ((q2 x).1 hx))
  omega
theorem sameLs_refl:∀l:List (List UInt8),sameLs (vs .str l) (vs .str l)=true
 |[]=>rfl
 |x::l=>by
  show(decide (x=x)&&sameLs (vs .str l) (vs .str l))=true
  rw[sameLs_refl l];simp
theorem sameSl {b:Bool} {l:List (List UInt8)}:sameRef (.sl b (vs .str l)) (.sl b (vs .str l))=true:=by
 show(decide (b=b)&&sameLs (vs .str l) (vs .str l))=true
 rw[sameLs_refl l];simp
theorem sameInt {k:IntKind} {x:Int}:sameRef (.int k x) (.int k x)=true:=by
 show(decide (k=k)&&decide (x=x))=true
 simp
set_option maxRecDepth 100000 in
theorem checkP0 {vn an:Bool}:PureP (findFn tab) 16 [(GQ.mk vn [] an []).av] (· =.int .i64 0):=by
 cases vn<;>cases an<;>exact⟨_,⟨60,by kernel_rfl⟩,rfl⟩
theorem checkP {c:GQ} (hq:c.ok):PureP (findFn tab) 16 [c.av] (· =.int .i64 (chkQ c)):=by
 obtain⟨h1,h2,h3,h4,h5,h6⟩:=hq
 have h2':c.vars.length<2^63:=h2
 have h5':c.atoms.length<2^63:=h5
 by_cases hz:c.vars=[]∧c.atoms=[]
 ·obtain⟨vn,V,an,A⟩:=c
  obtain⟨rfl,rfl⟩:V=[]∧A=[]:=hz
  have e:(0:Int)=chkQ ⟨vn,[],an,[]⟩:=chk0 (by simp) (by simp) (by simp) (by simp) (fun i h=>absurd h (by simp))
  rw[← e]
  exact checkP0
 refine pureP_of rfl rfl ?_
 (conv=>whnf);repeat' (first|(refine kA ?_;conv=>whnf)|(refine Br.mk (fun hc=>?_) fun hc=>?_<;>first|exact hc.elim|conv=>whnf)  |(refine kB ?_))
 ·exact congrArg (AV.int .i64) (chk4 (.inl (by omega)))
 ·exact congrArg (AV.int .i64) (chk4 (.inr (by omega)))
 have k0:¬(24<c.vars.length∨12<c.atoms.length):=by omega
 refine loop_inv (fun m env s=>∃(i g:Nat),m=c.atoms.length-i∧i≤c.atoms.length∧env=[(1,.ref 0 0 0 0),(22,.sl c.an (vs GT.av c.atoms)),(23,.int .i64 c.atoms.length),(24,.int .i64 i)]∧s=⟨[.arr 0 2 true true [c.av]],g⟩∧∀a∈c.atoms.take i,FormA a∧RangeA c.vars.length a) ?_ _ _ _ ⟨0,1,rfl,by omega,rfl,rfl,by simp⟩
 rintro _ _ _ ⟨i,g,rfl,hi,rfl,rfl,hx⟩
 refine⟨rfl,?_⟩
 (conv=>whnf);repeat' (first|(refine kA ?_;conv=>whnf)|(refine Br.mk (fun hc=>?_) fun hc=>?_<;>first|exact hc.elim|conv=>whnf)  |(refine kB ?_))
 ·have hi2:i<c.atoms.length:=by omega
  have ho:=h6 _ (List.getElem_mem hi2)
  refine callB (shapeP ho) (fun hf=>?_) (fun hf=>?_)
  ·have hne:c.atoms[i].vars≠[]:=fun e=>by have h1:=hf.1.1;have h2:=hf.1.2.1;rw[e]at h2;exact h1 h2.symm
   (conv=>whnf);repeat' (first|(refine kA ?_;conv=>whnf)|(refine Br.mk (fun hc=>?_) fun hc=>?_<;>first|exact hc.elim|conv=>whnf)|(refine callK_of (maxL ho.2.2.1 hne) ?_;rintro _ ⟨m,rfl,hm,hmx⟩;conv=>whnf)|(refine kB ?_))
   ·exact congrArg (AV.int .i64) (chk1 k0 fun h=>by have:=((h _ (List.getElem_mem hi2)).2 m hm).2;omega)
   ·exact again.mk ⟨_,by omega,i+1,_,rfl,by omega,rfl,rfl,all_succ hi2 hx ⟨hf.1,fun v hv=>⟨hf.2 v hv,by have:=hmx v hv;omega⟩⟩⟩
  ·(conv=>whnf);repeat' (first|(refine kA ?_;conv=>whnf)|(refine Br.mk (fun hc=>?_) fun hc=>?_<;>first|exact hc.elim|conv=>whnf)  |(refine kB ?_))
   exact congrArg (AV.int .i64) (chk1 k0 fun h=>hf ⟨(h _ (List.getElem_mem hi2)).1,fun v hv=>((h _ (List.getElem_mem hi2)).2 v hv).1⟩)
 have k1:=all_end (by omega) hx
 refine callK_of valuesS ?_
 rintro _ rfl
 conv=>whnf
 by_cases hv0:c.vars=[]
 ·exfalso
  have ha:c.atoms≠[]:=fun h=>hz ⟨hv0,h⟩
  obtain⟨x,l,e⟩:=List.exists_cons_of_ne_nil ha
  obtain⟨q1,q2⟩:=k1 x (by rw[e];simp)
  have hn:x.vars≠[]:=fun h=>by have e1:=q1.1;have e2:=q1.2.1;rw[h]at e2;exact e1 e2.symm
  obtain⟨v,r,e3⟩:=List.exists_cons_of_ne_nil hn
  have:=q2 v (by rw[e3];simp)
  rw[hv0,List.length_nil]at this
  omega
 ·have hvn:c.vn=true:=by
   cases h:c.vn with
   |true=>rfl
   |false=>exact absurd (h1 h) hv0
  rw[hvn]
  have hs:(srtS c.vars).length=c.vars.length:=by unfold srtS;simp
  refine ownK rfl (sortedT hv0 (by omega)) ?_
  rw[lV]
  conv=>whnf
  (conv=>whnf);repeat' (first  |(refine kA ?_;conv=>whnf)|(refine Br.mk (fun hc=>?_) fun hc=>?_<;>first|exact hc.elim|conv=>whnf)|(refine kB ?_))
  refine(pscpt (d:=(srtS c.vars).toArray) (by simp) (by omega)).mono ?_
  rintro _ _ ⟨c2,T,rfl,rfl⟩
  conv=>whnf
  apply getK_intro rfl
  (conv=>whnf);repeat' (first|(refine need.mk sameSl ?_;conv=>whnf)|(refine need.mk sameInt ?_;conv=>whnf)|(refine kA ?_;conv=>whnf)|(refine Br.mk (fun hc=>?_) fun hc=>?_<;>first|exact hc.elim|conv=>whnf)|(refine kB ?_))
  ·exact congrArg (AV.int .i64) (chk7 k0 k1 (twice_iff.1 (by omega)))
  have k2:c.vars.Nodup:=Classical.not_not.1 fun h=>by have:=twice_iff.2 h;omega
  refine loop_inv (fun m env s=>∃(i2 gc gu:Nat) (R:Obj) (U:List Bool) (L:List AV),L=bools U∧m=c.atoms.length-i2∧i2≤c.atoms.length∧U.length=c.vars.length∧env=[(6,.own 2 gu 0 c.vars.length),(57,.sl c.an (vs GT.av c.atoms)),(58,.int .i64 c.atoms.length),(59,.int .i64 i2)]∧s=⟨[.arr 0 2 true true [c.av],R,.arr gu 1 true true L],gc⟩∧(∀ a∈c.atoms.take i2,NamedA a)∧∀j (h:j<U.length),U[j]=true↔∃a∈c.atoms.take i2,(j:Int)∈a.vars) ?_ _ _ _ ⟨0,_,_,_,List.replicate c.vars.length false,_,rfl,rfl,by omega,by simp,rfl,rfl,by simp,by simp⟩
  rintro _ _ _ ⟨i2,gc,gu,R,U,_,rfl,rfl,hi2,hU,rfl,rfl,hx2,hu⟩
  refine⟨rfl,?_⟩
  (conv=>whnf);repeat' (first|(refine kA ?_;conv=>whnf)|(refine Br.mk (fun hc=>?_) fun hc=>?_<;>first|exact hc.elim|conv=>whnf)  |(refine kB ?_))
  ·have hi3:i2<c.atoms.length:=by omega
   have ho:=h6 _ (List.getElem_mem hi3)
   refine callB (namedP ho) (fun hf=>?_) (fun hf=>?_)
   ·have hv3:c.atoms[i2].vars.length<2^63:=ho.2.2.1
    (conv=>whnf);repeat' (first|(refine kA ?_;conv=>whnf)|(refine Br.mk (fun hc=>?_) fun hc=>?_<;>first|exact hc.elim|conv=>whnf)  |(refine kB ?_))
    refine loop_inv (fun m env s=>∃(k gc gu:Nat) (X:Obj) (U:List Bool),m=c.atoms[i2].vars.length-k∧k≤c.atoms[i2].vars.length∧U.length=c.vars.length∧env=[(6,.own 2 gu 0 c.vars.length),(57,.sl c.an (vs GT.av c.atoms)),(58,.int .i64 c.atoms.length),(59,.int .i64 i2),(67,.sl c.atoms[i2].vn (vs (.int .i64) c.atoms[i2].vars)),(68,.int .i64 c.atoms[i2].vars.length),(69,.int .i64 k)]∧s=⟨[.arr 0 2 true true [c.av],R,.arr gu 1 true true (bools U),X],gc⟩∧∀j (h:j<U.length),U[j]=true↔(∃ a∈c.atoms.take i2,(j:Int)∈a.vars)∨(j:Int)∈c.atoms[i2].vars.take k) ?_ _ _ _ ⟨0,_,_,_,U,rfl,by omega,hU,rfl,rfl,by simpa using hu⟩
    rintro _ _ _ ⟨k,gc2,gu2,X,U2,rfl,hk,hU2,rfl,rfl,hu2⟩
    have hrk:∀h:k<c.atoms[i2].vars.length,0≤c.atoms[i2].vars[k]∧c.atoms[i2].vars[k]<c.vars.length:=fun h=>(k1 _ (List.getElem_mem hi3)).2 _ (List.getElem_mem h)
    refine⟨rfl,?_⟩
    (conv=>whnf);repeat' (first  |(refine kA ?_;conv=>whnf)|(refine Br.mk (fun hc=>?_) fun hc=>?_<;>first|exact hc.elim|conv=>whnf)|(refine kB ?_))
    ·have hr:=hrk (by omega)
     refine need.mk ⟨rfl,rfl,hr.1,hr.2⟩ ?_
     conv=>whnf
     (conv=>whnf);repeat' (first  |(refine kA ?_;conv=>whnf)|(refine Br.mk (fun hc=>?_) fun hc=>?_<;>first|exact hc.elim|conv=>whnf)|(refine kB ?_))
     have hk3:k<c.atoms[i2].vars.length:=by omega
     refine again.mk ⟨_,by omega,k+1,_,gu2,X,U2.set c.atoms[i2].vars[k].toNat true,rfl,by omega,by simpa using hU2,rfl,rfl,fun j h=>?_⟩
     have h2:j<U2.length:=by simpa using h
     rw[List.getElem_set,List.take_succ_eq_append_getElem hk3,List.mem_append,List.mem_singleton,←or_assoc,←hu2 j h2]
     split
     ·rename_i e
      exact⟨fun _=>.inr (by omega),fun _=>rfl⟩
     ·rename_i e
      exact⟨.inl,fun h=>h.elim id fun e2=>absurd (by rw[← e2];rfl) e⟩
    ·have ek:c.atoms[i2].vars.take k=c.atoms[i2].vars:=List.take_of_length_le (by omega)
     rw[ek]at hu2
     refine again.mk ⟨_,by omega,i2+1,_,gu2,R,U2,_,rfl,rfl,by omega,hU2,rfl,rfl,all_succ hi3 hx2 hf,fun j h=>?_⟩
     rw[hu2 j h,List.take_succ_eq_append_getElem hi3]
     constructor
     ·rintro(⟨a,h1,h2⟩|h2)
      ·exact⟨a,List.mem_append_left _ h1,h2⟩
      ·exact⟨_,List.mem_append_right _ (List.mem_singleton.2 rfl),h2⟩
     ·rintro⟨a,h1,h2⟩
      rcases List.mem_append.1 h1 with h1|h1
      ·exact .inl ⟨a,h1,h2⟩
      ·obtain rfl:=List.mem_singleton.1 h1
       exact .inr h2
   ·(conv=>whnf);repeat' (first|(refine kA ?_;conv=>whnf)|(refine Br.mk (fun hc=>?_) fun hc=>?_<;>first|exact hc.elim|conv=>whnf)  |(refine kB ?_))
    exact congrArg (AV.int .i64) (chk6 k0 k1 k2 fun h=>hf (h _ (List.getElem_mem hi3)))
  have k3:=all_end (by omega) hx2
  have k4:UsedA c.atoms c.vars.length↔¬false∈U:=by
   rw[List.take_of_length_le (by omega)]at hu
   constructor
   ·intro h hm
    obtain⟨j,hj,e⟩:=List.getElem_of_mem hm
    have:=(hu j hj).2 (h j (by omega))
    rw[e]at this;cases this
   ·intro h j hj
    refine(hu j (by omega)).1 ?_
    cases e:U[j]'(by omega)with
    |true=>rfl
    |false=>exact absurd (by rw[← e];exact List.getElem_mem _) h
  (conv=>whnf);repeat' (first  |(refine kA ?_;conv=>whnf)|(refine Br.mk (fun hc=>?_) fun hc=>?_<;>first|exact hc.elim|conv=>whnf)|(refine kB ?_))
  have eU:sub (bools U) 0 c.vars.length=vs AV.bool U:=by
   rw[show bools U=vs AV.bool U from rfl,sub_vs,←hU];simp
  rw[eU]
  refine callB (boolsP (by omega)) (fun hf=>?_) (fun hf=>?_)
  ·(conv=>whnf);repeat' (first  |(refine kA ?_;conv=>whnf)|(refine Br.mk (fun hc=>?_) fun hc=>?_<;>first|exact hc.elim|conv=>whnf)|(refine kB ?_))
   exact congrArg (AV.int .i64) (chk25 k0 k1 k2 k3 fun h=>k4.1 h hf)
  ·(conv=>whnf);repeat' (first  |(refine kA ?_;conv=>whnf)|(refine Br.mk (fun hc=>?_) fun hc=>?_<;>first|exact hc.elim|conv=>whnf)|(refine kB ?_))
   exact congrArg (AV.int .i64) (chk0 k0 k1 k2 k3 (k4.2 hf))
end
theorem same22 {a b:List Int} {na nb:Bool} (ha:a.length<2^63) (hb:b.length<2^63):PureP (findFn tab) 12 [isl na a,isl nb b] (· =.bool (decide (a=b))):=by
 refine pureP_of rfl rfl ?_
 (conv=>whnf);repeat' (first|(refine need.mk ?_ ?_;(· (first|with_reducible rfl|omega|rfl|decide|trivial|exact⟨rfl,rfl,by omega,by omega⟩|exact⟨by omega,by omega,roomy_of (by omega)⟩|(refine ⟨rfl,rfl,?_⟩;first|((first|rw[lI]|rw[lS]|rw[lB]|rw[lV]);omega)|(simp;done)|(simp;omega))|(refine ⟨rfl,?_⟩;first|((first|rw[lI]|rw[lS]|rw[lB]|rw[lV]);omega)|(simp;done)|(simp;omega))|fail));conv=>whnf)|(refine pcase.mk ?_ ?_<;>intro hc<;>(try rw[List.length_nil]at hc)<;>first|(exfalso;omega)|(exact absurd rfl hc)|conv=>whnf)|(apply wrapK_intro;(· exact wrap_i64 (by omega) (by omega));conv=>whnf)|(apply nthK_intro;(· (first|((with_reducible first|refine nIN ?_|refine nI ?_|refine nSN ?_|refine nS ?_|refine nBN ?_|refine nB ?_|refine nYN ?_|refine nY ?_|refine nY0 ?_|refine nVN ?_|refine nV ?_);(first|omega|(simp;omega)))|rfl));conv=>whnf)|(apply getK_intro;(· rfl);conv=>whnf)|(apply eqK_intro;(· (first|(with_reducible first|exact lI _|exact lS _|exact lB _|exact uI|exact uS|exact uIS|exact uSS|exact rIN _ _|exact rI _ _|exact tIN|exact tI|exact tBN|exact tB|exact uB|exact rBN _ _|exact lV _|exact uV|exact uVS)|rfl));conv=>whnf)|((first|apply apI|apply apS);(· first|rfl|(simp;done));(· (first|omega|(simp;omega)));conv=>whnf)|(refine fkI (fun hm=>?_) (fun _ v hm=>?_)<;>conv=>whnf)|(apply msI;conv=>whnf)  |(refine bcase_intro ?_ ?_<;>intro hc<;>conv=>whnf))
 rotate_left
 ·exact bool_f (by rintro rfl;exact hc rfl)
 refine loop_inv (fun m env s=>∃i:Nat,m=a.length-i∧env=[(0,isl na a),(1,isl nb b),(5,.int .i64 i)]∧s=⟨[],0⟩∧a.take i=b.take i) ?_ _ _ _ ⟨0,rfl,rfl,rfl,by simp⟩
 rintro _ _ _ ⟨i,rfl,rfl,rfl,hx⟩
 refine⟨rfl,?_⟩
 (conv=>whnf);repeat' (first|(refine need.mk ?_ ?_;(· (first|with_reducible rfl|omega|rfl|decide|trivial|exact⟨rfl,rfl,by omega,by omega⟩|exact⟨by omega,by omega,roomy_of (by omega)⟩|(refine ⟨rfl,rfl,?_⟩;first|((first|rw[lI]|rw[lS]|rw[lB]|rw[lV]);omega)|(simp;done)|(simp;omega))|(refine ⟨rfl,?_⟩;first|((first|rw[lI]|rw[lS]|rw[lB]|rw[lV]);omega)|(simp;done)|(simp;omega))|fail));conv=>whnf)|(refine pcase.mk ?_ ?_<;>intro hc<;>(try rw[List.length_nil]at hc)<;>first|(exfalso;omega)|(exact absurd rfl hc)|conv=>whnf)|(apply wrapK_intro;(· exact wrap_i64 (by omega) (by omega));conv=>whnf)|(apply nthK_intro;(· (first|((with_reducible first|refine nIN ?_|refine nI ?_|refine nSN ?_|refine nS ?_|refine nBN ?_|refine nB ?_|refine nYN ?_|refine nY ?_|refine nY0 ?_|refine nVN ?_|refine nV ?_);(first|omega|(simp;omega)))|rfl));conv=>whnf)|(apply getK_intro;(· rfl);conv=>whnf)|(apply eqK_intro;(· (first|(with_reducible first|exact lI _|exact lS _|exact lB _|exact uI|exact uS|exact uIS|exact uSS|exact rIN _ _|exact rI _ _|exact tIN|exact tI|exact tBN|exact tB|exact uB|exact rBN _ _|exact lV _|exact uV|exact uVS)|rfl));conv=>whnf)|((first|apply apI|apply apS);(· first|rfl|(simp;done));(· (first|omega|(simp;omega)));conv=>whnf)|(refine fkI (fun hm=>?_) (fun _ v hm=>?_)<;>conv=>whnf)|(apply msI;conv=>whnf)  |(refine bcase_intro ?_ ?_<;>intro hc<;>conv=>whnf))
 ·rename_i h1 h2;exact again.mk ⟨_,by omega,i+1,rfl,rfl,rfl,take_eq_succ (by omega) (by omega) hx hc⟩
 ·exact bool_f (ne_of_get hc)
 ·rename_i h1;exact bool_t (eq_of_take h1 hc hx)
theorem snds_get {E:List (Bool×List Int)} {i:Nat} (h:i<(E.map (·.2)).length):(E.map (·.2))[i]=(E[i]'(by simpa using h)).2:=by simp
def Sm {α:Type} (l:List α):Prop:=l.length<2^63
def SmE (E:List (Bool×List Int)):Prop:=E.length<2^63∧∀p∈E,p.2.length<2^63
theorem SmE.get {E:List (Bool×List Int)} (h:SmE E) {i:Nat} (hi:i<E.length):(E[i]).2.length<2^63:=h.2 _ (List.getElem_mem _)
theorem same11 {a b:List (Bool×List Int)} {na nb:Bool} (ha:SmE a) (hb:SmE b):
 PureP (findFn tab) 13 [.sl na (iss a),.sl nb (iss b)] (· =.bool (decide (a.map (·.2)=b.map (·.2)))):=by
 have ha0:=ha.1
 have hb0:=hb.1
 refine pureP_of rfl rfl ?_
 (conv=>whnf);repeat' (first|(refine need.mk ?_ ?_;(· (first|with_reducible rfl|omega|rfl|decide|trivial|exact⟨rfl,rfl,by omega,by omega⟩|exact⟨by omega,by omega,roomy_of (by omega)⟩|(refine ⟨rfl,rfl,?_⟩;first|((first|rw[lI]|rw[lS]|rw[lB]|rw[lV]);omega)|(simp;done)|(simp;omega))|(refine ⟨rfl,?_⟩;first|((first|rw[lI]|rw[lS]|rw[lB]|rw[lV]);omega)|(simp;done)|(simp;omega))|fail));conv=>whnf)|(refine pcase.mk ?_ ?_<;>intro hc<;>(try rw[List.length_nil]at hc)<;>first|(exfalso;omega)|(exact absurd rfl hc)|conv=>whnf)|(apply wrapK_intro;(· exact wrap_i64 (by omega) (by omega));conv=>whnf)|(apply nthK_intro;(· (first|((with_reducible first|refine nIN ?_|refine nI ?_|refine nSN ?_|refine nS ?_|refine nBN ?_|refine nB ?_|refine nYN ?_|refine nY ?_|refine nY0 ?_|refine nVN ?_|refine nV ?_);(first|omega|(simp;omega)))|rfl));conv=>whnf)|(apply getK_intro;(· rfl);conv=>whnf)|(apply eqK_intro;(· (first|(with_reducible first|exact lI _|exact lS _|exact lB _|exact uI|exact uS|exact uIS|exact uSS|exact rIN _ _|exact rI _ _|exact tIN|exact tI|exact tBN|exact tB|exact uB|exact rBN _ _|exact lV _|exact uV|exact uVS)|rfl));conv=>whnf)|((first|apply apI|apply apS);(· first|rfl|(simp;done));(· (first|omega|(simp;omega)));conv=>whnf)|(refine fkI (fun hm=>?_) (fun _ v hm=>?_)<;>conv=>whnf)|(apply msI;conv=>whnf)  |(refine bcase_intro ?_ ?_<;>intro hc<;>conv=>whnf))
 rotate_left
 ·exact bool_f (by intro h;have:=congrArg List.length h;simp at this;omega)
 refine loop_inv (fun m env s=>∃i:Nat,m=a.length-i∧env=[(0,.sl na (iss a)),(1,.sl nb (iss b)),(5,.int .i64 i)]∧s=⟨[],0⟩∧(a.map (·.2)).take i=(b.map (·.2)).take i) ?_ _ _ _ ⟨0,rfl,rfl,rfl,by simp⟩
 rintro _ _ _ ⟨i,rfl,rfl,rfl,hx⟩
 refine⟨rfl,?_⟩
 (conv=>whnf);repeat' (first|(refine need.mk ?_ ?_;(· (first|with_reducible rfl|omega|rfl|decide|trivial|exact⟨rfl,rfl,by omega,by omega⟩|exact⟨by omega,by omega,roomy_of (by omega)⟩|(refine ⟨rfl,rfl,?_⟩;first|((first|rw[lI]|rw[lS]|rw[lB]|rw[lV]);omega)|(simp;done)|(simp;omega))|(refine ⟨rfl,?_⟩;first|((first|rw[lI]|rw[lS]|rw[lB]|rw[lV]);omega)|(simp;done)|(simp;omega))|fail));conv=>whnf)|(refine pcase.mk ?_ ?_<;>intro hc<;>(try rw[List.length_nil]at hc)<;>first|(exfalso;omega)|(exact absurd rfl hc)|conv=>whnf)|(apply wrapK_intro;(· exact wrap_i64 (by omega) (by omega));conv=>whnf)|(apply nthK_intro;(· (first|((with_reducible first|refine nIN ?_|refine nI ?_|refine nSN ?_|refine nS ?_|refine nBN ?_|refine nB ?_|refine nYN ?_|refine nY ?_|refine nY0 ?_|refine nVN ?_|refine nV ?_);(first|omega|(simp;omega)))|rfl));conv=>whnf)|(apply getK_intro;(· rfl);conv=>whnf)|(apply eqK_intro;(· (first|(with_reducible first|exact lI _|exact lS _|exact lB _|exact uI|exact uS|exact uIS|exact uSS|exact rIN _ _|exact rI _ _|exact tIN|exact tI|exact tBN|exact tB|exact uB|exact rBN _ _|exact lV _|exact uV|exact uVS)|rfl));conv=>whnf)|((first|apply apI|apply apS);(· first|rfl|(simp;done));(· (first|omega|(simp;omega)));conv=>whnf)|(refine fkI (fun hm=>?_) (fun _ v hm=>?_)<;>conv=>whnf)|(apply msI;conv=>whnf)|(refine callB (same22 (ha.get (by omega)) (hb.get (by omega))) (fun hc=>?_) (fun hc=>?_)<;>conv=>whnf)|(refine bcase_intro ?_ ?_<;>intro hc<;>conv=>whnf))
 ·exact again.mk ⟨_,by omega,i+1,rfl,rfl,rfl,take_eq_succ (by simp;omega) (by simp;omega) hx (by simpa using hc)⟩
 ·refine bool_f (fun h=>hc ?_)
  rw[← snds_get (by simp;omega),←snds_get (by simp;omega)]
  exact List.getElem_of_eq h _
 ·rename_i h1;exact bool_t (eq_of_take (by simpa using h1) (by simpa using hc) hx)
end AI
end Go.Proofs.YtlbjddhbkhgceaaGreatDoor
