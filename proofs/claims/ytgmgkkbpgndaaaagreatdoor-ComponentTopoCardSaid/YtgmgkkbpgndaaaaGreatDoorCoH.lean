/- The law ComponentTopo, about the evaluator. -/
import Derived.Test.YtgmgkkbpgndaaaaGreatDoorMai
set_option linter.unusedVariables false
set_option maxRecDepth 4000
namespace Go.Proofs.YtgmgkkbpgndaaaaGreatDoor
namespace AI
theorem smallC {g:GG} (hg:g.ok):PureP (findFn tab) 11 [g.av] (fun v=>∃b,v=.bool b∧(b=true→g.nodes.length≤20∧g.edges.length≤40)):=by
 obtain⟨_,⟨b,rfl,hb⟩,p⟩:=(small hg (n:=20) (e:=40)).det
 refine pureP_of rfl rfl ?_
 (conv=>whnf);repeat' (first|(refine callK_of p ?_;rintro _ rfl;conv=>whnf)|(refine kA ?_;conv=>whnf)|(refine Br.mk (fun hc=>?_) fun hc=>?_<;>first|exact hc.elim|conv=>whnf)|(refine kB ?_))
 all_goals first
  |(refine ⟨true,rfl,fun h=>?_⟩;have:=hb (by assumption);unfold SmG at this;omega)
  |exact⟨false,rfl,fun h=>by cases h⟩
  | (trace_state; fail "smallC")
theorem sameI {l m:List Int} {b1 b2:Bool} (hl:l.length<2^40) (hm:m.length<2^40):PureP (findFn tab) 16 [.sl b1 (vs (.int .i64) l),.sl b2 (vs (.int .i64) m)] (· =.bool (decide (l=m))):=by
 by_cases hlen:l.length=m.length
 ·refine pureP_of rfl rfl ?_
  (conv=>whnf);repeat' (first  |(refine kA ?_;conv=>whnf)|(refine Br.mk (fun hc=>?_) fun hc=>?_<;>first|exact hc.elim|conv=>whnf)|(refine kB ?_))
  all_goals first|(exfalso;omega)|skip
  refine loop_inv (fun z env s=>∃(i:Nat),z=l.length-i∧l.take i=m.take i∧env=[(0,.sl b1 (vs (.int .i64) l)),(1,.sl b2 (vs (.int .i64) m)),(5,.int .i64 i)]∧s=⟨[],0⟩) ?_ _ _ _ ⟨0,rfl,rfl,rfl,rfl⟩
  rintro _ _ _ ⟨i,rfl,hx,rfl,rfl⟩
  refine⟨rfl,?_⟩
  by_cases hlt:i<l.length
  ·by_cases he:l[i]=m[i]'(by omega)
   ·(conv=>whnf);repeat' (first  |(refine kA ?_;conv=>whnf)|(refine Br.mk (fun hc=>?_) fun hc=>?_<;>first|exact hc.elim|conv=>whnf)|(refine kB ?_))
    all_goals first
     |(exfalso;omega)
     |exact again.mk ⟨_,by omega,i+1,rfl,by rw[List.take_succ_eq_append_getElem hlt,List.take_succ_eq_append_getElem (by omega),hx,he],rfl,rfl⟩
     | (trace_state; fail "sameI1")
   ·have hno:¬l=m:=fun e=>he (by subst e;rfl)
    (conv=>whnf);repeat' (first  |(refine kA ?_;conv=>whnf)|(refine Br.mk (fun hc=>?_) fun hc=>?_<;>first|exact hc.elim|conv=>whnf)|(refine kB ?_))
    all_goals first
     |(exfalso;omega)
     |exact bool_f hno
     | (trace_state; fail "sameI2")
  ·have hyes:l=m:=by rw[List.take_of_length_le (by omega),List.take_of_length_le (by omega)]at hx;exact hx
   (conv=>whnf);repeat' (first  |(refine kA ?_;conv=>whnf)|(refine Br.mk (fun hc=>?_) fun hc=>?_<;>first|exact hc.elim|conv=>whnf)|(refine kB ?_))
   all_goals first
        |(exfalso;omega)
        |exact bool_t hyes
        | (trace_state; fail "sameI3")
 ·have hno:¬l=m:=fun e=>hlen (by rw[e])
  refine pureP_of rfl rfl ?_
  (conv=>whnf);repeat' (first  |(refine kA ?_;conv=>whnf)|(refine Br.mk (fun hc=>?_) fun hc=>?_<;>first|exact hc.elim|conv=>whnf)|(refine kB ?_))
  all_goals first | (exfalso; omega) | exact bool_f hno | (trace_state; fail "sameI4")
theorem topoN_len {ids:List Int} {es:List (Int×Int)} {l:List Int} (h:topoB ids es=some l):l.length=ids.length:=by
 obtain⟨m,rfl,hm⟩:=topoN_mono _ _ _ h
 simpa using hm
theorem like_strsC {a:AV} (h:Like Tryz.prog 31 a):∃nn l,a=.sl nn (vs .str l)∧l.length<2^63:=by
 obtain⟨d,h⟩:=h
 obtain⟨nn,l,e,_,h2,_⟩:=like_map (f:=AV.str) (Q:=Ln) Tryz.underlying31 (fun d x h=>by
  obtain⟨k,e1,h1⟩:=like_string Tryz.underlying9 h
  exact⟨k,e1,ln_of h1⟩) h
 exact⟨nn,l,e,ln_of h2⟩
set_option maxHeartbeats 2000000 in
theorem law_topo:∀xs,likes Tryz.prog [30,31] xs→Calls1 (findFn tab) 5 xs ⟨[],0⟩ fun out _=>out=.ok (.bool true):=by
 intro xs h
 match xs,h with
 |[x,y],h=>
  obtain⟨h1,h2,_⟩:=h
  obtain⟨g,rfl,hg⟩:=like_graph h1
  obtain⟨tn,types,rfl,hl⟩:=like_strsC h2
  obtain⟨_,⟨b,rfl,hb⟩,p0⟩:=(smallC hg).det
  refine calls1_of rfl rfl ?_
  cases b with
  |false=>
   (conv=>whnf);repeat' (first|(refine callK_of livesO ?_;rintro _ rfl;conv=>whnf)|(refine callK_of p0 ?_;rintro _ rfl;conv=>whnf)|(refine kA ?_;conv=>whnf)|(refine Br.mk (fun hc=>?_) fun hc=>?_<;>first|exact hc.elim|conv=>whnf)|(refine kB ?_))
   all_goals first | rfl | (trace_state; fail "lt1")
  |true=>
   obtain⟨hN,hE⟩:=hb rfl
   obtain⟨_,v1,p1⟩:=(topoP (types:=types) (tn:=tn) hl hg (by omega) (by omega)).det
   obtain⟨_,v2,p2⟩:=(topoR (types:=types) (tn:=tn) hl hg (by omega) (by omega)).det
   cases hT:(if checkE g=0 then topoB (idsG g) (endT types g)else none)with
   |none=>
    rw[hT]at v1 v2
    cases v1
    cases v2
    have p3:=sameI (l:=[]) (m:=[]) (b1:=false) (b2:=false) (by simp) (by simp)
    rw[decide_eq_true rfl]at p3
    (conv=>whnf);repeat' (first|(refine callK_of livesO ?_;rintro _ rfl;conv=>whnf)|(refine callK_of p0 ?_;rintro _ rfl;conv=>whnf)|(refine callK_of p1 ?_;rintro _ rfl;conv=>whnf)|(refine callK_of p2 ?_;rintro _ rfl;conv=>whnf)|(refine callK_of p3 ?_;rintro _ rfl;conv=>whnf)|(refine kA ?_;conv=>whnf)|(refine Br.mk (fun hc=>?_) fun hc=>?_<;>first|exact hc.elim|conv=>whnf)|(refine kB ?_))
    all_goals first | rfl | (trace_state; fail "lt2")
   |some l=>
    have hll:l.length<2^40:=by
     split at hT
     ·have:=topoN_len hT
      rw[idsG_len]at this
      omega
     ·cases hT
    rw[hT]at v1 v2
    obtain⟨b1,rfl⟩:=v1
    obtain⟨b2,rfl⟩:=v2
    have p3:=sameI (l:=l) (m:=l) (b1:=b1) (b2:=b2) hll hll
    rw[decide_eq_true rfl]at p3
    (conv=>whnf);repeat' (first|(refine callK_of livesO ?_;rintro _ rfl;conv=>whnf)|(refine callK_of p0 ?_;rintro _ rfl;conv=>whnf)|(refine callK_of p1 ?_;rintro _ rfl;conv=>whnf)|(refine callK_of p2 ?_;rintro _ rfl;conv=>whnf)|(refine callK_of p3 ?_;rintro _ rfl;conv=>whnf)|(refine kA ?_;conv=>whnf)|(refine Br.mk (fun hc=>?_) fun hc=>?_<;>first|exact hc.elim|conv=>whnf)|(refine kB ?_))
    all_goals first | rfl | (trace_state; fail "lt3")
end AI
end Go.Proofs.YtgmgkkbpgndaaaaGreatDoor
