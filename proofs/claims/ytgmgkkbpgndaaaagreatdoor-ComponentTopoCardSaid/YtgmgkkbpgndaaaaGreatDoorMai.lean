/- The reference's Check of a graph. The reference's Weak. The reference's Topo. The worked example of the component laws. The law ComponentJoins, about the evaluator. The budget of a graph; names and types; entries. Small graphs, few strings. -/
import Derived.Test.YtgmgkkbpgndaaaaGreatDoorMah
import Derived.Test.YtgmgkkbpgndaaaaGreatDoorMag
import Derived.Test.YtgmgkkbpgndaaaaGreatDoorGrCode
import Derived.Test.YtgmgkkbpgndaaaaGreatDoorVa
import Derived.Test.YtgmgkkbpgndaaaaGreatDoorMaf
import Derived.Test.YtgmgkkbpgndaaaaGreatDoorMae
set_option linter.unusedVariables false
set_option maxRecDepth 4000
namespace Go.Proofs.YtgmgkkbpgndaaaaGreatDoor
namespace AI
theorem nodeF {g:GG} (hl:g.nodes.length<2^62) {id:Int}:PureP (findFn tab) 66 [g.av,.int .i64 id] (fun v=>∃n:GN,v=.tup [n.av,.bool (decide (id∈nids g.nodes))]):=by
 refine pureP_of rfl rfl ?_
 (conv=>whnf);repeat' (first|(refine kA ?_;conv=>whnf)|(refine Br.mk (fun hc=>?_) fun hc=>?_<;>first|exact hc.elim|conv=>whnf)  |(refine kB ?_))
 refine loop_inv (fun m env s=>∃i:Nat,m=g.nodes.length-i∧id∉nids (g.nodes.take i)∧env=[(1,.int .i64 id),(2,.ref 0 0 0 0),(4,.ref 1 1 0 0),(6,.int .i64 i)]∧s=⟨[.arr 0 4 true true [g.av],.arr 1 3 true true [.agg [.int .i64 0,.sl false [],.sl false []]]],2⟩) ?_ _ _ _ ⟨0,rfl,by simp[nids],rfl,rfl⟩
 rintro _ _ _ ⟨i,rfl,hx,rfl,rfl⟩
 refine⟨rfl,?_⟩
 (conv=>whnf);repeat' (first|(refine kA ?_;conv=>whnf)|(refine Br.mk (fun hc=>?_) fun hc=>?_<;>first|exact hc.elim|conv=>whnf)  |(refine kB ?_))
 ·refine⟨g.nodes[i],?_⟩
  have:id∈nids g.nodes:=hc▸List.mem_map_of_mem (List.getElem_mem _)
  rw[decide_eq_true this];rfl
 ·refine again.mk ⟨_,by omega,i+1,rfl,?_,rfl,rfl⟩
  unfold nids at hx ⊢
  rw[List.take_succ_eq_append_getElem (by omega),List.map_append,List.mem_append]
  rintro(h|h)
  ·exact hx h
  ·simp at h;exact hc h.symm
 ·rw[take_all hc]at hx
  refine⟨⟨0,false,[],false,[]⟩,?_⟩
  rw[decide_eq_false hx];rfl
theorem nodeC {g:GG} (hg:g.ok) {i:Nat} (hi:i<g.nodes.length):PureP (findFn tab) 56 [g.av,.int .i64 i] (· =.int .i64 (nodeE g.nodes g.nextN i)):=by
 obtain⟨g1,g2,g3,g4,g5,g6,g7,g8⟩:=hg
 unfold Ln at g1 g4
 have hat:=g3 _ (List.getElem_mem hi)
 refine pureP_of rfl rfl ?_
 (conv=>whnf);repeat' (first|(apply nthK_intro;(· exact nVz (i-1) (by omega) (by omega));conv=>whnf)|(refine callK_of (partsR (L:=(g.nodes[i]).labels) (P:=(g.nodes[i]).props) hat.2.1 hat.2.2.2.1 hat.2.2.2.2.1 hat.2.2.2.2.2.2) ?_;rintro _ rfl;conv=>whnf)|(refine kA ?_;conv=>whnf)|(refine Br.mk (fun hc=>?_) fun hc=>?_<;>first|exact hc.elim|conv=>whnf)|(refine kB ?_))
 all_goals first
  |(rw [nodeP hi (fun h=>by first|assumption|omega) (by omega)];rfl)
  |(rw [node26 hi (by omega) (by assumption)];rfl)
  |(rw [node1 hi (fun h=>by first|assumption|omega) (by omega)];rfl)
set_option maxHeartbeats 1000000 in
theorem edgeC {g:GG} (hg:g.ok) (hf:g.nodes.length<2^62) {i:Nat} (hi:i<g.edges.length):PureP (findFn tab) 57 [g.av,.int .i64 i] (· =.int .i64 (edgeE g.nodes g.edges g.nextE i)):=by
 obtain⟨g1,g2,g3,g4,g5,g6,g7,g8⟩:=hg
 unfold Ln at g1 g4
 have hat:=g6 _ (List.getElem_mem hi)
 refine pureP_of rfl rfl ?_
 (conv=>whnf);repeat' (first|(apply nthK_intro;(· exact nVz (i-1) (by omega) (by omega));conv=>whnf)|(refine callK_of (nodeF (g:=g) (id:=(g.edges[i]).fr) hf) ?_;rintro _ ⟨n1,rfl⟩;conv=>whnf)|(refine callK_of (nodeF (g:=g) (id:=(g.edges[i]).to) hf) ?_;rintro _ ⟨n2,rfl⟩;conv=>whnf)|(refine callB (name2 (s:=(g.edges[i]).ty) hat.2.2.2.1) (fun hnm=>?_) (fun hnm=>?_)<;>conv=>whnf)|(refine callK_of (partsR (L:=[]) (P:=(g.edges[i]).props) (by decide) (by simp) hat.2.2.2.2.1 hat.2.2.2.2.2.2) ?_;rintro _ rfl;conv=>whnf)|(refine kA ?_;conv=>whnf)|(refine Br.mk (fun hc=>?_) fun hc=>?_<;>first|exact hc.elim|conv=>whnf)|(refine kB ?_))
 all_goals try simp only[decide_eq_true_eq,decide_eq_false_iff_not]at*
 all_goals first
  |(rw [edge26 hi (by omega) (by assumption)];rfl)
  |(rw [edge1 hi (fun h=>by first|assumption|omega) (by omega)];rfl)
  |(rw [edgeP hi (fun h=>by first|assumption|omega) (by omega) ⟨by assumption,by assumption⟩ hnm];rfl)
  |(rw [edge6 hi (fun h=>by first|assumption|omega) (by omega) ⟨by assumption,by assumption⟩ hnm];rfl)
  |(rw [edge10 hi (fun h=>by first|assumption|omega) (by omega) (fun h=>by first|exact absurd h.1 (by assumption)|exact absurd h.2 (by assumption))];rfl)
theorem checkR {g:GG} (hg:g.ok):PureP (findFn tab) 34 [g.av] (· =.int .i64 (checkE g)):=by
 have hg0:=hg
 obtain⟨g1,g2,g3,g4,g5,g6,g7,g8⟩:=hg
 unfold Ln at g1 g4
 refine pureP_of rfl rfl ?_
 (conv=>whnf);repeat' (first|(refine kA ?_;conv=>whnf)|(refine Br.mk (fun hc=>?_) fun hc=>?_<;>first|exact hc.elim|conv=>whnf)  |(refine kB ?_))
 all_goals first|exact check4 (by unfold fitsG;omega)|exact check1 (by unfold fitsG;omega) (by unfold nextG;omega)|skip
 have hf:fitsG g:=by unfold fitsG;omega
 have hnx:nextG g:=by unfold nextG;omega
 have hf1:=hf.1
 have hf2:=hf.2
 refine loop_inv (fun m env s=>∃i:Nat,m=g.nodes.length-i∧i≤g.nodes.length∧(∀ k,k<i→nodeE g.nodes g.nextN k=0)∧env=[(1,.ref 0 0 0 0),(3,.int .i64 i)]∧s=⟨[.arr 0 4 true true [g.av]],1⟩) ?_ _ _ _ ⟨0,rfl,by omega,fun k h=>absurd h (by omega),rfl,rfl⟩
 rintro _ _ _ ⟨i,rfl,hin,hx,rfl,rfl⟩
 refine⟨rfl,?_⟩
 (conv=>whnf);repeat' (first|(refine callK_of (nodeC hg0 (i:=i) (by omega)) ?_;rintro _ rfl;conv=>whnf)|(refine kA ?_;conv=>whnf)|(refine Br.mk (fun hc=>?_) fun hc=>?_<;>first|exact hc.elim|conv=>whnf)|(refine kB ?_))
 ·exact again.mk ⟨_,by omega,i+1,rfl,by omega,all_lt_succ hx hc,rfl,rfl⟩
 ·exact checkN hf hnx (by omega) hx rfl hc
 have hN:∀k,k<g.nodes.length→nodeE g.nodes g.nextN k=0:=fun k h=>hx k (by omega)
 refine loop_inv (fun m env s=>∃i:Nat,m=g.edges.length-i∧i≤g.edges.length∧(∀ k,k<i→edgeE g.nodes g.edges g.nextE k=0)∧env=[(1,.ref 0 0 0 0),(5,.int .i64 i)]∧s=⟨[.arr 0 4 true true [g.av]],1⟩) ?_ _ _ _ ⟨0,rfl,by omega,fun k h=>absurd h (by omega),rfl,rfl⟩
 rintro _ _ _ ⟨j,rfl,hjn,hy,rfl,rfl⟩
 refine⟨rfl,?_⟩
 (conv=>whnf);repeat' (first|(refine callK_of (edgeC hg0 (i:=j) (by omega) (by omega)) ?_;rintro _ rfl;conv=>whnf)|(refine kA ?_;conv=>whnf)|(refine Br.mk (fun hc=>?_) fun hc=>?_<;>first|exact hc.elim|conv=>whnf)|(refine kB ?_))
 ·exact again.mk ⟨_,by omega,j+1,rfl,by omega,all_lt_succ hy hc,rfl,rfl⟩
 ·exact checkEd hf hnx hN (by omega) hy rfl hc
 ·exact check0 hf hnx hN fun k h=>hy k (by omega)
theorem weakB_len (ids:List Int) (es:List (Int×Int)):(weakB ids es).length=ids.length:=by
 unfold weakB
 suffices h:∀(es:List (Int×Int)) (l:List (Int×Int)),(es.foldl (fun l e=>joinB l e.1 e.2) l).length=l.length by rw[h];simp
 intro es
 induction es with
 |nil=>intro l;rfl
 |cons e es ih=>
  intro l
  rw[List.foldl_cons,ih]
  unfold joinB
  split<;>simp
def endI (types:List (List UInt8)) (g:GG) (i:Nat):List (Int×Int):=((g.edges.take i).filter fun e=>decide (HT types e)).map fun e=>(e.fr,e.to)
theorem endI_all {types:List (List UInt8)} {g:GG} {i:Nat} (h:¬i<g.edges.length):endI types g i=endT types g:=by
 unfold endI endT edgT
 rw[List.take_of_length_le (by omega)]
theorem endI_in {types:List (List UInt8)} {g:GG} {i:Nat} (h:i<g.edges.length) (he:HT types g.edges[i]):endI types g (i+1)=endI types g i++[((g.edges[i]).fr,(g.edges[i]).to)]:=by
 unfold endI
 rw[List.take_succ_eq_append_getElem h,List.filter_append,List.map_append]
 simp[he]
theorem endI_out {types:List (List UInt8)} {g:GG} {i:Nat} (h:i<g.edges.length) (he:¬HT types g.edges[i]):endI types g (i+1)=endI types g i:=by
 unfold endI
 rw[List.take_succ_eq_append_getElem h,List.filter_append,List.map_append]
 simp[he]
set_option maxHeartbeats 2000000 in
theorem weakR {types:List (List UInt8)} {tn:Bool} (hl:types.length<2^63) {g:GG} (hg:g.ok) (hN:g.nodes.length<2^39) (hE:g.edges.length<2^39):
 PureP (findFn tab) 28 [g.av,.sl tn (vs .str types)] (fun v=>∃b,v=.sl b (vs pv (if checkE g=0 then weakG types g else[]))):=by
 have pc:=checkR hg
 by_cases hc:checkE g=0
 case neg=>
  rw[if_neg hc]
  refine pureP_of rfl rfl ?_
  (conv=>whnf);repeat' (first|(refine callK_of pc ?_;rintro _ rfl;conv=>whnf)|(refine kA ?_;conv=>whnf)|(refine Br.mk (fun hc=>?_) fun hc=>?_<;>first|exact hc.elim|conv=>whnf)|(refine kB ?_))
  all_goals first | exact absurd ‹_› hc | exact ⟨false, rfl⟩ | (trace_state; fail "weakR0")
 rw[if_pos hc]
 rw[hc]at pc
 refine pureP_of rfl rfl ?_
 (conv=>whnf);repeat' (first|(refine callK_of pc ?_;rintro _ rfl;conv=>whnf)|(refine kA ?_;conv=>whnf)|(refine Br.mk (fun hc=>?_) fun hc=>?_<;>first|exact hc.elim|conv=>whnf)|(refine kB ?_))
 all_goals first|(exfalso;omega)|skip
 refine loop_inv (fun m env s=>∃(i c ga n:Nat) (b:Bool),m=g.nodes.length-i∧i≤g.nodes.length∧n=i∧env=[(1,.sl tn (vs .str types)),(2,.ref 0 0 0 0),(5,.own 1 ga 0 n),(6,.int .i64 i)]∧s=⟨[.arr 0 4 true true [g.av],.arr ga 2 b true (vs pv ((weakB (idsG g) []).take i))],c⟩) ?_ _ _ _ ⟨0,_,_,_,_,rfl,by omega,rfl,rfl,rfl⟩
 rintro _ _ _ ⟨i,c,ga,n,b,rfl,hi,rfl,rfl,rfl⟩
 refine⟨rfl,?_⟩
 have hLl:(weakB (idsG g) []).length=g.nodes.length:=by rw[weakB_len,idsG_len]
 by_cases hlt:n<g.nodes.length
 ·have hsn:(weakB (idsG g) []).take (n+1)=(weakB (idsG g) []).take n++[((g.nodes[n]).id,(g.nodes[n]).id)]:=by
   rw[List.take_succ_eq_append_getElem (by omega)]
   simp[weakB,idsG]
  have htl:((weakB (idsG g) []).take n).length=n:=by rw[List.length_take];omega
  (conv=>whnf);repeat' (first|(refine apV1 (f:=pv) (l:=(weakB (idsG g) []).take n) (x:=((g.nodes[n]).id,(g.nodes[n]).id)) cellsPv htl.symm (by rw[htl];omega) ?_;conv=>whnf)|(refine kA ?_;conv=>whnf)|(refine Br.mk (fun hc=>?_) fun hc=>?_<;>first|exact hc.elim|conv=>whnf)|(refine kB ?_))
  all_goals first
   |(exfalso;omega)
   |(rw [← hsn];exact again.mk ⟨_,by omega,n+1,_,_,_,_,rfl,by omega,by omega,rfl,rfl⟩)
   | (trace_state; fail "weakR1")
 rw[List.take_of_length_le (by omega)]
 (conv=>whnf);repeat' (first|(refine kQ ⟨sub0 hLl.symm⟩ ?_;conv=>whnf)|(refine kQ ⟨sub0 (show n=_ by omega)⟩ ?_;conv=>whnf)|(refine kA ?_;conv=>whnf)|(refine Br.mk (fun hc=>?_) fun hc=>?_<;>first|exact hc.elim|conv=>whnf)|(refine kB ?_))
 all_goals first|(exfalso;omega)|skip
 refine loop_inv (fun m env s=>∃(i c:Nat) (b:Bool),m=g.edges.length-i∧env=[(1,.sl tn (vs .str types)),(2,.ref 0 0 0 0),(5,.sl b (vs pv (weakB (idsG g) (endI types g i)))),(7,.int .i64 i)]∧s=⟨[.arr 0 4 true true [g.av],.dead],c⟩) ?_ _ _ _ ⟨0,_,_,rfl,rfl,rfl⟩
 clear hc hlt hi
 rintro _ _ _ ⟨i,c,b,rfl,rfl,rfl⟩
 refine⟨rfl,?_⟩
 by_cases hlt:i<g.edges.length
 ·have ph:=hasType2 (l:=types) (e:=g.edges[i]) (nn:=tn) (by omega)
  by_cases he:HT types g.edges[i]
  ·rw[decide_eq_true he]at ph
   obtain⟨_,⟨b',rfl⟩,pj⟩:=(joinR (l:=weakB (idsG g) (endI types g i)) (a:=(g.edges[i]).fr) (b:=(g.edges[i]).to) (nn:=b) (by rw[weakB_len,idsG_len];omega)).det
   rw[show joinB (weakB (idsG g) (endI types g i)) (g.edges[i]).fr (g.edges[i]).to=weakB (idsG g) (endI types g (i+1)) by rw[endI_in hlt he,weakB_snoc]]at pj
   (conv=>whnf);repeat' (first|(refine callK_of ph ?_;rintro _ rfl;conv=>whnf)|(refine callK_of pj ?_;rintro _ rfl;conv=>whnf)|(refine kA ?_;conv=>whnf)|(refine Br.mk (fun hc=>?_) fun hc=>?_<;>first|exact hc.elim|conv=>whnf)|(refine kB ?_))
   all_goals first
        |(exfalso;omega)
        |exact again.mk ⟨_,by omega,i+1,_,_,rfl,rfl,rfl⟩
        | (trace_state; fail "weakR2")
  ·rw[decide_eq_false he]at ph
   (conv=>whnf);repeat' (first|(refine callK_of ph ?_;rintro _ rfl;conv=>whnf)|(refine kA ?_;conv=>whnf)|(refine Br.mk (fun hc=>?_) fun hc=>?_<;>first|exact hc.elim|conv=>whnf)|(refine kB ?_))
   all_goals first
        |(exfalso;omega)
        |(rw [← endI_out hlt he];exact again.mk ⟨_,by omega,i+1,_,_,rfl,rfl,rfl⟩)
        | (trace_state; fail "weakR3")
 ·rw[endI_all hlt]
  (conv=>whnf);repeat' (first  |(refine kA ?_;conv=>whnf)|(refine Br.mk (fun hc=>?_) fun hc=>?_<;>first|exact hc.elim|conv=>whnf)|(refine kB ?_))
  all_goals first
   |(exfalso;omega)
   |exact⟨b,rfl⟩
   | (trace_state; fail "weakR4")
theorem mem_snocI {l:List Int} {x:Int} {i:Nat} (h:x∉l.take i) (hi:i<l.length) (hx:¬l[i]=x):x∉l.take (i+1):=by
 rw[List.take_succ_eq_append_getElem hi,List.mem_append,List.mem_singleton]
 rintro(k|k)
 ·exact h k
 ·exact hx k.symm
theorem hasV {l:List Int} {x:Int} {nn:Bool} (hl:l.length<2^62):PureP (findFn tab) 35 [.sl nn (vs (.int .i64) l),.int .i64 x] (· =.bool (decide (x∈l))):=by
 refine pureP_of rfl rfl ?_
 (conv=>whnf);repeat' (first  |(refine kA ?_;conv=>whnf)|(refine Br.mk (fun hc=>?_) fun hc=>?_<;>first|exact hc.elim|conv=>whnf)|(refine kB ?_))
 refine loop_inv (fun m env s=>∃i:Nat,m=l.length-i∧env=[(0,.sl nn (vs (.int .i64) l)),(1,.int .i64 x),(5,.int .i64 i)]∧s=⟨[],0⟩∧x∉l.take i) ?_ _ _ _ ⟨0,rfl,rfl,rfl,by simp⟩
 rintro _ _ _ ⟨i,rfl,rfl,rfl,hx⟩
 refine⟨rfl,?_⟩
 by_cases hlt:i<l.length
 ·by_cases he:l[i]=x
  ·have hy:x∈l:=by rw[← he];exact List.getElem_mem _
   (conv=>whnf);repeat' (first  |(refine kA ?_;conv=>whnf)|(refine Br.mk (fun hc=>?_) fun hc=>?_<;>first|exact hc.elim|conv=>whnf)|(refine kB ?_))
   all_goals first | (exfalso; omega) | exact bool_t hy | (trace_state; fail "hasV1")
  ·(conv=>whnf);repeat' (first  |(refine kA ?_;conv=>whnf)|(refine Br.mk (fun hc=>?_) fun hc=>?_<;>first|exact hc.elim|conv=>whnf)|(refine kB ?_))
   all_goals first | (exfalso; omega) | exact again.mk ⟨_, by omega, i + 1, rfl, rfl, rfl, mem_snocI hx hlt he⟩ | (trace_state; fail "hasV2")
 ·rw[List.take_of_length_le (by omega)]at hx
  (conv=>whnf);repeat' (first  |(refine kA ?_;conv=>whnf)|(refine Br.mk (fun hc=>?_) fun hc=>?_<;>first|exact hc.elim|conv=>whnf)|(refine kB ?_))
  all_goals first | (exfalso; omega) | exact bool_f hx | (trace_state; fail "hasV3")
theorem ready_at {types:List (List UInt8)} {g:GG} {O:List Int} {k:Int}:readyB (endT types g) O k↔∀e∈g.edges,HT types e→e.to=k→e.fr∈O:=by
 unfold readyB endT edgT
 constructor
 ·intro h e he ht hk
  exact h (e.fr,e.to) (List.mem_map.2 ⟨e,List.mem_filter.2 ⟨he,decide_eq_true ht⟩,rfl⟩) hk
 ·intro h e he hk
  obtain⟨x,hx,rfl⟩:=List.mem_map.1 he
  obtain⟨h1,h2⟩:=List.mem_filter.1 hx
  exact h x h1 (of_decide_eq_true h2) hk
set_option maxHeartbeats 1000000 in
theorem readyR {types:List (List UInt8)} {tn nn:Bool} (hl:types.length<2^63) {g:GG} (hg:g.ok) (hE:g.edges.length<2^62) {O:List Int} (hO:O.length<2^62) {k:Int}:
 PureP (findFn tab) 36 [g.av,.sl tn (vs .str types),.sl nn (vs (.int .i64) O),.int .i64 k] (· =.bool (decide (readyB (endT types g) O k))):=by
 refine pureP_of rfl rfl ?_
 (conv=>whnf);repeat' (first  |(refine kA ?_;conv=>whnf)|(refine Br.mk (fun hc=>?_) fun hc=>?_<;>first|exact hc.elim|conv=>whnf)|(refine kB ?_))
 refine loop_inv (fun m env s=>∃(i c:Nat),m=g.edges.length-i∧(∀ e∈g.edges.take i,HT types e→e.to=k→e.fr∈O)∧env=[(1,.sl tn (vs .str types)),(2,.sl nn (vs (.int .i64) O)),(3,.int .i64 k),(4,.ref 0 0 0 0),(9,.int .i64 i)]∧s=⟨[.arr 0 4 true true [g.av]],c⟩) ?_ _ _ _ ⟨0,_,rfl,by simp,rfl,rfl⟩
 rintro _ _ _ ⟨i,c,rfl,hx,rfl,rfl⟩
 refine⟨rfl,?_⟩
 by_cases hlt:i<g.edges.length
 ·have ph:=hasType2 (l:=types) (e:=g.edges[i]) (nn:=tn) (by omega)
  have pm:=hasV (l:=O) (x:=(g.edges[i]).fr) (nn:=nn) hO
  have snoc:(HT types g.edges[i]→(g.edges[i]).to=k→(g.edges[i]).fr∈O)→∀e∈g.edges.take (i+1),HT types e→e.to=k→e.fr∈O:=fun h e he=>by
   rw[List.take_succ_eq_append_getElem hlt,List.mem_append,List.mem_singleton]at he
   rcases he with he|he
   ·exact hx e he
   ·subst he;exact h
  by_cases h1:HT types g.edges[i]
  ·rw[decide_eq_true h1]at ph
   by_cases h3:(g.edges[i]).fr∈O
   ·rw[decide_eq_true h3]at pm
    (conv=>whnf);repeat' (first|(refine callK_of ph ?_;rintro _ rfl;conv=>whnf)|(refine callK_of pm ?_;rintro _ rfl;conv=>whnf)|(refine kA ?_;conv=>whnf)|(refine Br.mk (fun hc=>?_) fun hc=>?_<;>first|exact hc.elim|conv=>whnf)|(refine kB ?_))
    all_goals first
      |(exfalso;omega)
      |exact again.mk ⟨_,by omega,i+1,_,rfl,snoc (fun _ _=>h3),rfl,rfl⟩
      | (trace_state; fail "readyR1")
   ·rw[decide_eq_false h3]at pm
    by_cases h2:(g.edges[i]).to=k
    ·have hno:¬readyB (endT types g) O k:=fun h=>h3 (ready_at.1 h _ (List.getElem_mem hlt) h1 h2)
     (conv=>whnf);repeat' (first|(refine callK_of ph ?_;rintro _ rfl;conv=>whnf)|(refine callK_of pm ?_;rintro _ rfl;conv=>whnf)|(refine kA ?_;conv=>whnf)|(refine Br.mk (fun hc=>?_) fun hc=>?_<;>first|exact hc.elim|conv=>whnf)|(refine kB ?_))
     all_goals first
       |(exfalso;omega)
       |exact bool_f hno
       | (trace_state; fail "readyR2")
    ·(conv=>whnf);repeat' (first|(refine callK_of ph ?_;rintro _ rfl;conv=>whnf)|(refine callK_of pm ?_;rintro _ rfl;conv=>whnf)|(refine kA ?_;conv=>whnf)|(refine Br.mk (fun hc=>?_) fun hc=>?_<;>first|exact hc.elim|conv=>whnf)|(refine kB ?_))
     all_goals first
       |(exfalso;omega)
       |exact again.mk ⟨_,by omega,i+1,_,rfl,snoc (fun _ h=>absurd h h2),rfl,rfl⟩
       | (trace_state; fail "readyR3")
  ·rw[decide_eq_false h1]at ph
   (conv=>whnf);repeat' (first|(refine callK_of ph ?_;rintro _ rfl;conv=>whnf)|(refine kA ?_;conv=>whnf)|(refine Br.mk (fun hc=>?_) fun hc=>?_<;>first|exact hc.elim|conv=>whnf)|(refine kB ?_))
   all_goals first
        |(exfalso;omega)
        |exact again.mk ⟨_,by omega,i+1,_,rfl,snoc (fun h=>absurd h h1),rfl,rfl⟩
        | (trace_state; fail "readyR4")
 ·have hyes:readyB (endT types g) O k:=ready_at.2 (by rw[List.take_of_length_le (by omega)]at hx;exact hx)
  (conv=>whnf);repeat' (first  |(refine kA ?_;conv=>whnf)|(refine Br.mk (fun hc=>?_) fun hc=>?_<;>first|exact hc.elim|conv=>whnf)|(refine kB ?_))
  all_goals first
   |(exfalso;omega)
   |exact bool_t hyes
   | (trace_state; fail "readyR5")
set_option maxHeartbeats 4000000 in
theorem topoR {types:List (List UInt8)} {tn:Bool} (hl:types.length<2^63) {g:GG} (hg:g.ok) (hN:g.nodes.length<1000) (hE:g.edges.length<1000):
 PureP (findFn tab) 15 [g.av,.sl tn (vs .str types)] (TopV (if checkE g=0 then topoB (idsG g) (endT types g)else none)):=by
 have pc:=checkR hg
 by_cases hc:checkE g=0
 case neg=>
  rw[if_neg hc]
  refine pureP_of rfl rfl ?_
  (conv=>whnf);repeat' (first|(refine callK_of pc ?_;rintro _ rfl;conv=>whnf)|(refine kA ?_;conv=>whnf)|(refine Br.mk (fun hc=>?_) fun hc=>?_<;>first|exact hc.elim|conv=>whnf)|(refine kB ?_))
  all_goals first | exact absurd ‹_› hc | rfl | (trace_state; fail "topoR0")
 rw[if_pos hc]
 rw[hc]at pc
 have hbig:=ids_big hc
 have hil:=idsG_len g
 refine pureP_of rfl rfl ?_
 (conv=>whnf);repeat' (first|(refine callK_of pc ?_;rintro _ rfl;conv=>whnf)|(refine kA ?_;conv=>whnf)|(refine Br.mk (fun hc=>?_) fun hc=>?_<;>first|exact hc.elim|conv=>whnf)|(refine kB ?_))
 all_goals first|(exfalso;omega)|skip
 clear hc
 refine loop_inv (fun m env s=>∃(c ga:Nat) (b:Bool) (O:List Int),m=g.nodes.length-O.length∧O.length≤g.nodes.length∧topoN (idsG g) (endT types g) ((idsG g).length-O.length) O=topoB (idsG g) (endT types g)∧env=[(1,.sl tn (vs .str types)),(2,.ref 0 0 0 0),(6,.own 1 ga 0 O.length),(15,.int .i64 g.nodes.length),(16,.int .i64 O.length)]∧s=⟨[.arr 0 4 true true [g.av],.arr ga 1 b true (vs (.int .i64) O)],c⟩) ?_ _ _ _ ⟨_,_,_,[],rfl,by simp,rfl,rfl,rfl⟩
 rintro _ _ _ ⟨c,ga,b,O,rfl,hOl,hT,rfl,rfl⟩
 refine⟨rfl,?_⟩
 by_cases hlt:O.length<g.nodes.length
 case neg=>
  have hT':topoB (idsG g) (endT types g)=some O:=by
   rw[← hT,show(idsG g).length-O.length=0 by omega];rfl
  rw[hT']
  (conv=>whnf);repeat' (first  |(refine kA ?_;conv=>whnf)|(refine Br.mk (fun hc=>?_) fun hc=>?_<;>first|exact hc.elim|conv=>whnf)|(refine kB ?_))
  all_goals first
   |(exfalso;omega)
   |exact⟨b,rfl⟩
   | (trace_state; fail "topoR1")
 have hOi:O.length<(idsG g).length:=by omega
 have pk:∀i (hi:i<g.nodes.length),PureP (findFn tab) 35 [.sl b (vs (.int .i64) O),.int .i64 (g.nodes[i]).id] (· =.bool (decide ((g.nodes[i]).id∈O))):=fun i hi=>hasV (by omega)
 have pr:∀i (hi:i<g.nodes.length),PureP (findFn tab) 36 [g.av,.sl tn (vs .str types),.sl b (vs (.int .i64) O),.int .i64 (g.nodes[i]).id] (· =.bool (decide (readyB (endT types g) O (g.nodes[i]).id))):=fun i hi=>readyR hl hg (by omega) (by omega)
 cases hf:nextB (idsG g) (endT types g) O with
 |none=>
  have hT':=topo_none hOi hf
  rw[hT]at hT'
  rw[hT']
  have hno:∀i (hi:i<g.nodes.length),¬((g.nodes[i]).id∉O∧readyB (endT types g) O (g.nodes[i]).id):=fun i hi h=>by
   have:=(List.find?_eq_none.1 hf) (g.nodes[i]).id (List.mem_map_of_mem (List.getElem_mem hi))
   exact this (decide_eq_true h)
  (conv=>whnf);repeat' (first  |(refine kA ?_;conv=>whnf)|(refine Br.mk (fun hc=>?_) fun hc=>?_<;>first|exact hc.elim|conv=>whnf)|(refine kB ?_))
  all_goals first|(exfalso;omega)|skip
  refine loop_inv (fun m env s=>∃(i c:Nat),m=g.nodes.length-i∧env=[(1,.sl tn (vs .str types)),(2,.ref 0 0 0 0),(6,.own 1 ga 0 O.length),(7,.int .i64 0),(8,.int .i64 i),(15,.int .i64 g.nodes.length),(16,.int .i64 O.length)]∧s=⟨[.arr 0 4 true true [g.av],.arr ga 1 b true (vs (.int .i64) O)],c⟩) ?_ _ _ _ ⟨0,_,rfl,rfl,rfl⟩
  rintro _ _ _ ⟨i,c,rfl,rfl,rfl⟩
  refine⟨rfl,?_⟩
  by_cases hi:i<g.nodes.length
  ·have p1:=pk i hi
   have p2:=pr i hi
   have h3:=hno i hi
   by_cases h1:(g.nodes[i]).id∈O
   ·rw[decide_eq_true h1]at p1
    (conv=>whnf);repeat' (first|(refine callK_of p1 ?_;rintro _ rfl;conv=>whnf)|(refine kA ?_;conv=>whnf)|(refine Br.mk (fun hc=>?_) fun hc=>?_<;>first|exact hc.elim|conv=>whnf)|(refine kB ?_))
    all_goals first
     |(exfalso;omega)
     |exact again.mk ⟨_,by omega,i+1,_,rfl,rfl,rfl⟩
     | (trace_state; fail "topoR2")
   ·rw[decide_eq_false h1]at p1
    rw[decide_eq_false (fun h=>h3 ⟨h1,h⟩)]at p2
    (conv=>whnf);repeat' (first|(refine callK_of p1 ?_;rintro _ rfl;conv=>whnf)|(refine callK_of p2 ?_;rintro _ rfl;conv=>whnf)|(refine kA ?_;conv=>whnf)|(refine Br.mk (fun hc=>?_) fun hc=>?_<;>first|exact hc.elim|conv=>whnf)|(refine kB ?_))
    all_goals first
     |(exfalso;omega)
     |exact again.mk ⟨_,by omega,i+1,_,rfl,rfl,rfl⟩
     | (trace_state; fail "topoR3")
  ·(conv=>whnf);repeat' (first  |(refine kA ?_;conv=>whnf)|(refine Br.mk (fun hc=>?_) fun hc=>?_<;>first|exact hc.elim|conv=>whnf)|(refine kB ?_))
   all_goals first
        |(exfalso;omega)
        |rfl
        | (trace_state; fail "topoR4")
 |some k=>
  have hT':=topo_step hOi hf
  rw[hT]at hT'
  obtain⟨hk1,hk2,hk3⟩:=nextB_some hf
  have hkb:=hbig k hk1
  obtain⟨_,j,hj,hjk,hjb⟩:=List.find?_eq_some_iff_getElem.1 hf
  have hjn:j<g.nodes.length:=by omega
  rw[idsG_at hjn]at hjk
  have hno:∀i (hi:i<j),¬((g.nodes[i]'(by omega)).id∉O∧readyB (endT types g) O (g.nodes[i]'(by omega)).id):=fun i hi h=>by
   have:=hjb i hi
   rw[idsG_at (by omega)]at this
   rw[decide_eq_true h]at this
   cases this
  clear hjb hf
  (conv=>whnf);repeat' (first  |(refine kA ?_;conv=>whnf)|(refine Br.mk (fun hc=>?_) fun hc=>?_<;>first|exact hc.elim|conv=>whnf)|(refine kB ?_))
  all_goals first|(exfalso;omega)|skip
  refine loop_inv (fun m env s=>∃(i c:Nat) (nx:Int),m=g.nodes.length-i∧(nx=0∧i≤j∨nx=k∧i=j+1)∧env=[(1,.sl tn (vs .str types)),(2,.ref 0 0 0 0),(6,.own 1 ga 0 O.length),(7,.int .i64 nx),(8,.int .i64 i),(15,.int .i64 g.nodes.length),(16,.int .i64 O.length)]∧s=⟨[.arr 0 4 true true [g.av],.arr ga 1 b true (vs (.int .i64) O)],c⟩) ?_ _ _ _ ⟨0,_,0,rfl,.inl ⟨rfl,by omega⟩,rfl,rfl⟩
  rintro _ _ _ ⟨i,c,nx,rfl,hnx,rfl,rfl⟩
  refine⟨rfl,?_⟩
  rcases hnx with⟨rfl,hij⟩|⟨rfl,rfl⟩
  ·have hi:i<g.nodes.length:=by omega
   have p1:=pk i hi
   have p2:=pr i hi
   by_cases hlt2:i<j
   ·have h3:=hno i hlt2
    by_cases h1:(g.nodes[i]).id∈O
    ·rw[decide_eq_true h1]at p1
     (conv=>whnf);repeat' (first|(refine callK_of p1 ?_;rintro _ rfl;conv=>whnf)|(refine kA ?_;conv=>whnf)|(refine Br.mk (fun hc=>?_) fun hc=>?_<;>first|exact hc.elim|conv=>whnf)|(refine kB ?_))
     all_goals first
      |(exfalso;omega)
      |exact again.mk ⟨_,by omega,i+1,_,_,rfl,.inl ⟨rfl,by omega⟩,rfl,rfl⟩
      | (trace_state; fail "topoR5")
    ·rw[decide_eq_false h1]at p1
     rw[decide_eq_false (fun h=>h3 ⟨h1,h⟩)]at p2
     (conv=>whnf);repeat' (first|(refine callK_of p1 ?_;rintro _ rfl;conv=>whnf)|(refine callK_of p2 ?_;rintro _ rfl;conv=>whnf)|(refine kA ?_;conv=>whnf)|(refine Br.mk (fun hc=>?_) fun hc=>?_<;>first|exact hc.elim|conv=>whnf)|(refine kB ?_))
     all_goals first
      |(exfalso;omega)
      |exact again.mk ⟨_,by omega,i+1,_,_,rfl,.inl ⟨rfl,by omega⟩,rfl,rfl⟩
      | (trace_state; fail "topoR6")
   ·obtain rfl:i=j:=by omega
    rw[decide_eq_false (by rw[hjk];exact hk2)]at p1
    rw[decide_eq_true (by rw[hjk];exact hk3)]at p2
    (conv=>whnf);repeat' (first|(refine callK_of p1 ?_;rintro _ rfl;conv=>whnf)|(refine callK_of p2 ?_;rintro _ rfl;conv=>whnf)|(refine kA ?_;conv=>whnf)|(refine Br.mk (fun hc=>?_) fun hc=>?_<;>first|exact hc.elim|conv=>whnf)|(refine kB ?_))
    all_goals first
     |(exfalso;omega)
     |exact again.mk ⟨_,by omega,i+1,_,_,rfl,.inr ⟨hjk,rfl⟩,rfl,rfl⟩
     | (trace_state; fail "topoR7")
  ·(conv=>whnf);repeat' (first|(refine apV1 (f:=AV.int .i64) (l:=O) (x:=nx) (fun _=>rfl) rfl (by omega) ?_;conv=>whnf)|(refine kA ?_;conv=>whnf)|(refine Br.mk (fun hc=>?_) fun hc=>?_<;>first|exact hc.elim|conv=>whnf)|(refine kB ?_))
   all_goals first
        |(exfalso;omega)
        |exact again.mk ⟨_,by simp;omega,_,_,_,O++[nx],rfl,by simp;omega,hT'.symm,by simp,rfl⟩
        | (trace_state; fail "topoR8")
section
open Go
set_option maxRecDepth 100000 in
theorem lives_call:pureCall (run (findFn tab) 60) 7 []=some (.bool true):=by kernel_rfl
end
theorem c_pair:Tryz.prog.cellsOf 59=2:=by kernel_rfl
theorem len2P {l:List AV} (h:l.length=2):∃a b,l=[a,b]:=by
 rcases l with _|⟨a,_|⟨b,_|⟨c,r⟩⟩⟩<;>simp at h
 exact⟨a,b,rfl⟩
theorem like_pair {d:Nat} {a:AV} (h:like Tryz.prog d 59 a):∃p,a=pv p∧(I64 p.1∧I64 p.2):=by
 obtain⟨cs,rfl,h0⟩:=like_struct Tryz.underlying59 h
 obtain⟨d',rfl,g1,g2⟩:=likeC_struct Tryz.underlying59 h0
 rw[c_pair]at g1
 obtain⟨a,b,rfl⟩:=len2P g1
 clear g1
 simp only[List.forall_mem_cons]at g2
 obtain⟨f1,f2,_⟩:=g2
 simp only[c_int,List.drop_zero,List.drop_succ_cons,List.take_succ_cons,List.take_zero]at f1 f2
 obtain⟨s,e1,h1⟩:=likeC_i f1
 obtain⟨n,e2,h2⟩:=likeC_i f2
 cases e1;cases e2
 exact⟨(s,n),rfl,h1,h2⟩
theorem like_pairs {a:AV} (h:Like Tryz.prog 22 a):∃nn l,a=.sl nn (vs pv l)∧Ln l∧(nn=false→l=[])∧∀p∈l,I64 p.1∧I64 p.2:=by
 obtain⟨d,h⟩:=h
 obtain⟨nn,l,e,h1,h2,h3⟩:=like_map (f:=pv) (Q:=fun p=>I64 p.1∧I64 p.2) Tryz.underlying22 (fun d x h=>like_pair h) h
 exact⟨nn,l,e,ln_of h2,h1,h3⟩
theorem like_iZ {d:Nat} {a:AV} (h:like Tryz.prog d 3 a):∃n,a=.int .i64 n∧I64 n:=by
 obtain⟨k,e1,h1⟩:=like_int Tryz.underlying3 h
 exact⟨k,e1,i64_of h1⟩
theorem like_intV {a:AV} (h:Like Tryz.prog 3 a):∃n,a=.int .i64 n∧I64 n:=by
 obtain⟨d,h⟩:=h
 exact like_iZ h
theorem livesO:PureP (findFn tab) 7 [] (· =.bool true):=⟨.bool true,⟨60,lives_call⟩,rfl⟩
theorem joinB_len (l:List (Int×Int)) (a b:Int):(joinB l a b).length=l.length:=by
 unfold joinB
 split<;>simp
theorem law_joins:∀xs,likes Tryz.prog [22,3,3] xs→Calls1 (findFn tab) 3 xs ⟨[],0⟩ fun out _=>out=.ok (.bool true):=by
 intro xs h
 match xs,h with
 |[x,y,z],h=>
  obtain⟨h1,h2,h3,_⟩:=h
  obtain⟨nn,l,rfl,hl,hn,_⟩:=like_pairs h1
  obtain⟨a,rfl,_⟩:=like_intV h2
  obtain⟨b,rfl,_⟩:=like_intV h3
  unfold Ln at hl
  refine calls1_of rfl rfl ?_
  by_cases hc:l.length>100
  ·(conv=>whnf);repeat' (first|(refine callK_of livesO ?_;rintro _ rfl;conv=>whnf)|(refine kA ?_;conv=>whnf)|(refine Br.mk (fun hc=>?_) fun hc=>?_<;>first|exact hc.elim|conv=>whnf)|(refine kB ?_))
   all_goals first | rfl | (exfalso; omega) | (trace_state; fail "lj1")
  ·obtain⟨_,⟨b1,rfl⟩,p1⟩:=(joinP (l:=l) (a:=a) (b:=b) (nn:=nn) (by omega) hn).det
   obtain⟨_,⟨b2,rfl⟩,p2⟩:=(joinR (l:=l) (a:=a) (b:=b) (nn:=nn) (by omega)).det
   have p3:=sameL (l:=joinB l a b) (m:=joinB l a b) (b1:=b1) (b2:=b2) (by rw[joinB_len];omega) (by rw[joinB_len];omega)
   rw[decide_eq_true rfl]at p3
   (conv=>whnf);repeat' (first|(refine callK_of livesO ?_;rintro _ rfl;conv=>whnf)|(refine callK_of p1 ?_;rintro _ rfl;conv=>whnf)|(refine callK_of p2 ?_;rintro _ rfl;conv=>whnf)|(refine callK_of p3 ?_;rintro _ rfl;conv=>whnf)|(refine kA ?_;conv=>whnf)|(refine Br.mk (fun hc=>?_) fun hc=>?_<;>first|exact hc.elim|conv=>whnf)|(refine kB ?_))
   all_goals first | rfl | (exfalso; omega) | (trace_state; fail "lj2")
def Lite:Nat→AV→Prop
 |0,_=>False
 |d+1,a=>∃g:GV,a=g.av∧g.ok∧g.s.length≤101000∧g.l.length≤2000∧∀x∈g.l,Lite d x
theorem wei:∀(d:Nat),d≤12→∀{g:GV} (hg:g.ok) {left:Int} (h1:-184467440737095530≤left) (h2:left≤2000),
 PureP (findFn tab) 62 [g.av,.int .i64 left,.int .i64 d] (fun v=>∃r,v=.int .i64 r∧-368934881474191048≤r∧r≤1999∧(0≤r→r+1≤left∧Lite d g.av)):=by
 intro d
 induction d with
 |zero=>
  intro _ g hg left h1 h2
  obtain⟨g1,g2,g3,g4,g5,g6,g7⟩:=hg
  unfold Ln at g4 g5
  refine pureP_of rfl rfl ?_
  (conv=>whnf);repeat' (first|(refine kA ?_;conv=>whnf)|(refine Br.mk (fun hc=>?_) fun hc=>?_<;>first|exact hc.elim|conv=>whnf)|(refine wrapQ (by omega) ?_;conv=>whnf)|(refine kB ?_))
  all_goals exact⟨_,rfl,by omega,by omega,fun h=>absurd h (by omega)⟩
 |succ d ih=>
  intro hd g hg left h1 h2
  obtain⟨g1,g2,g3,g4,g5,g6,g7⟩:=hg
  unfold Ln at g4 g5
  refine pureP_of rfl rfl ?_
  (conv=>whnf);repeat' (first|(refine kA ?_;conv=>whnf)|(refine Br.mk (fun hc=>?_) fun hc=>?_<;>first|exact hc.elim|conv=>whnf)|(refine wrapQ (by omega) ?_;conv=>whnf)|(refine kB ?_))
  have hw:∀{g:GV} (hg:g.ok) {left:Int} (h1:-184467440737095530≤left) (h2:left≤2000),
        PureP (findFn tab) 62 [g.av,.int .i64 left,.int .i64 (((d+1:Nat):Int)-1)] (fun v=>∃r,v=.int .i64 r∧-368934881474191048≤r∧r≤1999∧(0≤r→r+1≤left∧Lite d g.av)):=by
   rw[show ((d+1:Nat):Int)-1=(d:Int) by omega]
   exact ih (by omega)
  refine loop_inv (fun m env s=>∃(i:Nat) (cur:Int),m=g.l.length-i∧env=[(1,.int .i64 cur),(2,.int .i64 (d+1:Nat)),(3,.ref 0 0 0 0),(7,.int .i64 i)]∧s=⟨[.arr 0 5 true true [g.av]],1⟩∧
   -368934881474191048≤cur∧cur≤1999∧(0≤cur→cur+i+g.s.length / 50+1≤left∧∀x∈g.l.take i,Lite d x)) ?_ _ _ _ ⟨0,_,rfl,rfl,rfl,by omega,by omega,fun h=>⟨by omega,by simp⟩⟩
  rintro _ _ _ ⟨i,cur,rfl,rfl,rfl,b1,b2,hx⟩
  refine⟨rfl,?_⟩
  obtain⟨gx,hgx⟩:=like_at g7 i
  (conv=>whnf);repeat' (first|(refine kA ?_;conv=>whnf)|(refine Br.mk (fun hc=>?_) fun hc=>?_<;>first|exact hc.elim|conv=>whnf)|(apply nthK_intro;(· exact(hgx (by omega)).1);conv=>whnf)|(refine kB ?_))
  ·obtain⟨_,ge,gl⟩:=hgx (by omega)
   refine callK_of (hw gl (by omega) (by omega)) ?_
   rintro _ ⟨r,rfl,r1,r2,r3⟩
   (conv=>whnf);repeat' (first|(refine kA ?_;conv=>whnf)|(refine Br.mk (fun hc=>?_) fun hc=>?_<;>first|exact hc.elim|conv=>whnf)  |(refine kB ?_))
   exact again.mk ⟨_,by omega,i+1,r,rfl,rfl,rfl,by omega,by omega,fun h=>⟨by have:=hx (by omega);have:=r3 h;omega,all_take_succ (by omega) (hx (by omega)).2 (ge▸(r3 h).2)⟩⟩
  ·exact⟨_,rfl,by omega,by omega,fun h=>absurd h (by omega)⟩
  ·refine⟨_,rfl,by omega,by omega,fun h=>?_⟩
   obtain⟨x1,x2⟩:=hx h
   rw[take_all hc]at x2
   exact⟨by omega,g,rfl,⟨g1,g2,g3,g4,g5,g6,g7⟩,by omega,by omega,x2⟩
theorem weigh {ps:List GP} {nn:Bool} (hl:Ln ps) (hp:∀p∈ps,p.ok) {left:Int} (h1:-9223372036854775808≤left) (h2:left≤2000):
 PureP (findFn tab) 43 [.sl nn (vs GP.av ps),.int .i64 left] (fun v=>∃r,v=.int .i64 r∧-9223372036854775808≤r∧r≤2000∧(0≤r→r+ps.length≤left∧∀p∈ps,p.key.length≤101000∧Lite 12 p.v.av)):=by
 unfold Ln at hl
 refine pureP_of rfl rfl ?_
 (conv=>whnf);repeat' (first|(refine kA ?_;conv=>whnf)|(refine Br.mk (fun hc=>?_) fun hc=>?_<;>first|exact hc.elim|conv=>whnf)  |(refine kB ?_))
 refine loop_inv (fun m env s=>∃(i:Nat) (cur:Int),m=ps.length-i∧env=[(0,.sl nn (vs GP.av ps)),(1,.int .i64 cur),(5,.int .i64 i)]∧s=⟨[],0⟩∧
  -9223372036854775808≤cur∧cur≤2000∧(0≤cur→cur+i≤left∧∀p∈ps.take i,p.key.length≤101000∧Lite 12 p.v.av)) ?_ _ _ _ ⟨0,_,rfl,rfl,rfl,by omega,by omega,fun h=>⟨by omega,by simp⟩⟩
 rintro _ _ _ ⟨i,cur,rfl,rfl,rfl,b1,b2,hx⟩
 refine⟨rfl,?_⟩
 have hat:∀(h:i<ps.length),(ps[i]).ok:=fun h=>hp _ (List.getElem_mem _)
 have hk:∀(h:i<ps.length),(ps[i]).key.length<2^63:=fun h=>(hat h).1
 (conv=>whnf);repeat' (first|(refine kA ?_;conv=>whnf)|(refine Br.mk (fun hc=>?_) fun hc=>?_<;>first|exact hc.elim|conv=>whnf)|(refine wrapQ (hk (by omega)) ?_;conv=>whnf)|(have hwr:=hk (by omega);apply wrapK_intro;(· exact wrap_i64 (by omega) (by omega));clear hwr;conv=>whnf)|(refine kB ?_))
 ·refine callK_of (wei 12 (by omega) (hat (by omega)).2 (by have:=hk (by omega);omega) (by omega)) ?_
  rintro _ ⟨r,rfl,r1,r2,r3⟩
  (conv=>whnf);repeat' (first|(refine kA ?_;conv=>whnf)|(refine Br.mk (fun hc=>?_) fun hc=>?_<;>first|exact hc.elim|conv=>whnf)  |(refine kB ?_))
  exact again.mk ⟨_,by omega,i+1,r,rfl,rfl,rfl,by omega,by omega,fun h=>⟨by have:=hx (by omega);have:=r3 h;omega,all_take_succ (by omega) (hx (by omega)).2 ⟨by have:=r3 h;omega,(r3 h).2⟩⟩⟩
 ·exact⟨_,rfl,by omega,by omega,fun h=>absurd h (by omega)⟩
 ·refine⟨_,rfl,by omega,by omega,fun h=>?_⟩
  obtain⟨x1,x2⟩:=hx h
  rw[take_all hc]at x2
  exact⟨by omega,x2⟩
def SmP (ps:List GP):Prop:=ps.length≤2000∧∀p∈ps,p.key.length≤101000∧Lite 12 p.v.av
def SmN (n:GN):Prop:=n.labels.length≤2000∧(∀ s∈n.labels,s.length≤101000)∧SmP n.props
def SmE (e:GE):Prop:=e.ty.length≤101000∧SmP e.props
def SmG (g:GG) (n e:Int):Prop:=g.nodes.length≤n∧g.edges.length≤e∧(∀ n∈g.nodes,SmN n)∧∀e∈g.edges,SmE e
theorem small {g:GG} (hg:g.ok) {n e:Int}:PureP (findFn tab) 25 [g.av,.int .i64 n,.int .i64 e] (fun v=>∃b,v=.bool b∧(b=true→SmG g n e)):=by
 obtain⟨g1,g2,g3,g4,g5,g6,g7,g8⟩:=hg
 unfold Ln at g1 g4
 refine pureP_of rfl rfl ?_
 (conv=>whnf);repeat' (first|(refine kA ?_;conv=>whnf)|(refine Br.mk (fun hc=>?_) fun hc=>?_<;>first|exact hc.elim|conv=>whnf)  |(refine kB ?_))
 ·exact⟨_,rfl,fun h=>by cases h⟩
 ·exact⟨_,rfl,fun h=>by cases h⟩
 refine loop_inv (fun m env s=>∃(i c:Nat) (left:Int),m=g.nodes.length-i∧env=[(3,.ref 0 0 0 0),(7,.int .i64 left),(8,.int .i64 i)]∧s=⟨[.arr 0 4 true true [g.av]],c⟩∧-9223372036854775808≤left∧left≤2000∧(0≤left→∀n∈g.nodes.take i,SmN n)) ?_ _ _ _ ⟨0,1,2000,rfl,rfl,rfl,by omega,by omega,fun _=>by simp⟩
 rintro _ _ _ ⟨i,c,left,rfl,rfl,rfl,b1,b2,hx⟩
 refine⟨rfl,?_⟩
 have hat:∀h:i<g.nodes.length,(g.nodes[i]).ok:=fun h=>g3 _ (List.getElem_mem _)
 have hk:∀h:i<g.nodes.length,(g.nodes[i]).labels.length<2^63:=fun h=>(hat h).2.1
 (conv=>whnf);repeat' (first|(refine kA ?_;conv=>whnf)|(refine Br.mk (fun hc=>?_) fun hc=>?_<;>first|exact hc.elim|conv=>whnf)|(have hwr:=hk (by omega);apply wrapK_intro;(· exact wrap_i64 (by omega) (by omega));clear hwr;conv=>whnf)|(refine kB ?_))
 rotate_left
 ·have hN:0≤left→∀n∈g.nodes,SmN n:=fun h=>absurd h (by omega)
  refine loop_inv (fun m env s=>∃(i c:Nat) (left:Int),m=g.edges.length-i∧env=[(3,.ref 0 0 0 0),(7,.int .i64 left),(11,.int .i64 i)]∧s=⟨[.arr 0 4 true true [g.av]],c⟩∧-9223372036854775808≤left∧left≤2000∧(0≤left→(∀ n∈g.nodes,SmN n)∧∀n∈g.edges.take i,SmE n)) ?_ _ _ _ ⟨0,_,left,rfl,rfl,rfl,by omega,by omega,fun h=>⟨hN h,by simp⟩⟩
  clear hN hx hat hk b1 b2 hc
  rintro _ _ _ ⟨i,c,left,rfl,rfl,rfl,b1,b2,hx⟩
  refine⟨rfl,?_⟩
  have hat:∀h:i<g.edges.length,(g.edges[i]).ok:=fun h=>g6 _ (List.getElem_mem _)
  have hk:∀h:i<g.edges.length,(g.edges[i]).ty.length<2^63:=fun h=>(hat h).2.2.2.1
  (conv=>whnf);repeat' (first|(refine kA ?_;conv=>whnf)|(refine Br.mk (fun hc=>?_) fun hc=>?_<;>first|exact hc.elim|conv=>whnf)|(refine wrapQ (hk (by omega)) ?_;conv=>whnf)|(have hwr:=hk (by omega);apply wrapK_intro;(· exact wrap_i64 (by omega) (by omega));clear hwr;conv=>whnf)|(refine kB ?_))
  ·refine callK_of (weigh (hat (by omega)).2.2.2.2.1 (hat (by omega)).2.2.2.2.2.2 (by have:=hk (by omega);omega) (by omega)) ?_
   rintro _ ⟨r,rfl,r1,r2,r3⟩
   (conv=>whnf);repeat' (first|(refine kA ?_;conv=>whnf)|(refine Br.mk (fun hc=>?_) fun hc=>?_<;>first|exact hc.elim|conv=>whnf)  |(refine kB ?_))
   have hk1:=hk (by omega)
   exact again.mk ⟨_,by omega,i+1,_,r,rfl,rfl,rfl,by omega,by omega,fun h=>⟨(hx (by omega)).1,all_take_succ (by omega) (hx (by omega)).2 ⟨by have:=r3 h;omega,by have:=r3 h;omega,(r3 h).2⟩⟩⟩
  all_goals first
   |exact⟨_,rfl,fun h=>absurd h Bool.false_ne_true⟩
   |(refine ⟨_,rfl,fun h=>?_⟩
     rename_i hc1
     obtain⟨x1,x2⟩:=hx hc
     rw[take_all hc1]at x2
     exact⟨by omega,by omega,x1,x2⟩)
 ·have hN:0≤left→∀n∈g.nodes,SmN n:=by rw[take_all hc]at hx;exact hx
  refine loop_inv (fun m env s=>∃(i c:Nat) (left:Int),m=g.edges.length-i∧env=[(3,.ref 0 0 0 0),(7,.int .i64 left),(11,.int .i64 i)]∧s=⟨[.arr 0 4 true true [g.av]],c⟩∧-9223372036854775808≤left∧left≤2000∧(0≤left→(∀ n∈g.nodes,SmN n)∧∀n∈g.edges.take i,SmE n)) ?_ _ _ _ ⟨0,_,left,rfl,rfl,rfl,by omega,by omega,fun h=>⟨hN h,by simp⟩⟩
  clear hN hx hat hk b1 b2 hc
  rintro _ _ _ ⟨i,c,left,rfl,rfl,rfl,b1,b2,hx⟩
  refine⟨rfl,?_⟩
  have hat:∀h:i<g.edges.length,(g.edges[i]).ok:=fun h=>g6 _ (List.getElem_mem _)
  have hk:∀h:i<g.edges.length,(g.edges[i]).ty.length<2^63:=fun h=>(hat h).2.2.2.1
  (conv=>whnf);repeat' (first|(refine kA ?_;conv=>whnf)|(refine Br.mk (fun hc=>?_) fun hc=>?_<;>first|exact hc.elim|conv=>whnf)|(refine wrapQ (hk (by omega)) ?_;conv=>whnf)|(have hwr:=hk (by omega);apply wrapK_intro;(· exact wrap_i64 (by omega) (by omega));clear hwr;conv=>whnf)|(refine kB ?_))
  ·refine callK_of (weigh (hat (by omega)).2.2.2.2.1 (hat (by omega)).2.2.2.2.2.2 (by have:=hk (by omega);omega) (by omega)) ?_
   rintro _ ⟨r,rfl,r1,r2,r3⟩
   (conv=>whnf);repeat' (first|(refine kA ?_;conv=>whnf)|(refine Br.mk (fun hc=>?_) fun hc=>?_<;>first|exact hc.elim|conv=>whnf)  |(refine kB ?_))
   have hk1:=hk (by omega)
   exact again.mk ⟨_,by omega,i+1,_,r,rfl,rfl,rfl,by omega,by omega,fun h=>⟨(hx (by omega)).1,all_take_succ (by omega) (hx (by omega)).2 ⟨by have:=r3 h;omega,by have:=r3 h;omega,(r3 h).2⟩⟩⟩
  all_goals first
   |exact⟨_,rfl,fun h=>absurd h Bool.false_ne_true⟩
   |(refine ⟨_,rfl,fun h=>?_⟩
     rename_i hc1
     obtain⟨x1,x2⟩:=hx hc
     rw[take_all hc1]at x2
     exact⟨by omega,by omega,x1,x2⟩)
 refine callK_of (weigh (hat (by omega)).2.2.2.2.1 (hat (by omega)).2.2.2.2.2.2 (by have:=hk (by omega);omega) (by omega)) ?_
 rintro _ ⟨r,rfl,r1,r2,r3⟩
 (conv=>whnf);repeat' (first|(refine kA ?_;conv=>whnf)|(refine Br.mk (fun hc=>?_) fun hc=>?_<;>first|exact hc.elim|conv=>whnf)  |(refine kB ?_))
 refine loop_inv (fun m env s=>∃(j:Nat) (l2:Int),m=(g.nodes[i]).labels.length-j∧env=[(3,.ref 0 0 0 0),(7,.int .i64 l2),(8,.int .i64 i),(9,.ref 1 c 0 0),(10,.int .i64 j)]∧s=⟨[.arr 0 4 true true [g.av],.arr c 3 true true [(g.nodes[i]).av]],c+1⟩∧-9223372036854775808≤l2∧l2≤2000∧(0≤l2→0≤r∧∀s∈(g.nodes[i]).labels.take j,s.length≤101000)) ?_ _ _ _ ⟨0,r,rfl,rfl,rfl,by omega,by omega,fun h=>⟨h,by simp⟩⟩
 rintro _ _ _ ⟨j,l2,rfl,rfl,rfl,d1,d2,hy⟩
 refine⟨rfl,?_⟩
 have hlb:∀h:j<(g.nodes[i]).labels.length,((g.nodes[i]).labels[j]).length<2^63:=fun h=>(hat (by omega)).2.2.2.1 _ (List.getElem_mem _)
 have hk1:=hk (by omega)
 (conv=>whnf);repeat' (first|(refine kA ?_;conv=>whnf)|(refine Br.mk (fun hc=>?_) fun hc=>?_<;>first|exact hc.elim|conv=>whnf)|(refine wrapQ (hlb (by omega)) ?_;conv=>whnf)|(have hwr:=hlb (by omega);apply wrapK_intro;(· exact wrap_i64 (by omega) (by omega));clear hwr;conv=>whnf)|(refine kB ?_))
 ·have:=hlb (by omega)
  exact again.mk ⟨_,by omega,j+1,_,rfl,rfl,rfl,by omega,by omega,fun h=>⟨(hy (by omega)).1,all_take_succ (by omega) (hy (by omega)).2 (by omega)⟩⟩
 ·exact again.mk ⟨_,by omega,i+1,_,l2,rfl,rfl,rfl,by omega,by omega,fun h=>absurd h (by omega)⟩
 ·refine again.mk ⟨_,by omega,i+1,_,l2,rfl,rfl,rfl,by omega,by omega,fun h=>?_⟩
  obtain⟨y1,y2⟩:=hy h
  rw[take_all hc]at y2
  have:=r3 y1
  exact all_take_succ (by omega) (hx (by omega)) ⟨by omega,y2,by omega,this.2⟩
end AI
end Go.Proofs.YtgmgkkbpgndaaaaGreatDoor
