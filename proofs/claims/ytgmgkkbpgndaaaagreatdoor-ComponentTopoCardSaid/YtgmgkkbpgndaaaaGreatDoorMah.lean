/- component.Topo: its pieces. component.Topo. The reference's validity of values: it answers. The reference's validity of values, with lists in lists. The reference's bare values and strings. The reference's check of values that may be stored, of labels and properties. -/
import Derived.Test.YtgmgkkbpgndaaaaGreatDoorMag
import Derived.Test.YtgmgkkbpgndaaaaGreatDoorMae
import Derived.Test.YtgmgkkbpgndaaaaGreatDoorMaf
import Derived.Test.YtgmgkkbpgndaaaaGreatDoorMaa
set_option linter.unusedVariables false
set_option maxRecDepth 4000
namespace Go.Proofs.YtgmgkkbpgndaaaaGreatDoor
namespace AI
theorem mset_newP {p:Int→Int}:∀{S:List Int} {x y:Int},x∉S→p x=y→mset (labelsB S p) x y=labelsB (S++[x]) p
 |[],x,y,_,h=>by subst h;rfl
 |i::S,x,y,h,hy=>by
  show(if x=i then(x,y)::labelsB S p else(i,p i)::mset (labelsB S p) x y)=(i,p i)::labelsB (S++[x]) p
  rw[if_neg (fun e=>h (by rw[e];simp)),mset_newP (fun k=>h (List.mem_cons_of_mem _ k)) hy]
theorem msN {S:List Int} {p:Int→Int} {x y:Int} {K:List (AV×AV)→Prop} (hx:x∉S) (hy:p x=y) (h:K (mints (labelsB (S++[x]) p))):msetK .int (.int .i64 x) (.int .i64 y) (mints (labelsB S p)) K:=
 msI (by rw[mset_newP hx hy];exact h)
theorem labels_congr {S:List Int} {p q:Int→Int} (h:∀x∈S,p x=q x):labelsB S p=labelsB S q:=List.map_congr_left fun x hx=>by rw[h x hx]
theorem mints_len {S:List Int} {p:Int→Int}:(mints (labelsB S p)).length=S.length:=by simp[mints,ment,labelsB]
theorem find_at {S:List Int} {p:Int→Int} {x:Int} (hx:x∈S):∀i0,∃i,∃h:i<S.length,S[i]=x∧findKey .int (.int .i64 x) (mints (labelsB S p)) i0=some (some (i0+i,.int .i64 (p x))):=by
 induction S with
 |nil=>cases hx
 |cons y S ih=>
  intro i0
  by_cases e:x=y
  ·subst e
   refine⟨0,by simp,rfl,?_⟩
   simp[mints,ment,labelsB,findKey,eqLeaf]
  ·rcases List.mem_cons.1 hx with h|h
   ·exact absurd h e
   ·obtain⟨i,hi,h1,h2⟩:=ih h (i0+1)
    refine⟨i+1,by simpa using hi,by simpa using h1,?_⟩
    have hne:(x==y)=false:=by simpa using e
    have e1:findKey .int (.int .i64 x) (mints (labelsB (y::S) p)) i0=findKey .int (.int .i64 x) (mints (labelsB S p)) (i0+1):=by
     simp[mints,ment,labelsB,findKey,eqLeaf,hne]
    rw[e1,h2,show i0+1+i=i0+(i+1) by omega]
theorem erase_filter {S:List Int} {x:Int} (hn:S.Nodup):∀{i:Nat} (h:i<S.length),S[i]=x→S.eraseIdx i=S.filter fun y=>decide (y≠x):=by
 induction S with
 |nil=>intro i h;simp at h
 |cons y S ih=>
  intro i h hx
  have hn':=List.nodup_cons.1 hn
  cases i with
  |zero=>
   have:y=x:=hx
   subst this
   show S=_
   rw[List.filter_cons,if_neg (by simp)]
   refine(List.filter_eq_self.2 fun z hz=>?_).symm
   simpa using fun e:z=y=>hn'.1 (by rw[← e];exact hz)
  |succ i=>
   have hx':S[i]'(by simpa using h)=x:=hx
   have hne:y≠x:=fun e=>hn'.1 (by rw[e,←hx'];exact List.getElem_mem _)
   rw[List.eraseIdx_cons_succ,List.filter_cons,if_pos (by simpa using hne),ih hn'.2 (by simpa using h) hx']
theorem erase_map {α β:Type} (f:α→β):∀(l:List α) (i:Nat),(l.map f).eraseIdx i=(l.eraseIdx i).map f
 |[],_=>rfl
 |x::l,0=>rfl
 |x::l,i+1=>congrArg (f x::·) (erase_map f l i)
theorem erase_mints {S:List Int} {p:Int→Int} {i:Nat}:(mints (labelsB S p)).eraseIdx i=mints (labelsB (S.eraseIdx i) p):=by
 show((S.map fun i=>(i,p i)).map fun q=>(AV.int .i64 q.1,AV.int .i64 q.2)).eraseIdx i=_
 rw[erase_map,erase_map]
 rfl
theorem fkD {S:List Int} {p:Int→Int} {x:Int} {K:Option (Nat×AV)→Prop} (hx:x∈S) (hn:S.Nodup) (h:∀i,(mints (labelsB S p)).eraseIdx i=mints (labelsB (S.filter fun y=>decide (y≠x)) p)→K (some (i,.int .i64 (p x)))):findK .int (.int .i64 x) (mints (labelsB S p)) K:=by
 obtain⟨i,hi,h1,h2⟩:=find_at (p:=p) hx 0
 rw[Nat.zero_add]at h2
 exact⟨⟨_,h2,h i (by rw[erase_mints,erase_filter hn hi h1])⟩⟩
theorem keysP {ob0 ob2:Obj} {E:List (AV×AV)} {g c:Nat}:Calls1 (findFn tab) 33 [.map 1 g] ⟨[ob0,.mp g true E,ob2],c⟩ fun out s'=>∃c',out=.ok (.fn 55 [.ref 3 c 0 0])∧s'=⟨[ob0,.mp g true E,ob2,.arr c 1 true false [.map 1 g]],c'⟩:=by
 refine calls1_of rfl rfl ?_
 (conv=>whnf);repeat' (first  |(refine kA ?_;conv=>whnf)|(refine Br.mk (fun hc=>?_) fun hc=>?_<;>first|exact hc.elim|conv=>whnf)|(refine kB ?_))
 all_goals first | exact ⟨_, rfl, rfl⟩ | (trace_state; fail "keysP")
theorem srtQ_id {l:List Int} (h:l.Pairwise (· <·)):srtQ l=l:=sorted_uniqueQ (srtQ_le l) (h.imp fun h=>by omega) (srtQ_perm l)
theorem decK_labels (S:List Int) (p:Int→Int):decK (mints (labelsB S p))=some S:=by
 have:=decK_map (S.map fun i=>(i,AV.int .i64 (p i)))
 rw[List.map_map,List.map_map]at this
 have e1:(S.map ((fun p:Int×AV=>(AV.int .i64 p.1,p.2))∘fun i=>(i,AV.int .i64 (p i))))=mints (labelsB S p):=by simp[mints,ment,labelsB]
 rw[e1]at this
 rw[this]
 congr 1
 exact List.map_id'' (fun _=>rfl) S
theorem sortP {ob0 ob2:Obj} {S:List Int} {p:Int→Int} {g k c:Nat} (h0:S≠[]) (hi:S.Pairwise (· <·)) (hr:∀z∈S,1≤z∧z≤1000000) (hl:S.length≤100000):
 Calls1 (findFn tab) 32 [.fn 55 [.ref 3 k 0 0]] ⟨[ob0,.mp g true (mints (labelsB S p)),ob2,.arr k 1 true false [.map 1 g]],c⟩ fun out s'=>∃c',out=.ok (.own 4 c 0 S.length)∧s'=⟨[ob0,.mp g true (mints (labelsB S p)),ob2,.arr k 1 true false [.map 1 g],.arr c 1 true true (vs (.int .i64) S)],c'⟩:=by
 refine calls_ext (sp:=skSpec) rfl (out:=.ok (.own 4 c 0 S.length)) (s':=⟨[ob0,.mp g true (mints (labelsB S p)),ob2,.arr k 1 true false [.map 1 g],.arr c 1 true true (vs (.int .i64) S)],c+1⟩) ?_ ⟨_,rfl,rfl⟩
 have hd:=decK_labels S p
 obtain⟨x,l,rfl⟩:∃x l,S=x::l:=by
  cases S with
  |nil=>exact absurd rfl h0
  |cons x l=>exact⟨x,l,rfl⟩
 have hnd:(x::l).Nodup:=hi.imp fun h=>by omega
 unfold skSpec
 simp only[Nat.beq_refl,cond_true,nth,and_self,if_true,hd]
 rw[if_pos ⟨hnd,fun z hz=>by have:=hr z hz;omega,by omega⟩,srtQ_id hi]
 rfl
def cntI (es:List (Int×Int)) (k:Int):Int:=((es.countP fun e=>decide (e.2=k):Nat):Int)
theorem cntI_le (es:List (Int×Int)) (k:Int):0≤cntI es k∧cntI es k≤es.length:=by
 unfold cntI
 have:=List.countP_le_length (p:=fun e:Int×Int=>decide (e.2=k)) (l:=es)
 omega
theorem cntI_succ {es:List (Int×Int)} {i:Nat} (h:i<es.length):cntI (es.take (i+1))=updF (cntI (es.take i)) (es[i]).2 (cntI (es.take i) (es[i]).2+1):=by
 funext k
 unfold cntI updF
 rw[List.take_succ_eq_append_getElem h,List.countP_append]
 by_cases e:k=(es[i]).2
 ·rw[if_pos e,e];simp
 ·have e':¬(es[i]).2=k:=fun h=>e h.symm
  rw[if_neg e];simp[e']
theorem cntI_all (es:List (Int×Int)):cntI es=fun k=>(cntB es [] k:Int):=by
 funext k
 unfold cntI cntB
 congr 2
 funext e
 simp
def dI (es:List (Int×Int)) (O:List Int) (x:Int) (i:Nat) (k:Int):Int:=(cntB es O k:Int)-((es.take i).countP (fun e=>decide (e.2=k∧e.1=x)):Nat)
theorem dI_zero (es:List (Int×Int)) (O:List Int) (x:Int):dI es O x 0=fun k=>(cntB es O k:Int):=by funext k;simp[dI]
theorem cntB_le (es:List (Int×Int)) (O:List Int) (k:Int):cntB es O k≤es.length:=List.countP_le_length
theorem dI_in {es:List (Int×Int)} {O:List Int} {x:Int} {i:Nat} (h:i<es.length) (hx:(es[i]).1=x):dI es O x (i+1)=updF (dI es O x i) (es[i]).2 (dI es O x i (es[i]).2-1):=by
 funext k
 unfold dI updF
 rw[List.take_succ_eq_append_getElem h,List.countP_append]
 by_cases e:k=(es[i]).2
 ·rw[if_pos e,e];simp[hx];omega
 ·have e':¬(es[i]).2=k:=fun h=>e h.symm
  rw[if_neg e];simp[e']
theorem dI_out {es:List (Int×Int)} {O:List Int} {x:Int} {i:Nat} (h:i<es.length) (hx:¬(es[i]).1=x):dI es O x (i+1)=dI es O x i:=by
 funext k
 unfold dI
 rw[List.take_succ_eq_append_getElem h,List.countP_append]
 simp[hx]
theorem dI_all {es:List (Int×Int)} {O:List Int} {x:Int} {i:Nat} (hx:x∉O) (h:¬i<es.length):dI es O x i=fun k=>(cntB es (O++[x]) k:Int):=by
 funext k
 unfold dI
 rw[List.take_of_length_le (by omega)]
 have:=cntB_snoc es hx k
 omega
theorem dI_le (es:List (Int×Int)) (O:List Int) (x:Int) (i:Nat) (k:Int):-(es.length:Int)≤dI es O x i k∧dI es O x i k≤es.length:=by
 unfold dI
 have h1:=cntB_le es O k
 have h2:(es.take i).countP (fun e=>decide (e.2=k∧e.1=x))≤es.length:=Nat.le_trans List.countP_le_length (by simp;omega)
 omega
def TopV:Option (List Int)→AV→Prop
 |some l,v=>∃b,v=.tup [.sl b (vs (.int .i64) l),.bool true]
 |none,v=>v=.tup [.sl false [],.bool false]
theorem topo_step {ids:List Int} {es:List (Int×Int)} {O:List Int} {k:Int} (hl:O.length<ids.length) (h:nextB ids es O=some k):topoN ids es (ids.length-O.length) O=topoN ids es (ids.length-(O++[k]).length) (O++[k]):=by
 obtain⟨n,hn⟩:∃n,ids.length-O.length=n+1:=⟨ids.length-O.length-1,by omega⟩
 rw[hn,show ids.length-(O++[k]).length=n by simp;omega]
 show(match nextB ids es O with|some k=>topoN ids es n (O++[k])|none=>none)=_
 rw[h]
theorem topo_none {ids:List Int} {es:List (Int×Int)} {O:List Int} (hl:O.length<ids.length) (h:nextB ids es O=none):topoN ids es (ids.length-O.length) O=none:=by
 obtain⟨n,hn⟩:∃n,ids.length-O.length=n+1:=⟨ids.length-O.length-1,by omega⟩
 rw[hn]
 show(match nextB ids es O with|some k=>topoN ids es n (O++[k])|none=>none)=_
 rw[h]
theorem endT_len {types:List (List UInt8)} {g:GG}:(endT types g).length=(edgT types g).length:=by simp[endT]
theorem endT_at {types:List (List UInt8)} {g:GG} {i:Nat} (h:i<(edgT types g).length):(endT types g)[i]'(by rw[endT_len];exact h)=(((edgT types g)[i]).fr,((edgT types g)[i]).to):=by simp[endT]
theorem ids_big {g:GG} (h:checkE g=0):∀z∈idsG g,1≤z∧z≤1000000:=fun y hy=>by
 obtain⟨i,hi,rfl⟩:=List.getElem_of_mem hy
 have hi':i<g.nodes.length:=by rw[← idsG_len];exact hi
 rw[idsG_at hi']
 have h1:=node_ok hi' ((check_ok h).2.2.1 i hi')
 have h2:=(check_ok h).2.1
 unfold nextG at h2
 omega
set_option maxHeartbeats 4000000 in
theorem topoP {types:List (List UInt8)} {tn:Bool} (hl:types.length<2^63) {g:GG} (hg:g.ok) (hN:g.nodes.length<1000) (hE:g.edges.length<1000):
 PureP (findFn tab) 14 [g.av,.sl tn (vs .str types)] (TopV (if checkE g=0 then topoB (idsG g) (endT types g)else none)):=by
 have pc:=checkG hg
 by_cases hc:checkE g=0
 case neg=>
  rw[if_neg hc]
  refine pureP_of rfl rfl ?_
  (conv=>whnf);repeat' (first|(refine callK_of pc ?_;rintro _ rfl;conv=>whnf)|(refine kA ?_;conv=>whnf)|(refine Br.mk (fun hc=>?_) fun hc=>?_<;>first|exact hc.elim|conv=>whnf)|(refine kB ?_))
  all_goals first | exact absurd ‹_› hc | rfl | (trace_state; fail "topoP0")
 rw[if_pos hc]
 rw[hc]at pc
 obtain⟨_,⟨be,rfl⟩,pe⟩:=(edgesP (types:=types) (tn:=tn) hl hg (by omega)).det
 have hnd:=ids_nd hc
 have hinc:=ids_inc hc
 have hbig:=ids_big hc
 have hends:=ids_ends hc
 have hEl:(edgT types g).length≤g.edges.length:=List.length_filter_le _ _
 have hel:=@endT_len types g
 have hil:=idsG_len g
 refine pureP_of rfl rfl ?_
 (conv=>whnf);repeat' (first|(refine callK_of pc ?_;rintro _ rfl;conv=>whnf)|(refine kA ?_;conv=>whnf)|(refine Br.mk (fun hc=>?_) fun hc=>?_<;>first|exact hc.elim|conv=>whnf)|(refine kB ?_))
 all_goals first|(exfalso;omega)|skip
 refine loop_inv (fun m env s=>∃(i c:Nat),m=g.nodes.length-i∧env=[(1,.sl tn (vs .str types)),(2,.ref 0 0 0 0),(6,.map 1 1),(24,.sl g.nn (vs GN.av g.nodes)),(25,.int .i64 g.nodes.length),(26,.int .i64 i)]∧s=⟨[.arr 0 4 true true [g.av],.mp 1 true (mints (labelsB ((idsG g).take i) (cntI [])))],c⟩) ?_ _ _ _ ⟨0,_,rfl,rfl,rfl⟩
 rintro _ _ _ ⟨i,c,rfl,rfl,rfl⟩
 refine⟨rfl,?_⟩
 by_cases hlt:i<g.nodes.length
 ·have hx:(g.nodes[i]).id∉(idsG g).take i:=by
   have h1:=idsG_take hlt
   have h2:=hnd.sublist (List.take_sublist (i+1) (idsG g))
   rw[h1,List.nodup_append]at h2
   exact fun hm=>h2.2.2 _ hm _ (by simp) rfl
  (conv=>whnf);repeat' (first|(refine msN hx (show cntI [] (g.nodes[i]).id=0 from rfl) ?_;conv=>whnf)|(refine kA ?_;conv=>whnf)|(refine Br.mk (fun hc=>?_) fun hc=>?_<;>first|exact hc.elim|conv=>whnf)|(refine kB ?_))
  all_goals first
   |(exfalso;omega)
   |(rw [← idsG_take hlt];exact again.mk ⟨_,by omega,i+1,_,rfl,rfl,rfl⟩)
   | (trace_state; fail "topoP1")
 rw[List.take_of_length_le (by omega)]
 (conv=>whnf);repeat' (first|(refine callK_of pe ?_;rintro _ rfl;conv=>whnf)|(refine kA ?_;conv=>whnf)|(refine Br.mk (fun hc=>?_) fun hc=>?_<;>first|exact hc.elim|conv=>whnf)|(refine kB ?_))
 all_goals first|(exfalso;omega)|skip
 clear hc hlt
 refine loop_inv (fun m env s=>∃(i c:Nat),m=(edgT types g).length-i∧env=[(6,.map 1 1),(9,.sl be (vs GE.av (edgT types g))),(37,.sl be (vs GE.av (edgT types g))),(38,.int .i64 (edgT types g).length),(39,.int .i64 i)]∧s=⟨[.arr 0 4 true true [g.av],.mp 1 true (mints (labelsB (idsG g) (cntI ((endT types g).take i))))],c⟩) ?_ _ _ _ ⟨0,_,rfl,rfl,rfl⟩
 rintro _ _ _ ⟨i,c,rfl,rfl,rfl⟩
 refine⟨rfl,?_⟩
 by_cases hlt:i<(edgT types g).length
 ·obtain⟨ha,hb⟩:=hends _ (List.mem_filter.1 (List.getElem_mem hlt)).1
  have hs:=cntI_succ (es:=endT types g) (i:=i) (by omega)
  rw[endT_at hlt]at hs
  dsimp only at hs
  have hcl:=cntI_le ((endT types g).take i) ((edgT types g)[i]).to
  have hcl2:((endT types g).take i).length≤1000:=by rw[List.length_take];omega
  (conv=>whnf);repeat' (first|(refine fkL hb (fun _=>?_);conv=>whnf)|(refine msL hnd hb ?_;conv=>whnf)|(refine kA ?_;conv=>whnf)|(refine Br.mk (fun hc=>?_) fun hc=>?_<;>first|exact hc.elim|conv=>whnf)|(refine kB ?_))
  all_goals first
   |(exfalso;omega)
   |(rw [← hs];exact again.mk ⟨_,by omega,i+1,_,rfl,rfl,rfl⟩)
   | (trace_state; fail "topoP2")
 rw[List.take_of_length_le (by omega),cntI_all]
 (conv=>whnf);repeat' (first  |(refine kA ?_;conv=>whnf)|(refine Br.mk (fun hc=>?_) fun hc=>?_<;>first|exact hc.elim|conv=>whnf)|(refine kB ?_))
 all_goals first|(exfalso;omega)|skip
 clear hlt hc
 have hl0:leftB (idsG g) []=idsG g:=List.filter_eq_self.2 fun _ _=>by simp
 rw[show labelsB (idsG g) (fun k=>(cntB (endT types g) [] k:Int))=labelsB (leftB (idsG g) []) (fun k=>(cntB (endT types g) [] k:Int)) by rw[hl0]]
 refine loop_inv (fun m env s=>∃(c ga n:Nat) (b:Bool) (O:List Int),m=(leftB (idsG g) O).length∧n=O.length∧O.Nodup∧(∀ x∈O,x∈idsG g)∧doneB (endT types g) O∧topoN (idsG g) (endT types g) ((idsG g).length-O.length) O=topoB (idsG g) (endT types g)∧env=[(6,.map 1 1),(9,.sl be (vs GE.av (edgT types g))),(12,.own 2 ga 0 n)]∧s=⟨[.arr 0 4 true true [g.av],.mp 1 true (mints (labelsB (leftB (idsG g) O) fun k=>(cntB (endT types g) O k:Int))),.arr ga 1 b true (vs (.int .i64) O)],c⟩) ?_ _ _ _ ⟨_,_,0,_,[],rfl,rfl,.nil,by simp,doneB_nil _,rfl,rfl,rfl⟩
 rintro _ _ _ ⟨c,ga,n,b,O,rfl,rfl,hO1,hO2,hO3,hT,rfl,rfl⟩
 refine⟨rfl,?_⟩
 have hlen:=leftB_len hnd hO1 hO2
 have hML:=@mints_len (leftB (idsG g) O) fun k=>(cntB (endT types g) O k:Int)
 by_cases h0:leftB (idsG g) O=[]
 ·rw[h0]at hlen hML
  have hT':topoB (idsG g) (endT types g)=some O:=by
   rw[← hT,show(idsG g).length-O.length=0 by simp at hlen;omega];rfl
  rw[hT']
  rw[h0]
  have hM0:(mints (labelsB [] fun k=>(cntB (endT types g) O k:Int))).length=0:=rfl
  (conv=>whnf);repeat' (first  |(refine kA ?_;conv=>whnf)|(refine Br.mk (fun hc=>?_) fun hc=>?_<;>first|exact hc.elim|conv=>whnf)|(refine kB ?_))
  all_goals first
   |(exfalso;omega)
   |exact⟨b,rfl⟩
   | (trace_state; fail "topoP3")
 have hnd1:(leftB (idsG g) O).Nodup:=hnd.sublist (List.filter_sublist)
 have hinc1:(leftB (idsG g) O).Pairwise (· <·):=hinc.sublist (List.filter_sublist)
 have hbig1:∀z∈leftB (idsG g) O,1≤z∧z≤1000000:=fun z hz=>hbig z (List.mem_filter.1 hz).1
 have hpos:0<(leftB (idsG g) O).length:=List.length_pos_iff.2 h0
 have hOl:O.length<(idsG g).length:=by omega
 have hnx:=nextB_left (idsG g) (endT types g) O
 generalize hks:leftB (idsG g) O=ks at*
 cases hf:nextB (idsG g) (endT types g) O with
 |none=>
  have hT':=topo_none hOl hf
  rw[hT]at hT'
  rw[hT']
  rw[hf]at hnx
  have hno:∀k∈ks,cntB (endT types g) O k≠0:=fun k hk=>by
   have:=(List.find?_eq_none.1 hnx.symm) k hk
   simpa using this
  (conv=>whnf);repeat' (first|(refine (keysP).mono ?_;rintro _ _ ⟨c',rfl,rfl⟩;conv=>whnf)|(refine (sortP h0 hinc1 hbig1 (by omega)).mono ?_;rintro _ _ ⟨c',rfl,rfl⟩;conv=>whnf)|(refine kA ?_;conv=>whnf)|(refine Br.mk (fun hc=>?_) fun hc=>?_<;>first|exact hc.elim|conv=>whnf)|(refine kB ?_))
  all_goals first|(exfalso;omega)|skip
  refine loop_inv (fun m env s=>∃(i c k1 g2:Nat),m=ks.length-i∧env=[(6,.map 1 1),(9,.sl be (vs GE.av (edgT types g))),(12,.own 2 ga 0 O.length),(13,.int .i64 0),(14,.bool false),(54,.own 4 g2 0 ks.length),(55,.int .i64 ks.length),(56,.int .i64 i)]∧s=⟨[.arr 0 4 true true [g.av],.mp 1 true (mints (labelsB ks fun k=>(cntB (endT types g) O k:Int))),.arr ga 1 b true (vs (.int .i64) O),.arr k1 1 true false [.map 1 1],.arr g2 1 true true (vs (.int .i64) ks)],c⟩) ?_ _ _ _ ⟨0,_,_,_,rfl,rfl,rfl⟩
  rintro _ _ _ ⟨i,c,k1,g2,rfl,rfl,rfl⟩
  refine⟨rfl,?_⟩
  by_cases hlt:i<ks.length
  ·have hm:ks[i]∈ks:=List.getElem_mem hlt
   have hne:=hno _ hm
   (conv=>whnf);repeat' (first|(refine fkL hm (fun _=>?_);conv=>whnf)|(refine kA ?_;conv=>whnf)|(refine Br.mk (fun hc=>?_) fun hc=>?_<;>first|exact hc.elim|conv=>whnf)|(refine kB ?_))
   all_goals first
        |(exfalso;omega)
        |exact again.mk ⟨_,by omega,i+1,_,_,_,rfl,rfl,rfl⟩
        | (trace_state; fail "topoP4")
  ·(conv=>whnf);repeat' (first  |(refine kA ?_;conv=>whnf)|(refine Br.mk (fun hc=>?_) fun hc=>?_<;>first|exact hc.elim|conv=>whnf)|(refine kB ?_))
   all_goals first
        |(exfalso;omega)
        |rfl
        | (trace_state; fail "topoP5")
 |some k=>
  have hT':=topo_step hOl hf
  rw[hT]at hT'
  obtain⟨hk1,hk2,hk3⟩:=nextB_some hf
  rw[hf]at hnx
  obtain⟨hkz,j,hj,hjk,hjb⟩:=List.find?_eq_some_iff_getElem.1 hnx.symm
  have hkz':cntB (endT types g) O k=0:=by simpa using hkz
  (conv=>whnf);repeat' (first|(refine (keysP).mono ?_;rintro _ _ ⟨c',rfl,rfl⟩;conv=>whnf)|(refine (sortP h0 hinc1 hbig1 (by omega)).mono ?_;rintro _ _ ⟨c',rfl,rfl⟩;conv=>whnf)|(refine kA ?_;conv=>whnf)|(refine Br.mk (fun hc=>?_) fun hc=>?_<;>first|exact hc.elim|conv=>whnf)|(refine kB ?_))
  all_goals first|(exfalso;omega)|skip
  refine loop_inv (fun m env s=>∃(i c k1 g2:Nat),m=ks.length-i∧i≤j∧env=[(6,.map 1 1),(9,.sl be (vs GE.av (edgT types g))),(12,.own 2 ga 0 O.length),(13,.int .i64 0),(14,.bool false),(54,.own 4 g2 0 ks.length),(55,.int .i64 ks.length),(56,.int .i64 i)]∧s=⟨[.arr 0 4 true true [g.av],.mp 1 true (mints (labelsB ks fun k=>(cntB (endT types g) O k:Int))),.arr ga 1 b true (vs (.int .i64) O),.arr k1 1 true false [.map 1 1],.arr g2 1 true true (vs (.int .i64) ks)],c⟩) ?_ _ _ _ ⟨0,_,_,_,rfl,by omega,rfl,rfl⟩
  rintro _ _ _ ⟨i,c,k1,g2,rfl,hij,rfl,rfl⟩
  refine⟨rfl,?_⟩
  by_cases hlt:i<j
  ·have hm:ks[i]'(by omega)∈ks:=List.getElem_mem _
   have hne:cntB (endT types g) O (ks[i]'(by omega))≠0:=by simpa using hjb i hlt
   (conv=>whnf);repeat' (first|(refine fkL hm (fun _=>?_);conv=>whnf)|(refine kA ?_;conv=>whnf)|(refine Br.mk (fun hc=>?_) fun hc=>?_<;>first|exact hc.elim|conv=>whnf)|(refine kB ?_))
   all_goals first
        |(exfalso;omega)
        |exact again.mk ⟨_,by omega,i+1,_,_,_,rfl,by omega,rfl,rfl⟩
        | (trace_state; fail "topoP6")
  ·obtain rfl:i=j:=by omega
   have hm:k∈ks:=by rw[← hjk];exact List.getElem_mem _
   have n1:nth (vs (.int .i64) ks) (Int.toNat (Nat.cast i))=some (.int .i64 k):=by rw[← hjk];exact nVN hj
   (conv=>whnf);repeat' (first|(apply nthK_intro;(· exact n1);conv=>whnf)|(refine fkD hm hnd1 (fun _ _=>?_);conv=>whnf)|(refine kA ?_;conv=>whnf)|(refine Br.mk (fun hc=>?_) fun hc=>?_<;>first|exact hc.elim|conv=>whnf)|(refine kB ?_))
   all_goals first|(exfalso;omega)|skip
   rename_i he
   have hO1':(O++[k]).Nodup:=by
        rw[List.nodup_append]
        exact⟨hO1,by simp,fun a ha b hb e=>hk2 (by rw[List.mem_singleton.1 hb]at e;rw[← e];exact ha)⟩
   have hO2':∀x∈O++[k],x∈idsG g:=fun x hx=>by
        rcases List.mem_append.1 hx with h|h
        ·exact hO2 x h
        ·rw[List.mem_singleton.1 h];exact hk1
   have hO3':=doneB_snoc hO3 hk3
   have hlen2:=leftB_len hnd hO1' hO2'
   have hks2:(ks.filter fun y=>decide (y≠k))=leftB (idsG g) (O++[k]):=by rw[leftB_snoc,hks]
   have hnd2:(leftB (idsG g) (O++[k])).Nodup:=hnd.sublist (List.filter_sublist)
   rw[he,hks2,←dI_zero (endT types g) O k]
   rw[List.length_append,List.length_singleton]at hlen2
   clear he hf hnx hjb hkz hjk n1 hm hks2
   refine loop_inv (fun m env s=>∃(i c k1 g2:Nat),m=(edgT types g).length-i∧env=[(6,.map 1 1),(9,.sl be (vs GE.av (edgT types g))),(12,.own 2 ga 0 O.length),(13,.int .i64 k),(70,.sl be (vs GE.av (edgT types g))),(71,.int .i64 (edgT types g).length),(72,.int .i64 i)]∧s=⟨[.arr 0 4 true true [g.av],.mp 1 true (mints (labelsB (leftB (idsG g) (O++[k])) (dI (endT types g) O k i))),.arr ga 1 b true (vs (.int .i64) O),.arr k1 1 true false [.map 1 1],.arr g2 1 true true (vs (.int .i64) ks)],c⟩) ?_ _ _ _ ⟨0,_,_,_,rfl,rfl,rfl⟩
   rintro _ _ _ ⟨i,c,k1,g2,rfl,rfl,rfl⟩
   refine⟨rfl,?_⟩
   by_cases hlt:i<(edgT types g).length
   ·obtain⟨ha,hb⟩:=hends _ (List.mem_filter.1 (List.getElem_mem hlt)).1
    have hmem:(((edgT types g)[i]).fr,((edgT types g)[i]).to)∈endT types g:=by rw[← endT_at hlt];exact List.getElem_mem _
    by_cases hfr:((edgT types g)[i]).fr=k
    ·have hto:((edgT types g)[i]).to∈leftB (idsG g) (O++[k]):=by
      refine List.mem_filter.2 ⟨hb,decide_eq_true fun h=>?_⟩
      rcases List.mem_append.1 h with h|h
      ·exact hk2 (by have:=hO3 _ hmem h;rw[← hfr];exact this)
      ·exact hk2 (by have:=hk3 _ hmem (List.mem_singleton.1 h);rw[← hfr];exact this)
     have hs:=dI_in (es:=endT types g) (O:=O) (x:=k) (i:=i) (by omega) (by rw[endT_at hlt];exact hfr)
     rw[endT_at hlt]at hs
     dsimp only at hs
     have hcl:=dI_le (endT types g) O k i ((edgT types g)[i]).to
     (conv=>whnf);repeat' (first|(refine fkL hto (fun _=>?_);conv=>whnf)|(refine msL hnd2 hto ?_;conv=>whnf)|(refine kA ?_;conv=>whnf)|(refine Br.mk (fun hc=>?_) fun hc=>?_<;>first|exact hc.elim|conv=>whnf)|(refine kB ?_))
     all_goals first
      |(exfalso;omega)
      |(rw [← hs];exact again.mk ⟨_,by omega,i+1,_,_,_,rfl,rfl,rfl⟩)
      | (trace_state; fail "topoP7")
    ·have hs:=dI_out (es:=endT types g) (O:=O) (x:=k) (i:=i) (by omega) (by rw[endT_at hlt];exact hfr)
     (conv=>whnf);repeat' (first  |(refine kA ?_;conv=>whnf)|(refine Br.mk (fun hc=>?_) fun hc=>?_<;>first|exact hc.elim|conv=>whnf)|(refine kB ?_))
     all_goals first
      |(exfalso;omega)
      |(rw [← hs];exact again.mk ⟨_,by omega,i+1,_,_,_,rfl,rfl,rfl⟩)
      | (trace_state; fail "topoP8")
   ·rw[dI_all hk2 (by omega)]
    (conv=>whnf);repeat' (first|(refine apV1 (f:=AV.int .i64) (l:=O) (x:=k) (fun _=>rfl) rfl (by omega) ?_;conv=>whnf)|(refine kA ?_;conv=>whnf)|(refine Br.mk (fun hc=>?_) fun hc=>?_<;>first|exact hc.elim|conv=>whnf)|(refine kB ?_))
    all_goals first
     |(exfalso;omega)
     |exact again.mk ⟨_,by omega,_,_,_,_,O++[k],rfl,by simp,hO1',hO2',hO3',hT'.symm,rfl,rfl⟩
     | (trace_state; fail "topoP9")
theorem bare {g:GV} {n d s l:Bool}:PureP (findFn tab) 193 [g.av,.bool n,.bool d,.bool s,.bool l] (fun v=>∃b,v=.bool b):=by
 cases n<;>cases d<;>cases s<;>cases l<;>(
 refine pureP_of rfl rfl ?_
 (conv=>whnf);repeat' (first|(refine kA ?_;conv=>whnf)|(refine Br.mk (fun hc=>?_) fun hc=>?_<;>first|exact hc.elim|conv=>whnf)  |(refine kB ?_))
 all_goals exact⟨_,rfl⟩)
theorem inRB {n:Int}:PureP (findFn tab) 194 [.int .i64 n] (fun v=>∃b,v=.bool b):=by
 refine pureP_of rfl rfl ?_
 (conv=>whnf);repeat' (first|(refine kA ?_;conv=>whnf)|(refine Br.mk (fun hc=>?_) fun hc=>?_<;>first|exact hc.elim|conv=>whnf)  |(refine kB ?_))
 all_goals exact⟨_,rfl⟩
theorem size {n:Int} (h1:-2^62≤n) (h2:n≤2^62):PureP (findFn tab) 192 [.int .i64 n] (fun v=>∃z,v=.int .i64 z∧0≤z∧(z=n∨z=-n)):=by
 refine pureP_of rfl rfl ?_
 (conv=>whnf);repeat' (first|(refine kA ?_;conv=>whnf)|(refine Br.mk (fun hc=>?_) fun hc=>?_<;>first|exact hc.elim|conv=>whnf)  |(refine kB ?_))
 all_goals exact⟨_,rfl,by omega,by omega⟩
theorem gcd {a b:Int} (h1:0≤a) (h2:0≤b):PureP (findFn tab) 207 [.int .i64 a,.int .i64 b] (fun v=>∃z,v=.int .i64 z):=by
 refine pureP_of rfl rfl ?_
 (conv=>whnf);repeat' (first|(refine kA ?_;conv=>whnf)|(refine Br.mk (fun hc=>?_) fun hc=>?_<;>first|exact hc.elim|conv=>whnf)  |(refine kB ?_))
 refine loop_inv (fun m env s=>∃(a b:Int),m=b.toNat∧0≤a∧0≤b∧env=[(0,.int .i64 a),(1,.int .i64 b)]∧s=⟨[],0⟩) ?_ _ _ _ ⟨a,b,rfl,h1,h2,rfl,rfl⟩
 clear h1 h2 a b
 rintro _ _ _ ⟨a,b,rfl,h1,h2,rfl,rfl⟩
 refine⟨rfl,?_⟩
 (conv=>whnf);repeat' (first|(refine kA ?_;conv=>whnf)|(refine Br.mk (fun hc=>?_) fun hc=>?_<;>first|exact hc.elim|conv=>whnf)  |(refine kB ?_))
 ·have e:a.tmod b=a % b:=Int.tmod_eq_emod_of_nonneg h1
  have:=Int.emod_lt_of_pos a (by omega:0<b)
  have:=Int.emod_nonneg a (by omega:b≠0)
  exact again.mk ⟨_,by rw[e];omega,_,_,rfl,h2,by rw[e];omega,rfl,rfl⟩
 ·exact⟨_,rfl⟩
theorem fvalid {n d:Int}:PureP (findFn tab) 188 [.agg [.int .i64 n,.int .i64 d]] (fun v=>∃b,v=.bool b∧(b=true→1≤d∧d≤1000000000000000∧-1000000000000000≤n∧n≤1000000000000000)):=by
 refine pureP_of rfl rfl ?_
 (conv=>whnf);repeat' (first|(refine kA ?_;conv=>whnf)|(refine Br.mk (fun hc=>?_) fun hc=>?_<;>first|exact hc.elim|conv=>whnf)|(refine callK_of (size (n:=n) (by omega) (by omega)) ?_;rintro _ ⟨z,rfl,hz1,hz2⟩;conv=>whnf)|(refine callK_of (gcd (by omega) (by omega)) ?_;rintro _ ⟨z2,rfl⟩;conv=>whnf)|(refine kB ?_))
 all_goals first|exact⟨_,rfl,fun _=>by omega⟩|exact⟨_,rfl,fun h=>absurd h Bool.false_ne_true⟩
theorem strOk {s:List UInt8} (hl:s.length<2^63):PureP (findFn tab) 195 [.str s] (fun v=>∃b,v=.bool b):=by
 refine pureP_of rfl rfl ?_
 (conv=>whnf);repeat' (first|(refine kA ?_;conv=>whnf)|(refine Br.mk (fun hc=>?_) fun hc=>?_<;>first|exact hc.elim|conv=>whnf)  |(refine kB ?_))
 refine loop_inv (fun m env s'=>∃i:Nat,m=s.length-i∧env=[(0,.str s),(3,.int .i64 i)]∧s'=⟨[],0⟩) ?_ _ _ _ ⟨0,rfl,rfl,rfl⟩
 rintro _ _ _ ⟨i,rfl,rfl,rfl⟩
 refine⟨rfl,?_⟩
 (conv=>whnf);repeat' (first|(refine kA ?_;conv=>whnf)|(refine Br.mk (fun hc=>?_) fun hc=>?_<;>first|exact hc.elim|conv=>whnf)  |(refine kB ?_))
 all_goals first|exact⟨_,rfl⟩|exact again.mk ⟨_,by omega,i+1,rfl,rfl,rfl⟩
theorem validLeaf {g:GV} {n:Int} (h:g.k=5∨g.k=6):PureP (findFn tab) 169 [g.av,.int .i64 n] (fun v=>∃b,v=.bool b):=by
 refine pureP_of rfl rfl ?_
 (conv=>whnf);repeat' (first|(refine kA ?_;conv=>whnf)|(refine Br.mk (fun hc=>?_) fun hc=>?_<;>first|exact hc.elim|conv=>whnf)|(refine callK_of (bare (g:=g)) ?_;rintro _ ⟨b,rfl⟩;conv=>whnf)|(refine kB ?_))
 all_goals exact⟨_,rfl⟩
theorem pathOk {l:List AV} {nn:Bool} (hl:l.length<2^63) (h:∀x∈l,Like Tryz.prog 34 x):PureP (findFn tab) 196 [.sl nn l] (fun v=>∃b,v=.bool b):=by
 refine pureP_of rfl rfl ?_
 (conv=>whnf);repeat' (first|(refine kA ?_;conv=>whnf)|(refine Br.mk (fun hc=>?_) fun hc=>?_<;>first|exact hc.elim|conv=>whnf)  |(refine kB ?_))
 all_goals first|exact⟨_,rfl⟩|skip
 refine loop_inv (fun m env s'=>∃i:Nat,m=l.length-i∧env=[(0,.sl nn l),(3,.int .i64 i)]∧s'=⟨[],0⟩) ?_ _ _ _ ⟨0,rfl,rfl,rfl⟩
 rintro _ _ _ ⟨i,rfl,rfl,rfl⟩
 refine⟨rfl,?_⟩
 obtain⟨gx,hgx⟩:=like_at h i
 (conv=>whnf);repeat' (first|(refine kA ?_;conv=>whnf)|(refine Br.mk (fun hc=>?_) fun hc=>?_<;>first|exact hc.elim|conv=>whnf)|(apply nthK_intro;(· exact(hgx (by omega)).1);conv=>whnf)|(refine callK_of (validLeaf (g:=gx) (by omega)) ?_;rintro _ ⟨b,rfl⟩;conv=>whnf)|(refine kB ?_))
 all_goals first|exact⟨_,rfl⟩|exact again.mk ⟨_,by omega,i+1,rfl,rfl,rfl⟩
theorem list0 {l:List AV} {nn:Bool} (hl:l.length<2^63):PureP (findFn tab) 197 [.sl nn l,.int .i64 0] (fun v=>∃b,v=.bool b):=by
 refine pureP_of rfl rfl ?_
 (conv=>whnf);repeat' (first|(refine kA ?_;conv=>whnf)|(refine Br.mk (fun hc=>?_) fun hc=>?_<;>first|exact hc.elim|conv=>whnf)  |(refine kB ?_))
 all_goals exact⟨_,rfl⟩
theorem listS {n:Nat} (ih:∀{g:GV},g.ok→PureP (findFn tab) 169 [g.av,.int .i64 n] (fun v=>∃b,v=.bool b)) (hn:n<2^60) {l:List AV} {nn:Bool} (hl:l.length<2^63) (h:∀x∈l,Like Tryz.prog 34 x):
 PureP (findFn tab) 197 [.sl nn l,.int .i64 (n+1:Nat)] (fun v=>∃b,v=.bool b):=by
 refine pureP_of rfl rfl ?_
 (conv=>whnf);repeat' (first|(refine kA ?_;conv=>whnf)|(refine Br.mk (fun hc=>?_) fun hc=>?_<;>first|exact hc.elim|conv=>whnf)  |(refine kB ?_))
 all_goals first|exact⟨_,rfl⟩|skip
 refine loop_inv (fun m env s'=>∃i:Nat,m=l.length-i∧env=[(0,.sl nn l),(1,.int .i64 (n+1:Nat)),(5,.int .i64 i)]∧s'=⟨[],0⟩) ?_ _ _ _ ⟨0,rfl,rfl,rfl⟩
 rintro _ _ _ ⟨i,rfl,rfl,rfl⟩
 refine⟨rfl,?_⟩
 obtain⟨gx,hgx⟩:=like_at h i
 have ih':∀{g:GV},g.ok→PureP (findFn tab) 169 [g.av,.int .i64 (((n+1:Nat):Int)-1)] (fun v=>∃b,v=.bool b):=by
  rw[show ((n+1:Nat):Int)-1=(n:Int) by omega];exact ih
 (conv=>whnf);repeat' (first|(refine kA ?_;conv=>whnf)|(refine Br.mk (fun hc=>?_) fun hc=>?_<;>first|exact hc.elim|conv=>whnf)|(apply nthK_intro;(· exact(hgx (by omega)).1);conv=>whnf)|(refine callK_of (ih' (g:=gx) (hgx (by omega)).2.2) ?_;rintro _ ⟨b,rfl⟩;conv=>whnf)|(refine kB ?_))
 all_goals first|exact⟨_,rfl⟩|exact again.mk ⟨_,by omega,i+1,rfl,rfl,rfl⟩
theorem validV {n:Int} {g:GV} (hg:g.ok) (hlist:PureP (findFn tab) 197 [.sl g.nn g.l,.int .i64 n] (fun v=>∃b,v=.bool b)):
 PureP (findFn tab) 169 [g.av,.int .i64 n] (fun v=>∃b,v=.bool b):=by
 obtain⟨g1,g2,g3,g4,g5,g6,g7⟩:=hg
 unfold Ln at g4 g5
 refine pureP_of rfl rfl ?_
 (conv=>whnf);repeat' (first|(refine kA ?_;conv=>whnf)|(refine Br.mk (fun hc=>?_) fun hc=>?_<;>first|exact hc.elim|conv=>whnf)|(refine callK_of (bare (g:=g)) ?_;rintro _ ⟨b,rfl⟩;conv=>whnf)|(refine callK_of (inRB (n:=g.n)) ?_;rintro _ ⟨b,rfl⟩;conv=>whnf)|(refine callK_of (fvalid (n:=g.n) (d:=g.d)) ?_;rintro _ ⟨b,rfl,_⟩;conv=>whnf)|(refine callK_of (strOk g4) ?_;rintro _ ⟨b,rfl⟩;conv=>whnf)|(refine callK_of (pathOk g5 g7) ?_;rintro _ ⟨b,rfl⟩;conv=>whnf)|(refine callK_of hlist ?_;rintro _ ⟨b,rfl⟩;conv=>whnf)|(refine kB ?_))
 all_goals exact⟨_,rfl⟩
theorem valid {n:Nat} (hn:n<2^60):∀{g:GV},g.ok→PureP (findFn tab) 169 [g.av,.int .i64 n] (fun v=>∃b,v=.bool b):=by
 induction n with
 |zero=>intro g hg;exact validV hg (list0 hg.2.2.2.2.1)
 |succ n ih=>intro g hg;exact validV hg (listS (ih (by omega)) (by omega) hg.2.2.2.2.1 hg.2.2.2.2.2.2)
theorem Valid {g:GV} (hg:g.ok):PureP (findFn tab) 138 [g.av] (fun v=>∃b,v=.bool b):=by
 refine pureP_of rfl rfl ?_
 (conv=>whnf);repeat' (first|(refine kA ?_;conv=>whnf)|(refine Br.mk (fun hc=>?_) fun hc=>?_<;>first|exact hc.elim|conv=>whnf)|(refine callK_of (valid (n:=8) (by omega) hg) ?_;rintro _ ⟨b,rfl⟩;conv=>whnf)|(refine kB ?_))
 all_goals exact⟨_,rfl⟩
def bareP (v:GV) (n d s l:Bool):Prop:=(n=true∨v.n=0)∧(d=true∨v.d=0)∧(s=true∨v.s=[])∧(l=true∨v.l.length=0)
instance (v:GV) (n d s l:Bool):Decidable (bareP v n d s l):=by unfold bareP;infer_instance
theorem bareE {v:GV} {n d s l:Bool} (hl:v.l.length<2^63):PureP (findFn tab) 193 [v.av,.bool n,.bool d,.bool s,.bool l] (· =.bool (decide (bareP v n d s l))):=by
 cases n<;>cases d<;>cases s<;>cases l
 all_goals
  refine pureP_of rfl rfl ?_
  (conv=>whnf);repeat' (first|(refine kA ?_;conv=>whnf)|(refine Br.mk (fun hc=>?_) fun hc=>?_<;>first|exact hc.elim|conv=>whnf)  |(refine kB ?_))
 all_goals first
  |(refine bool_t ?_;unfold bareP;refine⟨?_,?_,?_,?_⟩<;>first|(left;rfl)|(right;first|assumption|omega))
  |(refine bool_f ?_;unfold bareP;rintro⟨h1,h2,h3,h4⟩;simp only[Bool.false_eq_true,false_or,true_or]at h1 h2 h3 h4;first|contradiction|omega)
theorem strE {s:List UInt8} (hl:s.length<2^63):PureP (findFn tab) 195 [.str s] (· =.bool (decide (okS s))):=by
 refine pureP_of rfl rfl ?_
 (conv=>whnf);repeat' (first|(refine kA ?_;conv=>whnf)|(refine Br.mk (fun hc=>?_) fun hc=>?_<;>first|exact hc.elim|conv=>whnf)  |(refine kB ?_))
 refine loop_inv (fun m env s'=>∃i:Nat,m=s.length-i∧env=[(0,.str s),(3,.int .i64 i)]∧s'=⟨[],0⟩∧∀c∈s.take i,badB c=false) ?_ _ _ _ ⟨0,rfl,rfl,rfl,by simp⟩
 rintro _ _ _ ⟨i,rfl,rfl,rfl,hx⟩
 refine⟨rfl,?_⟩
 (conv=>whnf);repeat' (first|(refine kA ?_;conv=>whnf)|(refine Br.mk (fun hc=>?_) fun hc=>?_<;>first|exact hc.elim|conv=>whnf)  |(refine kB ?_))
 all_goals first
  |exact again.mk ⟨_,by omega,i+1,rfl,rfl,rfl,all_take_succ (by omega) hx (by unfold badB;simp;omega)⟩
  |(refine bool_f fun h=>?_;have:=h.2 s[i] (List.getElem_mem (by omega));unfold badB at this;simp at this;omega)
  |(rw [List.take_of_length_le (by omega)]at hx;exact bool_t ⟨by omega,hx⟩)
  |(refine bool_f fun h=>?_;have:=h.1;omega)
theorem validL {v:GV} (hv:v.ok) (hk:kindP v) {n:Int}:PureP (findFn tab) 169 [v.av,.int .i64 n] (· =.bool (decide (leafV v))):=by
 obtain⟨g1,g2,g3,g4,g5,g6,g7⟩:=hv
 unfold Ln at g4 g5
 unfold kindP at hk
 refine pureP_of rfl rfl ?_
 (conv=>whnf);repeat' (first|(refine kA ?_;conv=>whnf)|(refine Br.mk (fun hc=>?_) fun hc=>?_<;>first|exact hc.elim|conv=>whnf)|(refine callB (bareE (v:=v) g5) (fun hb=>?_) (fun hb=>?_)<;>conv=>whnf)|(refine callB (inP2 (n:=v.n)) (fun hr=>?_) (fun hr=>?_)<;>conv=>whnf)|(refine callB (strE (s:=v.s) g4) (fun hr=>?_) (fun hr=>?_)<;>conv=>whnf)|(refine kB ?_))
 all_goals unfold bareP at hb
 all_goals simp only[Bool.false_eq_true,false_or,true_or,true_and]at hb
 all_goals first
  |exact bool_t (leaf_1 (by omega) hb.1 hb.2.2 hb.2.1 (by omega))
  |exact bool_t (leaf_2 (by omega) hb.1 hb.2.2 hb.2.1 hr)
  |exact bool_t (leaf_4 (by omega) hb.2.1 hb.2.2 hb.1 hr)
  |exact bool_f fun h=>hb ⟨h.1,leaf_s h (by omega),h.2.1⟩
  |exact bool_f fun h=>hb ⟨(leaf_z h (by omega)).1,h.1,h.2.1⟩
  |(refine bool_f fun h=>?_;have:=leaf_n h (by omega);omega)
  |exact bool_f fun h=>hr (leaf_r h (by omega))
  |exact bool_f fun h=>hr (leaf_z h (by omega)).2
  |(exfalso;omega)
theorem ValidL {v:GV} (hv:v.ok) (hk:kindP v):PureP (findFn tab) 138 [v.av] (· =.bool (decide (leafV v))):=by
 refine pureP_of rfl rfl ?_
 (conv=>whnf);repeat' (first|(refine kA ?_;conv=>whnf)|(refine Br.mk (fun hc=>?_) fun hc=>?_<;>first|exact hc.elim|conv=>whnf)|(refine callB (validL (v:=v) hv hk) (fun hr=>?_) (fun hr=>?_)<;>conv=>whnf)|(refine kB ?_))
 all_goals first|exact bool_t (by assumption)|exact bool_f (by assumption)
theorem plain2 {v:GV} (hv:v.ok):PureP (findFn tab) 99 [v.av] (· =.bool (decide (leafV v))):=by
 by_cases hk:kindP v
 ·have hk':=hk
  unfold kindP at hk'
  refine pureP_of rfl rfl ?_
  (conv=>whnf);repeat' (first|(refine kA ?_;conv=>whnf)|(refine Br.mk (fun hc=>?_) fun hc=>?_<;>first|exact hc.elim|conv=>whnf)|(refine callB (ValidL (v:=v) hv hk) (fun hr=>?_) (fun hr=>?_)<;>conv=>whnf)|(refine kB ?_))
  all_goals first|exact bool_t (by assumption)|exact bool_f (by assumption)|(exfalso;omega)
 ·have hk':=hk
  unfold kindP at hk'
  refine pureP_of rfl rfl ?_
  (conv=>whnf);repeat' (first|(refine kA ?_;conv=>whnf)|(refine Br.mk (fun hc=>?_) fun hc=>?_<;>first|exact hc.elim|conv=>whnf)|(refine callK_of (Valid (g:=v) hv) ?_;rintro _ ⟨b,rfl⟩;conv=>whnf)|(refine kB ?_))
  all_goals first|exact bool_f (fun h=>hk (leaf_kind h))|(exfalso;omega)
theorem keysR {P:List GP} {nn:Bool} (hl:P.length<2^40):PureP (findFn tab) 119 [.sl nn (vs GP.av P)] (fun v=>∃b,v=.sl b (vs .str (keysOf P))):=by
 refine pureP_of rfl rfl ?_
 (conv=>whnf);repeat' (first|(refine kA ?_;conv=>whnf)|(refine Br.mk (fun hc=>?_) fun hc=>?_<;>first|exact hc.elim|conv=>whnf)  |(refine kB ?_))
 refine loop_inv (fun m env s=>∃(i c go n:Nat) (b:Bool),m=P.length-i∧i≤P.length∧n=i∧env=[(0,.sl nn (vs GP.av P)),(3,.own 0 go 0 n),(4,.int .i64 i)]∧s=⟨[.arr go 1 b true (vs .str (keysOf (P.take i)))],c⟩) ?_ _ _ _ ⟨0,_,_,0,_,rfl,by omega,rfl,rfl,rfl⟩
 rintro _ _ _ ⟨i,c,go,n,b,rfl,hi,hn,rfl,rfl⟩
 refine⟨rfl,?_⟩
 (conv=>whnf);repeat' (first|(refine apV1 (x:=(P[i]).key) (fun _=>rfl) (by simp;omega) (by simp;omega) ?_;conv=>whnf)|(refine kA ?_;conv=>whnf)|(refine Br.mk (fun hc=>?_) fun hc=>?_<;>first|exact hc.elim|conv=>whnf)|(refine kB ?_))
 ·exact again.mk ⟨_,by omega,i+1,_,_,_,_,rfl,by omega,by simp;omega,rfl,by rw[keysOf_snoc (by omega)]⟩
 ·obtain rfl:i=P.length:=by omega
  refine⟨b,?_⟩
  rw[sub_vs,hn]
  simp
  rw[List.take_of_length_le (by simp)]
theorem partsR {L:List (List UInt8)} {P:List GP} {ln pn:Bool} (hL:L.length<2^63) (hs:∀s∈L,s.length<2^63) (hP:P.length<2^63) (hp:∀p∈P,p.ok):PureP (findFn tab) 84 [.sl ln (vs .str L),.sl pn (vs GP.av P)] (· =.int .i64 (partsE L P)):=by
 have hk:=keysOf_ln hp
 have hkl:(keysOf P).length<2^63:=by rw[keysOf_len];exact hP
 refine pureP_of rfl rfl ?_
 (conv=>whnf);repeat' (first|(refine kA ?_;conv=>whnf)|(refine Br.mk (fun hc=>?_) fun hc=>?_<;>first|exact hc.elim|conv=>whnf)  |(refine kB ?_))
 ·exact parts_4 (by omega)
 ·exact parts_4 (by omega)
 have h16:¬(8<L.length∨16<P.length):=by omega
 refine callK_of (keysR (P:=P) (by omega)) ?_
 rintro _ ⟨b,rfl⟩
 (conv=>whnf);repeat' (first|(refine callB (namesR hL hs) (fun h1=>?_) (fun h1=>?_)<;>conv=>whnf)|(refine callB (namesR hkl hk) (fun h2=>?_) (fun h2=>?_)<;>conv=>whnf)|(refine callB (rises2 hL) (fun h3=>?_) (fun h3=>?_)<;>conv=>whnf)|(refine callB (rises2 hkl) (fun h4=>?_) (fun h4=>?_)<;>conv=>whnf)|(refine kA ?_;conv=>whnf)|(refine Br.mk (fun hc=>?_) fun hc=>?_<;>first|exact hc.elim|conv=>whnf)|(refine kB ?_))
 all_goals first
  |exact parts_6 h16 fun h=>h1 h.1
  |exact parts_6 h16 fun h=>h2 h.2
  |exact parts_26 h16 ⟨h1,h2⟩ fun h=>h3 h.1
  |exact parts_26 h16 ⟨h1,h2⟩ fun h=>h4 h.2
  |skip
 refine loop_inv (fun m env s=>∃(i:Nat),m=P.length-i∧env=[(1,.sl pn (vs GP.av P)),(6,.int .i64 i)]∧s=⟨[],0⟩∧∀p∈P.take i,leafV p.v) ?_ _ _ _ ⟨0,rfl,rfl,rfl,by simp⟩
 rintro _ _ _ ⟨i,rfl,rfl,rfl,hx⟩
 refine⟨rfl,?_⟩
 (conv=>whnf);repeat' (first|(refine callB (plain2 (v:=(P[i]).v) (hp _ (List.getElem_mem (by omega))).2) (fun hr=>?_) (fun hr=>?_)<;>conv=>whnf)|(refine kA ?_;conv=>whnf)|(refine Br.mk (fun hc=>?_) fun hc=>?_<;>first|exact hc.elim|conv=>whnf)|(refine kB ?_))
 ·exact again.mk ⟨_,by omega,i+1,rfl,rfl,rfl,all_take_succ (by omega) hx hr⟩
 ·exact parts_8 h16 ⟨h1,h2⟩ ⟨h3,h4⟩ fun h=>hr (h _ (List.getElem_mem _))
 ·rw[take_all hc]at hx
  exact parts_0 h16 ⟨h1,h2⟩ ⟨h3,h4⟩ hx
end AI
end Go.Proofs.YtgmgkkbpgndaaaaGreatDoor
