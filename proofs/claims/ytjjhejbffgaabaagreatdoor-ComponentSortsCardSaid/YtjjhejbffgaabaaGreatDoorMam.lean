/- component.Topo. The law ComponentSorts, about the evaluator. The law ComponentSorts, about the evaluator. -/
import Derived.Test.YtjjhejbffgaabaaGreatDoorMah
import Derived.Test.YtjjhejbffgaabaaGreatDoorMal
set_option linter.unusedVariables false
set_option maxRecDepth 4000
namespace Go.Proofs.YtjjhejbffgaabaaGreatDoor
namespace AI
def Ph (es:List (Int×Int)) (k:Int):Int:=((es.countP fun e=>decide (e.2=k):Nat):Int)
theorem Ab7 (es:List (Int×Int)) (k:Int):0≤Ph es k∧Ph es k≤es.length:=by
 unfold Ph
 have:=List.countP_le_length (p:=fun e:Int×Int=>decide (e.2=k)) (l:=es)
 omega
theorem YL {es:List (Int×Int)} {i:Nat} (h:i<es.length):Ph (es.take (i+1))=Ku (Ph (es.take i)) (es[i]).2 (Ph (es.take i) (es[i]).2+1):=by
 funext k
 unfold Ph Ku
 rw[List.take_succ_eq_append_getElem h,List.countP_append]
 by_cases e:k=(es[i]).2
 ·rw[if_pos e,e];simp
 ·have e':¬(es[i]).2=k:=fun h=>e h.symm
  rw[if_neg e];simp[e']
theorem Aat (es:List (Int×Int)):Ph es=fun k=>(GU es [] k:Int):=by
 funext k
 unfold Ph GU
 congr 2
 funext e
 simp
def dI (es:List (Int×Int)) (O:List Int) (x:Int) (i:Nat) (k:Int):Int:=(GU es O k:Int)-((es.take i).countP (fun e=>decide (e.2=k∧e.1=x)):Nat)
theorem Ab8 (es:List (Int×Int)) (O:List Int) (x:Int):dI es O x 0=fun k=>(GU es O k:Int):=by funext k;simp[dI]
theorem Ab9 (es:List (Int×Int)) (O:List Int) (k:Int):GU es O k≤es.length:=List.countP_le_length
theorem Ae5 {es:List (Int×Int)} {O:List Int} {x:Int} {i:Nat} (h:i<es.length) (hx:(es[i]).1=x):dI es O x (i+1)=Ku (dI es O x i) (es[i]).2 (dI es O x i (es[i]).2-1):=by
 funext k
 unfold dI Ku
 rw[List.take_succ_eq_append_getElem h,List.countP_append]
 by_cases e:k=(es[i]).2
 ·rw[if_pos e,e];simp[hx];omega
 ·have e':¬(es[i]).2=k:=fun h=>e h.symm
  rw[if_neg e];simp[e']
theorem AdD {es:List (Int×Int)} {O:List Int} {x:Int} {i:Nat} (h:i<es.length) (hx:¬(es[i]).1=x):dI es O x (i+1)=dI es O x i:=by
 funext k
 unfold dI
 rw[List.take_succ_eq_append_getElem h,List.countP_append]
 simp[hx]
theorem AdE {es:List (Int×Int)} {O:List Int} {x:Int} {i:Nat} (hx:x∉O) (h:¬i<es.length):dI es O x i=fun k=>(GU es (O++[x]) k:Int):=by
 funext k
 unfold dI
 rw[List.take_of_length_le (by omega)]
 have:=Yg es hx k
 omega
theorem Ae6 (es:List (Int×Int)) (O:List Int) (x:Int) (i:Nat) (k:Int):-(es.length:Int)≤dI es O x i k∧dI es O x i k≤es.length:=by
 unfold dI
 have h1:=Ab9 es O k
 have h2:(es.take i).countP (fun e=>decide (e.2=k∧e.1=x))≤es.length:=Nat.le_trans List.countP_le_length (by simp;omega)
 omega
def AgI:Option (List Int)→AV→Prop
 |some l,v=>∃b,v=.EY [.sl b (vs (.int .i64) l),.bool true]
 |none,v=>v=.EY [.sl false [],.bool false]
theorem YM {ids:List Int} {es:List (Int×Int)} {O:List Int} {k:Int} (hl:O.length<ids.length) (h:IW ids es O=some k):Ik ids es (ids.length-O.length) O=Ik ids es (ids.length-(O++[k]).length) (O++[k]):=by
 obtain⟨n,hn⟩:∃n,ids.length-O.length=n+1:=⟨ids.length-O.length-1,by omega⟩
 rw[hn,show ids.length-(O++[k]).length=n by simp;omega]
 show(match IW ids es O with|some k=>Ik ids es n (O++[k])|none=>none)=_
 rw[h]
theorem YN {ids:List Int} {es:List (Int×Int)} {O:List Int} (hl:O.length<ids.length) (h:IW ids es O=none):Ik ids es (ids.length-O.length) O=none:=by
 obtain⟨n,hn⟩:∃n,ids.length-O.length=n+1:=⟨ids.length-O.length-1,by omega⟩
 rw[hn]
 show(match IW ids es O with|some k=>Ik ids es n (O++[k])|none=>none)=_
 rw[h]
theorem U1 {types:List (List UInt8)} {g:GG}:(BH types g).length=(CG types g).length:=by simp[BH]
theorem Nu {types:List (List UInt8)} {g:GG} {i:Nat} (h:i<(CG types g).length):(BH types g)[i]'(by rw[U1];exact h)=(((CG types g)[i]).fr,((CG types g)[i]).to):=by simp[BH]
theorem Aca {g:GG} (h:Bg g=0):∀z∈AL g,1≤z∧z≤1000000:=fun y hy=>by
 obtain⟨i,hi,rfl⟩:=List.getElem_of_mem hy
 have hi':i<g.nodes.length:=by rw[← CO];exact hi
 rw[Io hi']
 have h1:=Px hi' ((JX h).2.2.1 i hi')
 have h2:=(JX h).2.1
 unfold F5 at h2
 omega
set_option maxHeartbeats 4000000 in
theorem AeD {types:List (List UInt8)} {tn:Bool} (hl:types.length<2^63) {g:GG} (hg:g.ok) (hN:g.nodes.length<1000) (hE:g.edges.length<1000):
 Ar (Ae tab) 16 [g.av,.sl tn (vs .str types)] (AgI (if Bg g=0 then JY (AL g) (BH types g)else none)):=by
 have pc:=TB hg
 by_cases hc:Bg g=0
 case neg=>
  rw[if_neg hc]
  refine Ad rfl rfl ?_
  (conv=>whnf);repeat' (first|(refine Aa pc ?_;rintro _ rfl;conv=>whnf)|(refine kA ?_;conv=>whnf)|(refine Br.mk (fun hc=>?_) fun hc=>?_<;>first|exact hc.elim|conv=>whnf)|(refine kB ?_))
  all_goals first|exact absurd ‹_› hc|rfl
 rw[if_pos hc]
 rw[hc]at pc
 obtain⟨_,⟨be,rfl⟩,pe⟩:=(WM (types:=types) (tn:=tn) hl hg (by omega)).Ob
 have hnd:=PY hc
 have hinc:=Tz hc
 have hbig:=Aca hc
 have Dx:=IY hc
 have hEl:(CG types g).length≤g.edges.length:=List.length_filter_le _ _
 have hel:=@U1 types g
 have hil:=CO g
 refine Ad rfl rfl ?_
 (conv=>whnf);repeat' (first|(refine Aa pc ?_;rintro _ rfl;conv=>whnf)|(refine kA ?_;conv=>whnf)|(refine Br.mk (fun hc=>?_) fun hc=>?_<;>first|exact hc.elim|conv=>whnf)|(refine kB ?_))
 all_goals first|(exfalso;omega)|skip
 refine Ah (fun m env s=>∃(i c:Nat),m=g.nodes.length-i∧env=[(1,.sl tn (vs .str types)),(2,.ref 0 0 0 0),(6,.map 1 1),(24,.sl g.nn (vs GN.av g.nodes)),(25,.int .i64 g.nodes.length),(26,.int .i64 i)]∧s=⟨[.arr 0 4 true true [g.av],.mp 1 true (Bq (Aj ((AL g).take i) (Ph [])))],c⟩) ?_ _ _ _ ⟨0,_,rfl,rfl,rfl⟩
 rintro _ _ _ ⟨i,c,rfl,rfl,rfl⟩
 refine⟨rfl,?_⟩
 by_cases hlt:i<g.nodes.length
 ·have hx:(g.nodes[i]).id∉(AL g).take i:=by
   have h1:=F6 hlt
   have h2:=hnd.sublist (List.take_sublist (i+1) (AL g))
   rw[h1,List.nodup_append]at h2
   exact fun hm=>h2.2.2 _ hm _ (by simp) rfl
  (conv=>whnf);repeat' (first|(refine msN hx (show Ph [] (g.nodes[i]).id=0 from rfl) ?_;conv=>whnf)|(refine kA ?_;conv=>whnf)|(refine Br.mk (fun hc=>?_) fun hc=>?_<;>first|exact hc.elim|conv=>whnf)|(refine kB ?_))
  all_goals first
   |(exfalso;omega)
   |(rw [← F6 hlt];exact again.mk ⟨_,by omega,i+1,_,rfl,rfl,rfl⟩)
 rw[List.take_of_length_le (by omega)]
 (conv=>whnf);repeat' (first|(refine Aa pe ?_;rintro _ rfl;conv=>whnf)|(refine kA ?_;conv=>whnf)|(refine Br.mk (fun hc=>?_) fun hc=>?_<;>first|exact hc.elim|conv=>whnf)|(refine kB ?_))
 all_goals first|(exfalso;omega)|skip
 clear hc hlt
 refine Ah (fun m env s=>∃(i c:Nat),m=(CG types g).length-i∧env=[(6,.map 1 1),(9,.sl be (vs GE.av (CG types g))),(37,.sl be (vs GE.av (CG types g))),(38,.int .i64 (CG types g).length),(39,.int .i64 i)]∧s=⟨[.arr 0 4 true true [g.av],.mp 1 true (Bq (Aj (AL g) (Ph ((BH types g).take i))))],c⟩) ?_ _ _ _ ⟨0,_,rfl,rfl,rfl⟩
 rintro _ _ _ ⟨i,c,rfl,rfl,rfl⟩
 refine⟨rfl,?_⟩
 by_cases hlt:i<(CG types g).length
 ·obtain⟨ha,hb⟩:=Dx _ (List.mem_filter.1 (List.getElem_mem hlt)).1
  have hs:=YL (es:=BH types g) (i:=i) (by omega)
  rw[Nu hlt]at hs
  dsimp only at hs
  have hcl:=Ab7 ((BH types g).take i) ((CG types g)[i]).to
  have Acb:((BH types g).take i).length≤1000:=by rw[List.length_take];omega
  (conv=>whnf);repeat' (first|(refine fkL hb (fun _=>?_);conv=>whnf)|(refine msL hnd hb ?_;conv=>whnf)|(refine kA ?_;conv=>whnf)|(refine Br.mk (fun hc=>?_) fun hc=>?_<;>first|exact hc.elim|conv=>whnf)|(refine kB ?_))
  all_goals first
   |(exfalso;omega)
   |(rw [← hs];exact again.mk ⟨_,by omega,i+1,_,rfl,rfl,rfl⟩)
 rw[List.take_of_length_le (by omega),Aat]
 (conv=>whnf);repeat' (first  |(refine kA ?_;conv=>whnf)|(refine Br.mk (fun hc=>?_) fun hc=>?_<;>first|exact hc.elim|conv=>whnf)|(refine kB ?_))
 all_goals first|(exfalso;omega)|skip
 clear hlt hc
 have hl0:leftB (AL g) []=AL g:=List.filter_eq_self.2 fun _ _=>by simp
 rw[show Aj (AL g) (fun k=>(GU (BH types g) [] k:Int))=Aj (leftB (AL g) []) (fun k=>(GU (BH types g) [] k:Int)) by rw[hl0]]
 refine Ah (fun m env s=>∃(c ga n:Nat) (b:Bool) (O:List Int),m=(leftB (AL g) O).length∧n=O.length∧O.Nodup∧(∀ x∈O,x∈AL g)∧Xu (BH types g) O∧Ik (AL g) (BH types g) ((AL g).length-O.length) O=JY (AL g) (BH types g)∧env=[(6,.map 1 1),(9,.sl be (vs GE.av (CG types g))),(12,.own 2 ga 0 n)]∧s=⟨[.arr 0 4 true true [g.av],.mp 1 true (Bq (Aj (leftB (AL g) O) fun k=>(GU (BH types g) O k:Int))),.arr ga 1 b true (vs (.int .i64) O)],c⟩) ?_ _ _ _ ⟨_,_,0,_,[],rfl,rfl,.nil,by simp,Yf _,rfl,rfl,rfl⟩
 rintro _ _ _ ⟨c,ga,n,b,O,rfl,rfl,hO1,hO2,hO3,hT,rfl,rfl⟩
 refine⟨rfl,?_⟩
 have hlen:=Rz hnd hO1 hO2
 have hML:=@YO (leftB (AL g) O) fun k=>(GU (BH types g) O k:Int)
 by_cases h0:leftB (AL g) O=[]
 ·rw[h0]at hlen hML
  have hT':JY (AL g) (BH types g)=some O:=by
   rw[← hT,show(AL g).length-O.length=0 by simp at hlen;omega];rfl
  rw[hT']
  rw[h0]
  have hM0:(Bq (Aj [] fun k=>(GU (BH types g) O k:Int))).length=0:=rfl
  (conv=>whnf);repeat' (first  |(refine kA ?_;conv=>whnf)|(refine Br.mk (fun hc=>?_) fun hc=>?_<;>first|exact hc.elim|conv=>whnf)|(refine kB ?_))
  all_goals first
   |(exfalso;omega)
   |exact⟨b,rfl⟩
 have hnd1:(leftB (AL g) O).Nodup:=hnd.sublist (List.filter_sublist)
 have AcL:(leftB (AL g) O).Pairwise (· <·):=hinc.sublist (List.filter_sublist)
 have AcM:∀z∈leftB (AL g) O,1≤z∧z≤1000000:=fun z hz=>hbig z (List.mem_filter.1 hz).1
 have hpos:0<(leftB (AL g) O).length:=List.length_pos_iff.2 h0
 have hOl:O.length<(AL g).length:=by omega
 have hnx:=VZ (AL g) (BH types g) O
 generalize hks:leftB (AL g) O=ks at*
 cases hf:IW (AL g) (BH types g) O with
 |none=>
  have hT':=YN hOl hf
  rw[hT]at hT'
  rw[hT']
  rw[hf]at hnx
  have hno:∀k∈ks,GU (BH types g) O k≠0:=fun k hk=>by
   have:=(List.find?_eq_none.1 hnx.symm) k hk
   simpa using this
  (conv=>whnf);repeat' (first|(refine (AcN).mono ?_;rintro _ _ ⟨c',rfl,rfl⟩;conv=>whnf)|(refine (AcO h0 AcL AcM (by omega)).mono ?_;rintro _ _ ⟨c',rfl,rfl⟩;conv=>whnf)|(refine kA ?_;conv=>whnf)|(refine Br.mk (fun hc=>?_) fun hc=>?_<;>first|exact hc.elim|conv=>whnf)|(refine kB ?_))
  all_goals first|(exfalso;omega)|skip
  refine Ah (fun m env s=>∃(i c k1 g2:Nat),m=ks.length-i∧env=[(6,.map 1 1),(9,.sl be (vs GE.av (CG types g))),(12,.own 2 ga 0 O.length),(13,.int .i64 0),(14,.bool false),(54,.own 4 g2 0 ks.length),(55,.int .i64 ks.length),(56,.int .i64 i)]∧s=⟨[.arr 0 4 true true [g.av],.mp 1 true (Bq (Aj ks fun k=>(GU (BH types g) O k:Int))),.arr ga 1 b true (vs (.int .i64) O),.arr k1 1 true false [.map 1 1],.arr g2 1 true true (vs (.int .i64) ks)],c⟩) ?_ _ _ _ ⟨0,_,_,_,rfl,rfl,rfl⟩
  rintro _ _ _ ⟨i,c,k1,g2,rfl,rfl,rfl⟩
  refine⟨rfl,?_⟩
  by_cases hlt:i<ks.length
  ·have hm:ks[i]∈ks:=List.getElem_mem hlt
   have hne:=hno _ hm
   (conv=>whnf);repeat' (first|(refine fkL hm (fun _=>?_);conv=>whnf)|(refine kA ?_;conv=>whnf)|(refine Br.mk (fun hc=>?_) fun hc=>?_<;>first|exact hc.elim|conv=>whnf)|(refine kB ?_))
   all_goals first
        |(exfalso;omega)
        |exact again.mk ⟨_,by omega,i+1,_,_,_,rfl,rfl,rfl⟩
  ·(conv=>whnf);repeat' (first  |(refine kA ?_;conv=>whnf)|(refine Br.mk (fun hc=>?_) fun hc=>?_<;>first|exact hc.elim|conv=>whnf)|(refine kB ?_))
   all_goals first
        |(exfalso;omega)
        |rfl
 |some k=>
  have hT':=YM hOl hf
  rw[hT]at hT'
  obtain⟨hk1,hk2,hk3⟩:=LC hf
  rw[hf]at hnx
  obtain⟨hkz,j,hj,hjk,hjb⟩:=List.find?_eq_some_iff_getElem.1 hnx.symm
  have Aix:GU (BH types g) O k=0:=by simpa using hkz
  (conv=>whnf);repeat' (first|(refine (AcN).mono ?_;rintro _ _ ⟨c',rfl,rfl⟩;conv=>whnf)|(refine (AcO h0 AcL AcM (by omega)).mono ?_;rintro _ _ ⟨c',rfl,rfl⟩;conv=>whnf)|(refine kA ?_;conv=>whnf)|(refine Br.mk (fun hc=>?_) fun hc=>?_<;>first|exact hc.elim|conv=>whnf)|(refine kB ?_))
  all_goals first|(exfalso;omega)|skip
  refine Ah (fun m env s=>∃(i c k1 g2:Nat),m=ks.length-i∧i≤j∧env=[(6,.map 1 1),(9,.sl be (vs GE.av (CG types g))),(12,.own 2 ga 0 O.length),(13,.int .i64 0),(14,.bool false),(54,.own 4 g2 0 ks.length),(55,.int .i64 ks.length),(56,.int .i64 i)]∧s=⟨[.arr 0 4 true true [g.av],.mp 1 true (Bq (Aj ks fun k=>(GU (BH types g) O k:Int))),.arr ga 1 b true (vs (.int .i64) O),.arr k1 1 true false [.map 1 1],.arr g2 1 true true (vs (.int .i64) ks)],c⟩) ?_ _ _ _ ⟨0,_,_,_,rfl,by omega,rfl,rfl⟩
  rintro _ _ _ ⟨i,c,k1,g2,rfl,hij,rfl,rfl⟩
  refine⟨rfl,?_⟩
  by_cases hlt:i<j
  ·have hm:ks[i]'(by omega)∈ks:=List.getElem_mem _
   have hne:GU (BH types g) O (ks[i]'(by omega))≠0:=by simpa using hjb i hlt
   (conv=>whnf);repeat' (first|(refine fkL hm (fun _=>?_);conv=>whnf)|(refine kA ?_;conv=>whnf)|(refine Br.mk (fun hc=>?_) fun hc=>?_<;>first|exact hc.elim|conv=>whnf)|(refine kB ?_))
   all_goals first
        |(exfalso;omega)
        |exact again.mk ⟨_,by omega,i+1,_,_,_,rfl,by omega,rfl,rfl⟩
  ·obtain rfl:i=j:=by omega
   have hm:k∈ks:=by rw[← hjk];exact List.getElem_mem _
   have n1:nth (vs (.int .i64) ks) (Int.toNat (Nat.cast i))=some (.int .i64 k):=by rw[← hjk];exact nVN hj
   (conv=>whnf);repeat' (first|(apply Am;(· exact n1);conv=>whnf)|(refine fkD hm hnd1 (fun _ _=>?_);conv=>whnf)|(refine kA ?_;conv=>whnf)|(refine Br.mk (fun hc=>?_) fun hc=>?_<;>first|exact hc.elim|conv=>whnf)|(refine kB ?_))
   all_goals first|(exfalso;omega)|skip
   rename_i he
   have Ae8:(O++[k]).Nodup:=by
        rw[List.nodup_append]
        exact⟨hO1,by simp,fun a ha b hb e=>hk2 (by rw[List.mem_singleton.1 hb]at e;rw[← e];exact ha)⟩
   have Ae9:∀x∈O++[k],x∈AL g:=fun x hx=>by
        rcases List.mem_append.1 hx with h|h
        ·exact hO2 x h
        ·rw[List.mem_singleton.1 h];exact hk1
   have AgJ:=V3 hO3 hk3
   have hlen2:=Rz hnd Ae8 Ae9
   have Afa:(ks.filter fun y=>decide (y≠k))=leftB (AL g) (O++[k]):=by rw[V4,hks]
   have AgK:(leftB (AL g) (O++[k])).Nodup:=hnd.sublist (List.filter_sublist)
   rw[he,Afa,←Ab8 (BH types g) O k]
   rw[List.length_append,List.length_singleton]at hlen2
   clear he hf hnx hjb hkz hjk n1 hm Afa
   refine Ah (fun m env s=>∃(i c k1 g2:Nat),m=(CG types g).length-i∧env=[(6,.map 1 1),(9,.sl be (vs GE.av (CG types g))),(12,.own 2 ga 0 O.length),(13,.int .i64 k),(70,.sl be (vs GE.av (CG types g))),(71,.int .i64 (CG types g).length),(72,.int .i64 i)]∧s=⟨[.arr 0 4 true true [g.av],.mp 1 true (Bq (Aj (leftB (AL g) (O++[k])) (dI (BH types g) O k i))),.arr ga 1 b true (vs (.int .i64) O),.arr k1 1 true false [.map 1 1],.arr g2 1 true true (vs (.int .i64) ks)],c⟩) ?_ _ _ _ ⟨0,_,_,_,rfl,rfl,rfl⟩
   rintro _ _ _ ⟨i,c,k1,g2,rfl,rfl,rfl⟩
   refine⟨rfl,?_⟩
   by_cases hlt:i<(CG types g).length
   ·obtain⟨ha,hb⟩:=Dx _ (List.mem_filter.1 (List.getElem_mem hlt)).1
    have hmem:(((CG types g)[i]).fr,((CG types g)[i]).to)∈BH types g:=by rw[← Nu hlt];exact List.getElem_mem _
    by_cases hfr:((CG types g)[i]).fr=k
    ·have hto:((CG types g)[i]).to∈leftB (AL g) (O++[k]):=by
      refine List.mem_filter.2 ⟨hb,decide_eq_true fun h=>?_⟩
      rcases List.mem_append.1 h with h|h
      ·exact hk2 (by have:=hO3 _ hmem h;rw[← hfr];exact this)
      ·exact hk2 (by have:=hk3 _ hmem (List.mem_singleton.1 h);rw[← hfr];exact this)
     have hs:=Ae5 (es:=BH types g) (O:=O) (x:=k) (i:=i) (by omega) (by rw[Nu hlt];exact hfr)
     rw[Nu hlt]at hs
     dsimp only at hs
     have hcl:=Ae6 (BH types g) O k i ((CG types g)[i]).to
     (conv=>whnf);repeat' (first|(refine fkL hto (fun _=>?_);conv=>whnf)|(refine msL AgK hto ?_;conv=>whnf)|(refine kA ?_;conv=>whnf)|(refine Br.mk (fun hc=>?_) fun hc=>?_<;>first|exact hc.elim|conv=>whnf)|(refine kB ?_))
     all_goals first
      |(exfalso;omega)
      |(rw [← hs];exact again.mk ⟨_,by omega,i+1,_,_,_,rfl,rfl,rfl⟩)
    ·have hs:=AdD (es:=BH types g) (O:=O) (x:=k) (i:=i) (by omega) (by rw[Nu hlt];exact hfr)
     (conv=>whnf);repeat' (first  |(refine kA ?_;conv=>whnf)|(refine Br.mk (fun hc=>?_) fun hc=>?_<;>first|exact hc.elim|conv=>whnf)|(refine kB ?_))
     all_goals first
      |(exfalso;omega)
      |(rw [← hs];exact again.mk ⟨_,by omega,i+1,_,_,_,rfl,rfl,rfl⟩)
   ·rw[AdE hk2 (by omega)]
    (conv=>whnf);repeat' (first|(refine LG (f:=AV.int .i64) (l:=O) (x:=k) (fun _=>rfl) rfl (by omega) ?_;conv=>whnf)|(refine kA ?_;conv=>whnf)|(refine Br.mk (fun hc=>?_) fun hc=>?_<;>first|exact hc.elim|conv=>whnf)|(refine kB ?_))
    all_goals first
     |(exfalso;omega)
     |exact again.mk ⟨_,by omega,_,_,_,_,O++[k],rfl,by simp,Ae8,Ae9,AgJ,hT'.symm,rfl,rfl⟩
theorem VD {ids:List Int} {es:List (Int×Int)}:∀(n:Nat) (out l:List Int),Ik ids es n out=some l→l.length=out.length+n∧∃m,l=out++m
 |0,out,l,h=>by cases h;exact⟨rfl,[],by simp⟩
 |n+1,out,l,h=>by
  unfold Ik at h
  split at h
  ·rename_i k hk
   obtain⟨h1,m,h2⟩:=VD n _ _ h
   exact⟨by rw[h1];simp;omega,[k]++m,by rw[h2];simp⟩
  ·cases h
theorem P6 {ids:List Int} {es:List (Int×Int)} {l:List Int} (h:JY ids es=some l):l.length=ids.length:=by
 have:=(VD _ _ _ h).1
 simpa using this
theorem Abi {ids:List Int} {es:List (Int×Int)} {l:List Int} (h:JY ids es=some l) (hnd:ids.Nodup):∀x∈ids,x∈l:=by
 intro x hx
 have hat:=ML h
 have hl:=P6 h
 have hln:l.Nodup:=by
  rw[List.nodup_iff_pairwise_ne,List.pairwise_iff_getElem]
  intro i j hi hj hij e
  exact(hat j hj).2.1 (by rw[← e];exact List.mem_take_iff_getElem.2 ⟨i,by omega,rfl⟩)
 refine Classical.byContradiction fun hn=>?_
 have h1:(x::l).Nodup:=List.nodup_cons.2 ⟨hn,hln⟩
 have h2:=List.Nodup.length_le_of_subset (l₂:=ids) h1 (fun y hy=>by
  rcases List.mem_cons.1 hy with rfl|hy
  ·exact hx
  ·obtain⟨i,hi,rfl⟩:=List.getElem_of_mem hy
   exact(hat i hi).2.2)
 simp at h2
 omega
def ZF (l:List (Int×Int)) (es:List (Int×Int)):Prop:=(∀ p∈l,p.1=p.2)∧∀e∈es,e.1≠e.2
theorem Yi {ids:List Int} {es l:List (Int×Int)} (hnd:ids.Nodup) (Dx:∀e∈es,e.1∈ids∧e.2∈ids) (hS:Gq ids es l):ZF l es↔∃o,JY ids es=some o:=by
 constructor
 ·rintro⟨h1,h2⟩
  refine Po hnd Dx h2 fun a ha=>?_
  rw[← hS.nm]at ha
  obtain⟨p,hp,rfl⟩:=List.mem_map.1 ha
  have:=hS.ls p hp
  rw[← h1 p hp]at this
  exact this
 ·rintro⟨o,ho⟩
  have hall:=Abi ho hnd
  obtain⟨h1,h2⟩:=Pq (fun e he=>⟨hall _ (Dx e he).1,hall _ (Dx e he).2⟩) ho
  refine⟨fun p hp=>?_,h1⟩
  exact(h2 p.1 p.2 (hall _ (by rw[← hS.nm];exact List.mem_map_of_mem hp)) (hS.ls p hp)).symm
theorem Ux {α:Type} {p:α→Prop} {l:List α} {i:Nat} (h:i<l.length):(∀ x∈l.take (i+1),p x)↔(∀ x∈l.take i,p x)∧p l[i]:=by
 have hm:∀x,x∈l.take (i+1)↔x∈l.take i∨x=l[i]:=fun x=>by rw[List.take_succ_eq_append_getElem h,List.mem_append,List.mem_singleton]
 constructor
 ·exact fun k=>⟨fun x hx=>k x ((hm x).2 (.inl hx)),k _ ((hm _).2 (.inr rfl))⟩
 ·rintro⟨k1,k2⟩ x hx
  rcases(hm x).1 hx with hx|rfl
  ·exact k1 x hx
  ·exact k2
theorem Uy {types:List (List UInt8)} {g:GG} {p:Int×Int→Prop}:(∀ e∈BH types g,p e)↔∀e∈g.edges,HT types e→p (e.fr,e.to):=by
 unfold BH CG
 constructor
 ·exact fun h e he ht=>h _ (List.mem_map.2 ⟨e,List.mem_filter.2 ⟨he,decide_eq_true ht⟩,rfl⟩)
 ·intro h e he
  obtain⟨x,hx,rfl⟩:=List.mem_map.1 he
  obtain⟨h1,h2⟩:=List.mem_filter.1 hx
  exact h x h1 (of_decide_eq_true h2)
set_option maxHeartbeats 16000000 in
theorem Yh:∀xs,likes Tryz.prog [25,26] xs→BL (Ae tab) 5 xs ⟨[],0⟩ fun out _=>out=.ok (.bool true):=by
 intro xs h
 match xs,h with
 |[x,y],h=>
  obtain⟨h1,h2,_⟩:=h
  obtain⟨g,rfl,hg,hf⟩:=Uz h1
  obtain⟨tn,types,rfl,hl⟩:=P5 h2
  clear h1 h2
  obtain⟨_,⟨b,rfl,hb⟩,p0⟩:=(ZE hg).Ob
  have pc:=TB hg
  refine BI rfl rfl ?_
  cases b with
  |false=>
   (conv=>whnf);repeat' (first|((first|refine Aa LH ?_|refine Aa p0 ?_);rintro _ rfl;conv=>whnf)|(refine kA ?_;conv=>whnf)|(refine Br.mk (fun hc=>?_) fun hc=>?_<;>first|exact hc.elim|conv=>whnf)|(refine kB ?_))
   all_goals first|rfl
  |true=>
  obtain⟨hN,hE⟩:=hb rfl
  clear hb
  by_cases hck:Bg g=0
  case neg=>
   (conv=>whnf);repeat' (first|((first|refine Aa LH ?_|refine Aa p0 ?_|refine Aa pc ?_);rintro _ rfl;conv=>whnf)|(refine kA ?_;conv=>whnf)|(refine Br.mk (fun hc=>?_) fun hc=>?_<;>first|exact hc.elim|conv=>whnf)|(refine kB ?_))
   all_goals first|rfl|exact absurd ‹_› hck
  rw[hck]at pc
  have Dx:=IY hck
  have hnd:=PY hck
  have hes:∀e∈BH types g,e.1∈AL g∧e.2∈AL g:=fun e he=>by
   obtain⟨x,hx,rfl⟩:=List.mem_map.1 he
   exact Dx x (List.mem_filter.1 hx).1
  obtain⟨vt,v1,p1⟩:=(AeD (types:=types) (tn:=tn) hl hg (by omega) (by omega)).Ob
  rw[if_pos hck]at v1
  obtain⟨_,⟨b3,l,rfl,s1,s2⟩,p3⟩:=(Xw (types:=types) (tn:=tn) hl hg (by omega) (by omega)).Ob
  have hS:=s2 hck
  have hiff:=Yi hnd hes hS
  have hll:l.length=g.nodes.length:=by rw[hS.len,CO]
  clear s1 s2 hS
  obtain⟨T,hT⟩:∃T,JY (AL g) (BH types g)=T:=⟨_,rfl⟩
  have hFe:ZF l (BH types g)↔(∀ p∈l,p.1=p.2)∧∀e∈g.edges,HT types e→e.fr≠e.to:=by
   unfold ZF;rw[Uy (p:=fun e=>e.1≠e.2)]
  rw[hT]at v1
  rw[hFe,hT]at hiff
  obtain⟨bt,L,rfl,hT0,hT1⟩:∃bt L,vt=.EY [.sl bt (vs (.int .i64) L),.bool T.isSome]∧(T=none→L=[])∧(∀ o,T=some o→L=o):=by
   cases T with
   |none=>exact⟨false,[],v1,fun _=>rfl,fun o e=>by cases e⟩
   |some o=>obtain⟨b1,e⟩:=v1;exact⟨b1,o,e,fun e=>(by cases e),fun o' e=>Option.some.inj e⟩
  have hLl:L.length≤g.nodes.length:=by
   cases T with
   |none=>rw[hT0 rfl];simp
   |some o=>rw[hT1 o rfl,P6 hT,CO];exact Nat.le_refl _
  clear v1
  obtain⟨tb,htb⟩:∃tb,tb=T.isSome:=⟨_,rfl⟩
  rw[← htb]at p1
  (conv=>whnf);repeat' (first|((first|refine Aa LH ?_|refine Aa p0 ?_|refine Aa pc ?_|refine Aa p1 ?_|refine Aa p3 ?_);rintro _ rfl;conv=>whnf)|(refine kA ?_;conv=>whnf)|(refine Br.mk (fun hc=>?_) fun hc=>?_<;>first|exact hc.elim|conv=>whnf)|(refine kB ?_))
  all_goals first|(exfalso;omega)|skip
  all_goals (
   refine Ah (fun μ env s=>∃(i c:Nat) (b:Bool),μ=l.length-i∧i≤l.length∧(b=true↔∀p∈l.take i,p.1=p.2)∧env=[(1,.sl tn (vs .str types)),(2,.ref 0 0 0 0),(5,.sl bt (vs (.int .i64) L)),(6,.bool T.isSome),(7,.sl b3 (vs pv l)),(8,.bool b),(9,.int .i64 i)]∧s=⟨[.arr 0 4 true true [g.av]],c⟩) ?_ _ _ _ ⟨0,_,true,rfl,by omega,by simp,(by rw[← htb];first|(rw [‹tb=true›];rfl)|(rw [‹tb=false›];rfl)),rfl⟩
   rintro _ _ _ ⟨i,c,b,rfl,hi,hbb,rfl,rfl⟩
   refine⟨rfl,?_⟩
   by_cases hlt:i<l.length
   ·have hs:=Ux (p:=fun p:Int×Int=>p.1=p.2) hlt
    rw[← hbb]at hs
    cases b with
    |false=>
     (conv=>whnf);repeat' (first  |(refine kA ?_;conv=>whnf)|(refine Br.mk (fun hc=>?_) fun hc=>?_<;>first|exact hc.elim|conv=>whnf)|(refine kB ?_))
     all_goals first
        |(exfalso;omega)
        |exact again.mk ⟨_,by omega,i+1,_,false,rfl,by omega,by rw[hs];simp,rfl,rfl⟩
    |true=>
     by_cases he:(l[i]).1=(l[i]).2
     ·(conv=>whnf);repeat' (first  |(refine kA ?_;conv=>whnf)|(refine Br.mk (fun hc=>?_) fun hc=>?_<;>first|exact hc.elim|conv=>whnf)|(refine kB ?_))
      all_goals first
            |(exfalso;omega)
            |exact again.mk ⟨_,by omega,i+1,_,true,rfl,by omega,by rw[hs];simp[he],rfl,rfl⟩
            |exact absurd he ‹_›
     ·(conv=>whnf);repeat' (first  |(refine kA ?_;conv=>whnf)|(refine Br.mk (fun hc=>?_) fun hc=>?_<;>first|exact hc.elim|conv=>whnf)|(refine kB ?_))
      all_goals first
            |(exfalso;omega)
            |exact again.mk ⟨_,by omega,i+1,_,false,rfl,by omega,by rw[hs];simp[he],rfl,rfl⟩
            |exact absurd ‹_› he
   have hie:i=l.length:=by omega
   subst hie
   rw[List.take_length]at hbb
   (conv=>whnf);repeat' (first  |(refine kA ?_;conv=>whnf)|(refine Br.mk (fun hc=>?_) fun hc=>?_<;>first|exact hc.elim|conv=>whnf)|(refine kB ?_))
   all_goals first|(exfalso;omega)|skip
   refine Ah (fun μ env s=>∃(i c:Nat) (b':Bool),μ=g.edges.length-i∧i≤g.edges.length∧(b'=true↔b=true∧∀e∈g.edges.take i,HT types e→e.fr≠e.to)∧env=[(1,.sl tn (vs .str types)),(2,.ref 0 0 0 0),(5,.sl bt (vs (.int .i64) L)),(6,.bool T.isSome),(8,.bool b'),(10,.int .i64 i)]∧s=⟨[.arr 0 4 true true [g.av]],c⟩) ?_ _ _ _ ⟨0,_,b,rfl,by omega,by simp,rfl,rfl⟩
   clear hlt hi
   rintro _ _ _ ⟨i,c,b',rfl,hi,hbc,rfl,rfl⟩
   refine⟨rfl,?_⟩
   by_cases hlt:i<g.edges.length
   ·have hs:=Ux (p:=fun e:GE=>HT types e→e.fr≠e.to) hlt
    have hs2:(b=true∧∀e∈g.edges.take (i+1),HT types e→e.fr≠e.to)↔b'=true∧(HT types g.edges[i]→(g.edges[i]).fr≠(g.edges[i]).to):=by rw[hs,hbc,and_assoc]
    have ph:=P7 (l:=types) (e:=g.edges[i]) (nn:=tn) (by omega)
    clear hs
    cases b' with
    |false=>
     (conv=>whnf);repeat' (first  |(refine kA ?_;conv=>whnf)|(refine Br.mk (fun hc=>?_) fun hc=>?_<;>first|exact hc.elim|conv=>whnf)|(refine kB ?_))
     all_goals first
        |(exfalso;omega)
        |exact again.mk ⟨_,by omega,i+1,_,false,rfl,by omega,by rw[hs2];simp,rfl,rfl⟩
    |true=>
     by_cases h1:(g.edges[i]).fr=(g.edges[i]).to
     ·by_cases h3:HT types g.edges[i]
      ·rw[decide_eq_true h3]at ph
       (conv=>whnf);repeat' (first|(refine Aa ph ?_;rintro _ rfl;conv=>whnf)|(refine kA ?_;conv=>whnf)|(refine Br.mk (fun hc=>?_) fun hc=>?_<;>first|exact hc.elim|conv=>whnf)|(refine kB ?_))
       all_goals first
           |(exfalso;omega)
           |exact again.mk ⟨_,by omega,i+1,_,false,rfl,by omega,by rw[hs2];simp[h1,h3],rfl,rfl⟩
           |exact absurd h1 ‹_›
      ·rw[decide_eq_false h3]at ph
       (conv=>whnf);repeat' (first|(refine Aa ph ?_;rintro _ rfl;conv=>whnf)|(refine kA ?_;conv=>whnf)|(refine Br.mk (fun hc=>?_) fun hc=>?_<;>first|exact hc.elim|conv=>whnf)|(refine kB ?_))
       all_goals first
           |(exfalso;omega)
           |exact again.mk ⟨_,by omega,i+1,_,true,rfl,by omega,by rw[hs2];simp[h3],rfl,rfl⟩
           |exact absurd h1 ‹_›
     ·(conv=>whnf);repeat' (first  |(refine kA ?_;conv=>whnf)|(refine Br.mk (fun hc=>?_) fun hc=>?_<;>first|exact hc.elim|conv=>whnf)|(refine kB ?_))
      all_goals first
            |(exfalso;omega)
            |exact again.mk ⟨_,by omega,i+1,_,true,rfl,by omega,by rw[hs2];simp[h1],rfl,rfl⟩
            |exact absurd ‹_› h1
   rw[List.take_of_length_le (by omega),hbb,hiff]at hbc)
  all_goals (
   clear hbb hiff
   cases T with
   |none=>
    have hb0:b'=false:=by
     cases b'
     ·rfl
     ·obtain⟨o,e⟩:=hbc.1 rfl;cases e
    subst hb0
    have hL0:=hT0 rfl
    subst hL0
    (conv=>whnf);repeat' (first|(refine Aa LH ?_;rintro _ rfl;conv=>whnf)|(refine kA ?_;conv=>whnf)|(refine Br.mk (fun hc=>?_) fun hc=>?_<;>first|exact hc.elim|conv=>whnf)|(refine kB ?_))
    all_goals first
     |(exfalso;omega)
     |rfl
     |exact absurd rfl ‹_›
   |some o=>
    have hb1:b'=true:=hbc.2 ⟨o,rfl⟩
    subst hb1
    have hL1:=hT1 o rfl
    subst hL1
    (conv=>whnf);repeat' (first  |(refine kA ?_;conv=>whnf)|(refine Br.mk (fun hc=>?_) fun hc=>?_<;>first|exact hc.elim|conv=>whnf)|(refine kB ?_))
    all_goals first|(exfalso;omega)|exact absurd rfl ‹_› |skip
    have hat:=ML hT
    have hol:=P6 hT
    rw[CO]at hol
    clear hbc hlt hi hT hT0 hT1
    refine Ah (fun μ env s=>∃(i c ga n:Nat),μ=L.length-i∧i≤L.length∧n=i∧env=[(1,.sl tn (vs .str types)),(2,.ref 0 0 0 0),(5,.sl bt (vs (.int .i64) L)),(11,.own 1 ga 0 n),(12,.int .i64 i)]∧s=⟨[.arr 0 4 true true [g.av],.arr ga 1 true true (vs (.int .i64) (L.take i))],c⟩) ?_ _ _ _ ⟨0,_,_,_,rfl,by omega,rfl,rfl,rfl⟩
    rintro _ _ _ ⟨i,c,ga,n,rfl,hi,rfl,rfl,rfl⟩
    refine⟨rfl,?_⟩
    by_cases hlt:n<L.length
    case neg=>
     (conv=>whnf);repeat' (first|(refine Aa LH ?_;rintro _ rfl;conv=>whnf)|(refine kA ?_;conv=>whnf)|(refine Br.mk (fun hc=>?_) fun hc=>?_<;>first|exact hc.elim|conv=>whnf)|(refine kB ?_))
     all_goals first
        |(exfalso;omega)
        |rfl
    obtain⟨r1,r2,r3⟩:=hat n hlt
    obtain⟨_,⟨nd,rfl⟩,pn⟩:=(AeF hg hf (by omega) (id:=L[n])).Ob
    rw[decide_eq_true (show L[n]∈g.nodes.map GN.id from r3)]at pn
    have htl:n=(L.take n).length:=by rw[List.length_take];omega
    have ph:=Zy (l:=L.take n) (x:=L[n]) (nn:=true) (by omega)
    rw[decide_eq_false r2,←Xx htl]at ph
    (conv=>whnf);repeat' (first|((first|refine Aa pn ?_|refine Aa ph ?_);rintro _ rfl;conv=>whnf)|(refine kA ?_;conv=>whnf)|(refine Br.mk (fun hc=>?_) fun hc=>?_<;>first|exact hc.elim|conv=>whnf)|(refine kB ?_))
    all_goals first|(exfalso;omega)|skip
    refine Ah (fun μ env s=>∃(k c':Nat) (R:List Obj),μ=g.edges.length-k∧k≤g.edges.length∧env=[(1,.sl tn (vs .str types)),(2,.ref 0 0 0 0),(5,.sl bt (vs (.int .i64) L)),(11,.own 1 ga 0 n),(12,.int .i64 n),(15,.int .i64 k)]∧s=⟨.arr 0 4 true true [g.av]::.arr ga 1 true true (vs (.int .i64) (L.take n))::R,c'⟩) ?_ _ _ _ ⟨0,_,_,rfl,by omega,rfl,rfl⟩
    have hrd:=Uy.1 r1
    clear ph pn r1 r2 r3 hat
    rintro _ _ _ ⟨k,c',R,rfl,hk,rfl,rfl⟩
    refine⟨rfl,?_⟩
    by_cases hkl:k<g.edges.length
    case neg=>
     have hsn:L.take (n+1)=L.take n++[L[n]]:=List.take_succ_eq_append_getElem hlt
     (conv=>whnf);repeat' (first|(refine LG (f:=.int .i64) (l:=L.take n) (x:=L[n]) (fun _=>rfl) htl (by rw[← htl];omega) ?_;conv=>whnf)|(refine kA ?_;conv=>whnf)|(refine Br.mk (fun hc=>?_) fun hc=>?_<;>first|exact hc.elim|conv=>whnf)|(refine kB ?_))
     all_goals first
        |(exfalso;omega)
        |(rw [← hsn];exact again.mk ⟨_,by omega,n+1,_,_,_,rfl,by omega,by omega,rfl,rfl⟩)
    have pt:=P7 (l:=types) (e:=g.edges[k]) (nn:=tn) (by omega)
    have pm:=Zy (l:=L.take n) (x:=(g.edges[k]).fr) (nn:=true) (by omega)
    rw[← Xx htl]at pm
    by_cases e1:(g.edges[k]).to=L[n]
    case neg=>
     (conv=>whnf);repeat' (first  |(refine kA ?_;conv=>whnf)|(refine Br.mk (fun hc=>?_) fun hc=>?_<;>first|exact hc.elim|conv=>whnf)|(refine kB ?_))
     all_goals first
        |(exfalso;omega)
        |exact again.mk ⟨_,by omega,k+1,_,_,rfl,by omega,rfl,rfl⟩
        |exact absurd ‹_› e1
    by_cases e2:HT types g.edges[k]
    case neg=>
     rw[decide_eq_false e2]at pt
     (conv=>whnf);repeat' (first|(refine Aa pt ?_;rintro _ rfl;conv=>whnf)|(refine kA ?_;conv=>whnf)|(refine Br.mk (fun hc=>?_) fun hc=>?_<;>first|exact hc.elim|conv=>whnf)|(refine kB ?_))
     all_goals first
        |(exfalso;omega)
        |exact again.mk ⟨_,by omega,k+1,_,_,rfl,by omega,rfl,rfl⟩
        |exact absurd e1 ‹_›
    rw[decide_eq_true e2]at pt
    have e3:=hrd _ (List.getElem_mem hkl) e2 e1
    rw[Xx htl,decide_eq_true e3,←Xx htl]at pm
    (conv=>whnf);repeat' (first|((first|refine Aa pt ?_|refine Aa pm ?_);rintro _ rfl;conv=>whnf)|(refine kA ?_;conv=>whnf)|(refine Br.mk (fun hc=>?_) fun hc=>?_<;>first|exact hc.elim|conv=>whnf)|(refine kB ?_))
    all_goals first
     |(exfalso;omega)
     |exact again.mk ⟨_,by omega,k+1,_,_,rfl,by omega,rfl,rfl⟩
     |exact absurd e1 ‹_›)
end AI
end Go.Proofs.YtjjhejbffgaabaaGreatDoor
