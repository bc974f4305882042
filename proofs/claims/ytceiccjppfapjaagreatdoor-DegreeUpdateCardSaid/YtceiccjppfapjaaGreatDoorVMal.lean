/- degree.Of: the statistics of a graph. The inner loops of the reference's Of. The reference's Of: the loop over the labels. The reference's Of: the loop over the types. The reference's Of: the statistics of a graph. Labels and degrees of a valid graph are few: plain. What a change leaves alone: plain. Changes as arguments. -/
import Derived.Test.YtceiccjppfapjaaGreatDoorVMai
import Derived.Test.YtceiccjppfapjaaGreatDoorVMah
import Derived.Test.YtceiccjppfapjaaGreatDoorVMak
import Derived.Test.YtceiccjppfapjaaGreatDoorVMad
import Derived.Test.YtceiccjppfapjaaGreatDoorVMag
set_option linter.unusedVariables false
set_option maxRecDepth 4000
namespace Go.Proofs.YtceiccjppfapjaaGreatDoor
namespace AI
def Atl (g:GG) (v:AV):Prop:=∃(ln tn un vn:Bool) (R T:List (List UInt8)) (O I:List (Bool×List Int)),
 v=.BH [.agg [.int .i64 g.nodes.length,.int .i64 g.edges.length,.sl ln (vs CN.av (cnts (DX g.nodes) R)),.sl tn (vs CN.av (cnts (BU g.edges) T)),.sl un (vs GY O),.sl vn (vs GY I)],.int .i64 0]∧
 Jp R∧(∀ x,x∈R↔x∈Dv g.nodes)∧Jp T∧(∀ x,x∈T↔x∈typesOf g.edges)∧IB g 1 T O∧IB g 2 T I
theorem FT {R:List (List UInt8)} (h:Jp R):R.Nodup:=by
 refine List.Pairwise.imp (fun h e=>?_) h
 subst e
 rw[IY.irrefl]at h;exact Bool.noConfusion h
theorem Ri {R:List (List UInt8)}:∀{N:List GN},(∀ n∈N,n.labels.length≤2000)→(Dv N).length≤N.length*2000
 |[],_=>by simp[Dv]
 |n::N,h=>by
  have h1:=h n (List.mem_cons_self ..)
  have h2:=Ri (R:=R) (N:=N) fun m hm=>h m (List.mem_cons_of_mem _ hm)
  simp only[Dv,List.flatMap_cons,List.length_append,List.length_cons]at*
  omega
theorem JZ {α:Type} {f:α→AV} {L:List α} {σ:List Obj} {n o g es len:Nat} {nn:Bool} (h:nth σ o=some (.arr g es nn true (vs f L))) (hl:len=L.length):snap σ (n+1) (.own o g 0 len)=some (.sl nn (vs f L)):=by
 subst hl
 simp only[snap,h]
 rw[if_pos ⟨trivial,by rw[lV];omega⟩,if_pos trivial,Ji,List.drop_zero,List.take_length]
theorem O6 {σ:List Obj} {n:Nat} {v a:AV} {vs b:List AV} (h1:snap σ n v=some a) (h2:EP σ n vs=some b):EP σ (n+1) (v::vs)=some (a::b):=by
 rw[EP,h1,h2]
theorem Abe {σ:List Obj} {n:Nat} {k:IntKind} {z:Int}:snap σ (n+1) (.int k z)=some (.int k z):=by simp only[snap]
theorem AiA {σ:List Obj} {n:Nat} {l l':List AV} (h:EP σ n l=some l'):snap σ (n+1) (.agg l)=some (.agg l'):=by simp only[snap,h,Option.map]
theorem Ah9 {σ:List Obj} {N E:Int} {a b c d a' b' c' d':AV} (ha:∀n,snap σ (n+1) a=some a') (hb:∀n,snap σ (n+1) b=some b') (hc:∀n,snap σ (n+1) c=some c') (hd:∀n,snap σ (n+1) d=some d') {m:Nat}:
 snap σ (m+20) (.agg [.int .i64 N,.int .i64 E,a,b,c,d])=some (.agg [.int .i64 N,.int .i64 E,a',b',c',d']):=
 AiA (n:=m+19) (O6 (n:=m+18) Abe (O6 (n:=m+17) Abe (O6 (n:=m+16) (ha _) (O6 (n:=m+15) (hb _) (O6 (n:=m+14) (hc _) (O6 (n:=m+13) (hd _) (by rw[EP])))))))
theorem AdY {m:Nat} {σ:List Obj} {N E:Int} {i j k ga gb gc n:Nat} {lab lab':AV} {L:List CN} {O I:List (Bool×List Int)} (hl:∀n,snap σ (n+1) lab=some lab')
 (h1:nth σ i=some (.arr ga 2 true true (vs CN.av L))) (h2:nth σ j=some (.arr gb 1 true true (vs GY O))) (h3:nth σ k=some (.arr gc 1 true true (vs GY I))) (e1:n=L.length) (e2:n=O.length) (e3:n=I.length):
 snap σ (m+20) (.agg [.int .i64 N,.int .i64 E,lab,.own i ga 0 n,.own j gb 0 n,.own k gc 0 n])=some (.agg [.int .i64 N,.int .i64 E,lab',.sl true (vs CN.av L),.sl true (vs GY O),.sl true (vs GY I)]):=
 Ah9 (m:=m) hl (fun _=>JZ h1 e1) (fun _=>JZ h2 e2) (fun _=>JZ h3 e3)
theorem Atc {g:GG} (hg:g.ok) (hc0:Az g≠0):Af (Ad tab) 32 [g.av] (· =.BH [.agg [.int .i64 0,.int .i64 0,.sl false [],.sl false [],.sl false [],.sl false []],.int .i64 (Az g)]):=by
 refine Ac rfl rfl ?_
 (conv=>whnf);repeat' (first|(refine Aa (Wj hg) ?_;rintro _ rfl;conv=>whnf)|(refine kA ?_;conv=>whnf)|(refine Br.mk (fun hc=>?_) fun hc=>?_<;>first|exact hc.elim|conv=>whnf)|(refine kB ?_))
 rfl
set_option maxHeartbeats 1000000 in
theorem ofP {g:GG} (hg:g.ok) (hN:g.nodes.length≤2000) (hE:g.edges.length≤4000) (hc0:Az g=0) (hL:∀n∈g.nodes,n.labels.length≤2000):Af (Ad tab) 32 [g.av] (Atl g):=by
 refine Ac rfl rfl ?_
 (conv=>whnf);repeat' (first|(refine Aa (Wj hg) ?_;rintro _ rfl;conv=>whnf)|(refine kA ?_;conv=>whnf)|(refine Br.mk (fun hc=>?_) fun hc=>?_<;>first|exact hc.elim|conv=>whnf)|(refine kB ?_))
 refine Aa (Akq hg hN hL) ?_
 rintro _ ⟨nn,R,rfl,hi,hm⟩
 have hR:R.length≤100000000:=by
  have h1:=FQ (FT hi) fun x hx=>(hm x).1 hx
  have h2:=Ri (R:=R) hL
  omega
 (conv=>whnf);repeat' (first  |(refine kA ?_;conv=>whnf)|(refine Br.mk (fun hc=>?_) fun hc=>?_<;>first|exact hc.elim|conv=>whnf)|(refine kB ?_))
 refine Asu hg hN hR ?_ ?_
 ·intro hR0 c' tl
  (conv=>whnf);repeat' (first  |(refine kA ?_;conv=>whnf)|(refine Br.mk (fun hc=>?_) fun hc=>?_<;>first|exact hc.elim|conv=>whnf)|(refine kB ?_))
  refine Aa (Ah1 hg hE) ?_
  rintro _ ⟨nt,T,rfl,ti,tm⟩
  have hT:T.length≤100000000:=by
   have h1:=FQ (FT ti) fun x hx=>(tm x).1 hx
   simp only[typesOf,List.length_map]at h1
   omega
  (conv=>whnf);repeat' (first  |(refine kA ?_;conv=>whnf)|(refine Br.mk (fun hc=>?_) fun hc=>?_<;>first|exact hc.elim|conv=>whnf)|(refine kB ?_))
  refine ArP hN hE hT ?_ ?_
  ·intro hT0 c' tl
   (conv=>whnf);repeat' (first  |(refine kA ?_;conv=>whnf)|(refine Br.mk (fun hc=>?_) fun hc=>?_<;>first|exact hc.elim|conv=>whnf)|(refine kB ?_))
   exact⟨_,_,_,_,[],[],[],[],rfl,hR0▸hi,hR0▸hm,hT0▸ti,hT0▸tm,⟨rfl,fun p hp=>by simp at hp⟩,⟨rfl,fun p hp=>by simp at hp⟩⟩
  ·intro hT0 c' ga gb gc n O I tl hn hO hI
   have l1:=Md hO
   have l2:=Md hI
   (conv=>whnf);repeat' (first  |(refine kA ?_;conv=>whnf)|(refine Br.mk (fun hc=>?_) fun hc=>?_<;>first|exact hc.elim|conv=>whnf)|(refine kB ?_))
   have e1:n=(cnts (BU g.edges) T).length:=by simp[cnts];omega
   refine Ag (x:=.agg [.int .i64 g.nodes.length,.int .i64 g.edges.length,.sl false [],.sl true (vs CN.av (cnts (BU g.edges) T)),.sl true (vs GY O),.sl true (vs GY I)]) ?_ ?_
   ·refine AdY (m:=999978) (N:=g.nodes.length) (E:=g.edges.length) (i:=3) (j:=4) (k:=5) (ga:=ga) (gb:=gb) (gc:=gc) (lab:=.sl false []) (lab':=.sl false []) ?_ ?_ ?_ ?_ e1 (hn.trans l1.symm) (hn.trans l2.symm)
    ·exact fun n=>rfl
    all_goals rfl
   (conv=>whnf);repeat' (first  |(refine kA ?_;conv=>whnf)|(refine Br.mk (fun hc=>?_) fun hc=>?_<;>first|exact hc.elim|conv=>whnf)|(refine kB ?_))
   exact⟨_,_,_,_,[],T,O,I,rfl,hR0▸hi,hR0▸hm,ti,tm,hO,hI⟩
 ·intro hR0 c' g3 tl
  have e0:R.length=(cnts (DX g.nodes) R).length:=by simp[cnts]
  (conv=>whnf);repeat' (first  |(refine kA ?_;conv=>whnf)|(refine Br.mk (fun hc=>?_) fun hc=>?_<;>first|exact hc.elim|conv=>whnf)|(refine kB ?_))
  refine Aa (Ah1 hg hE) ?_
  rintro _ ⟨nt,T,rfl,ti,tm⟩
  have hT:T.length≤100000000:=by
   have h1:=FQ (FT ti) fun x hx=>(tm x).1 hx
   simp only[typesOf,List.length_map]at h1
   omega
  (conv=>whnf);repeat' (first  |(refine kA ?_;conv=>whnf)|(refine Br.mk (fun hc=>?_) fun hc=>?_<;>first|exact hc.elim|conv=>whnf)|(refine kB ?_))
  refine ArS hN hE hT ?_ ?_
  ·intro hT0 c' tl
   (conv=>whnf);repeat' (first  |(refine kA ?_;conv=>whnf)|(refine Br.mk (fun hc=>?_) fun hc=>?_<;>first|exact hc.elim|conv=>whnf)|(refine kB ?_))
   refine Ag (x:=.agg [.int .i64 g.nodes.length,.int .i64 g.edges.length,.sl true (vs CN.av (cnts (DX g.nodes) R)),.sl false [],.sl false [],.sl false []]) ?_ ?_
   ·refine Ah9 (m:=999978) (N:=g.nodes.length) (E:=g.edges.length) (a:=.own 3 g3 0 R.length) (b:=.sl false []) (c:=.sl false []) (d:=.sl false []) ?_ ?_ ?_ ?_
    ·exact fun _=>JZ rfl e0
    all_goals exact fun n=>rfl
   (conv=>whnf);repeat' (first  |(refine kA ?_;conv=>whnf)|(refine Br.mk (fun hc=>?_) fun hc=>?_<;>first|exact hc.elim|conv=>whnf)|(refine kB ?_))
   exact⟨_,_,_,_,R,[],[],[],rfl,hi,hm,hT0▸ti,hT0▸tm,⟨rfl,fun p hp=>by simp at hp⟩,⟨rfl,fun p hp=>by simp at hp⟩⟩
  ·intro hT0 c' ga gb gc n O I tl hn hO hI
   have l1:=Md hO
   have l2:=Md hI
   (conv=>whnf);repeat' (first  |(refine kA ?_;conv=>whnf)|(refine Br.mk (fun hc=>?_) fun hc=>?_<;>first|exact hc.elim|conv=>whnf)|(refine kB ?_))
   have e1:n=(cnts (BU g.edges) T).length:=by simp[cnts];omega
   refine Ag (x:=.agg [.int .i64 g.nodes.length,.int .i64 g.edges.length,.sl true (vs CN.av (cnts (DX g.nodes) R)),.sl true (vs CN.av (cnts (BU g.edges) T)),.sl true (vs GY O),.sl true (vs GY I)]) ?_ ?_
   ·refine AdY (m:=999978) (N:=g.nodes.length) (E:=g.edges.length) (i:=4) (j:=5) (k:=6) (ga:=ga) (gb:=gb) (gc:=gc) (lab:=.own 3 g3 0 R.length) (lab':=.sl true (vs CN.av (cnts (DX g.nodes) R))) ?_ ?_ ?_ ?_ e1 (hn.trans l1.symm) (hn.trans l2.symm)
    ·exact fun _=>JZ rfl e0
    all_goals rfl
   (conv=>whnf);repeat' (first  |(refine kA ?_;conv=>whnf)|(refine Br.mk (fun hc=>?_) fun hc=>?_<;>first|exact hc.elim|conv=>whnf)|(refine kB ?_))
   exact⟨_,_,_,_,R,T,O,I,rfl,hi,hm,ti,tm,hO,hI⟩
theorem ArD {g:GG} (hg:g.ok) (hN:g.nodes.length≤2000) {g1 g2 c j:Nat} {nn:Bool} {R:List (List UInt8)} (hj:j<R.length) (hR:R.length≤100000000) {o1 o2:Obj} {Q:AA→Env→Ap→Prop}
 (hQ:∀c' tl,Q (.exit 2) ([(1,.ref 0 0 0 0),(2,.ref 1 g1 0 0),(5,.ref 2 g2 0 0),(6,.sl nn (vs .str R)),(7,.int .i64 j),(8,.int .i64 (DX g.nodes R[j]))]++tl) ⟨[.arr 0 4 true true [g.av],o1,o2],c'⟩):
 Run (Ad tab) (.loop l26_0_h l26_0_b) [(1,.ref 0 0 0 0),(2,.ref 1 g1 0 0),(5,.ref 2 g2 0 0),(6,.sl nn (vs .str R)),(7,.int .i64 j),(8,.int .i64 0),(9,.int .i64 0)] ⟨[.arr 0 4 true true [g.av],o1,o2],c⟩ Q:=by
 have hlab:∀n∈g.nodes,n.labels.length<2^63:=fun n hn=>(hg.2.2.1 n hn).2.1
 refine Ae (fun m env s=>∃(i c:Nat) (z:Int),m=g.nodes.length-i∧i≤g.nodes.length∧z=DX (g.nodes.take i) R[j]∧env=[(1,.ref 0 0 0 0),(2,.ref 1 g1 0 0),(5,.ref 2 g2 0 0),(6,.sl nn (vs .str R)),(7,.int .i64 j),(8,.int .i64 z),(9,.int .i64 i)]∧s=⟨[.arr 0 4 true true [g.av],o1,o2],c⟩) ?_ _ _ _ ⟨0,c,0,rfl,by omega,rfl,rfl,rfl⟩
 rintro _ _ _ ⟨i,c,z,rfl,hi,hz,rfl,rfl⟩
 refine⟨rfl,?_⟩
 by_cases hlt:i<g.nodes.length
 ·have hb:=@Nr (g.nodes.take i) R[j]
  rw[List.length_take,←hz]at hb
  have h1:R[j]∈(g.nodes[i]).labels→z+1=DX (g.nodes.take (i+1)) R[j]:=fun h=>by rw[H8 hlt,hz,show Um R[j] g.nodes[i]=1 from if_pos h]
  have h0:¬R[j]∈(g.nodes[i]).labels→z=DX (g.nodes.take (i+1)) R[j]:=fun h=>by rw[H8 hlt,hz,show Um R[j] g.nodes[i]=0 from if_neg h,Int.add_zero]
  clear hz
  (conv=>whnf);repeat' (first|(refine Bo (IW (hlab _ (List.getElem_mem hlt))) (fun hc=>?_) (fun hc=>?_)<;>conv=>whnf)|(refine kA ?_;conv=>whnf)|(refine Br.mk (fun hc=>?_) fun hc=>?_<;>first|exact hc.elim|conv=>whnf)|(refine kB ?_))
  ·exact again.mk ⟨_,by omega,i+1,_,_,rfl,by omega,h1 hc,rfl,rfl⟩
  ·exact again.mk ⟨_,by omega,i+1,_,z,rfl,by omega,h0 hc,rfl,rfl⟩
 ·rw[List.take_of_length_le (by omega)]at hz
  subst hz
  (conv=>whnf);repeat' (first  |(refine kA ?_;conv=>whnf)|(refine Br.mk (fun hc=>?_) fun hc=>?_<;>first|exact hc.elim|conv=>whnf)|(refine kB ?_))
  exact hQ _ _
theorem ArE {g:GG} (hg:g.ok) (hN:g.nodes.length≤2000) {g1 g2 c j:Nat} {nn:Bool} {R:List (List UInt8)} (hj:j<R.length) (hR:R.length≤100000000) {o1 o2 o3:Obj} {Q:AA→Env→Ap→Prop}
 (hQ:∀c' tl,Q (.exit 2) ([(1,.ref 0 0 0 0),(2,.ref 1 g1 0 0),(5,.ref 2 g2 0 0),(6,.sl nn (vs .str R)),(7,.int .i64 j),(8,.int .i64 (DX g.nodes R[j]))]++tl) ⟨[.arr 0 4 true true [g.av],o1,o2,o3],c'⟩):
 Run (Ad tab) (.loop l26_0_h l26_0_b) [(1,.ref 0 0 0 0),(2,.ref 1 g1 0 0),(5,.ref 2 g2 0 0),(6,.sl nn (vs .str R)),(7,.int .i64 j),(8,.int .i64 0),(9,.int .i64 0)] ⟨[.arr 0 4 true true [g.av],o1,o2,o3],c⟩ Q:=by
 have hlab:∀n∈g.nodes,n.labels.length<2^63:=fun n hn=>(hg.2.2.1 n hn).2.1
 refine Ae (fun m env s=>∃(i c:Nat) (z:Int),m=g.nodes.length-i∧i≤g.nodes.length∧z=DX (g.nodes.take i) R[j]∧env=[(1,.ref 0 0 0 0),(2,.ref 1 g1 0 0),(5,.ref 2 g2 0 0),(6,.sl nn (vs .str R)),(7,.int .i64 j),(8,.int .i64 z),(9,.int .i64 i)]∧s=⟨[.arr 0 4 true true [g.av],o1,o2,o3],c⟩) ?_ _ _ _ ⟨0,c,0,rfl,by omega,rfl,rfl,rfl⟩
 rintro _ _ _ ⟨i,c,z,rfl,hi,hz,rfl,rfl⟩
 refine⟨rfl,?_⟩
 by_cases hlt:i<g.nodes.length
 ·have hb:=@Nr (g.nodes.take i) R[j]
  rw[List.length_take,←hz]at hb
  have h1:R[j]∈(g.nodes[i]).labels→z+1=DX (g.nodes.take (i+1)) R[j]:=fun h=>by rw[H8 hlt,hz,show Um R[j] g.nodes[i]=1 from if_pos h]
  have h0:¬R[j]∈(g.nodes[i]).labels→z=DX (g.nodes.take (i+1)) R[j]:=fun h=>by rw[H8 hlt,hz,show Um R[j] g.nodes[i]=0 from if_neg h,Int.add_zero]
  clear hz
  (conv=>whnf);repeat' (first|(refine Bo (IW (hlab _ (List.getElem_mem hlt))) (fun hc=>?_) (fun hc=>?_)<;>conv=>whnf)|(refine kA ?_;conv=>whnf)|(refine Br.mk (fun hc=>?_) fun hc=>?_<;>first|exact hc.elim|conv=>whnf)|(refine kB ?_))
  ·exact again.mk ⟨_,by omega,i+1,_,_,rfl,by omega,h1 hc,rfl,rfl⟩
  ·exact again.mk ⟨_,by omega,i+1,_,z,rfl,by omega,h0 hc,rfl,rfl⟩
 ·rw[List.take_of_length_le (by omega)]at hz
  subst hz
  (conv=>whnf);repeat' (first  |(refine kA ?_;conv=>whnf)|(refine Br.mk (fun hc=>?_) fun hc=>?_<;>first|exact hc.elim|conv=>whnf)|(refine kB ?_))
  exact hQ _ _
theorem ApV {g:GG} (hN:g.edges.length≤4000) {g1 g2 c j:Nat} {nn:Bool} {R:List (List UInt8)} (hj:j<R.length) (hR:R.length≤100000000) {o1 o2:Obj} {Q:AA→Env→Ap→Prop}
 (hQ:∀c' tl,Q (.exit 6) ([(1,.ref 0 0 0 0),(2,.ref 1 g1 0 0),(5,.ref 2 g2 0 0),(10,.sl nn (vs .str R)),(11,.int .i64 j),(12,.int .i64 (BU g.edges R[j]))]++tl) ⟨[.arr 0 4 true true [g.av],o1,o2],c'⟩):
 Run (Ad tab) (.loop l26_2_h l26_2_b) [(1,.ref 0 0 0 0),(2,.ref 1 g1 0 0),(5,.ref 2 g2 0 0),(10,.sl nn (vs .str R)),(11,.int .i64 j),(12,.int .i64 0),(13,.int .i64 0)] ⟨[.arr 0 4 true true [g.av],o1,o2],c⟩ Q:=by
 refine Ae (fun m env s=>∃(i c:Nat) (z:Int),m=g.edges.length-i∧i≤g.edges.length∧z=BU (g.edges.take i) R[j]∧env=[(1,.ref 0 0 0 0),(2,.ref 1 g1 0 0),(5,.ref 2 g2 0 0),(10,.sl nn (vs .str R)),(11,.int .i64 j),(12,.int .i64 z),(13,.int .i64 i)]∧s=⟨[.arr 0 4 true true [g.av],o1,o2],c⟩) ?_ _ _ _ ⟨0,c,0,rfl,by omega,rfl,rfl,rfl⟩
 rintro _ _ _ ⟨i,c,z,rfl,hi,hz,rfl,rfl⟩
 refine⟨rfl,?_⟩
 by_cases hlt:i<g.edges.length
 ·have hb:=@Ez (g.edges.take i) R[j]
  rw[List.length_take,←hz]at hb
  have h1:(g.edges[i]).ty=R[j]→z+1=BU (g.edges.take (i+1)) R[j]:=fun h=>by rw[Dk hlt,hz,show W9 R[j] g.edges[i]=1 from if_pos h]
  have h0:¬(g.edges[i]).ty=R[j]→z=BU (g.edges.take (i+1)) R[j]:=fun h=>by rw[Dk hlt,hz,show W9 R[j] g.edges[i]=0 from if_neg h,Int.add_zero]
  clear hz
  (conv=>whnf);repeat' (first  |(refine kA ?_;conv=>whnf)|(refine Br.mk (fun hc=>?_) fun hc=>?_<;>first|exact hc.elim|conv=>whnf)|(refine kB ?_))
  ·exact again.mk ⟨_,by omega,i+1,_,_,rfl,by omega,h1 hc,rfl,rfl⟩
  ·exact again.mk ⟨_,by omega,i+1,_,z,rfl,by omega,h0 hc,rfl,rfl⟩
 ·rw[List.take_of_length_le (by omega)]at hz
  subst hz
  (conv=>whnf);repeat' (first  |(refine kA ?_;conv=>whnf)|(refine Br.mk (fun hc=>?_) fun hc=>?_<;>first|exact hc.elim|conv=>whnf)|(refine kB ?_))
  exact hQ _ _
theorem ApW {g:GG} (hN:g.edges.length≤4000) {g1 g2 c j:Nat} {nn:Bool} {R:List (List UInt8)} (hj:j<R.length) (hR:R.length≤100000000) {o1 o2 o3:Obj} {Q:AA→Env→Ap→Prop}
 (hQ:∀c' tl,Q (.exit 6) ([(1,.ref 0 0 0 0),(2,.ref 1 g1 0 0),(5,.ref 2 g2 0 0),(10,.sl nn (vs .str R)),(11,.int .i64 j),(12,.int .i64 (BU g.edges R[j]))]++tl) ⟨[.arr 0 4 true true [g.av],o1,o2,o3],c'⟩):
 Run (Ad tab) (.loop l26_2_h l26_2_b) [(1,.ref 0 0 0 0),(2,.ref 1 g1 0 0),(5,.ref 2 g2 0 0),(10,.sl nn (vs .str R)),(11,.int .i64 j),(12,.int .i64 0),(13,.int .i64 0)] ⟨[.arr 0 4 true true [g.av],o1,o2,o3],c⟩ Q:=by
 refine Ae (fun m env s=>∃(i c:Nat) (z:Int),m=g.edges.length-i∧i≤g.edges.length∧z=BU (g.edges.take i) R[j]∧env=[(1,.ref 0 0 0 0),(2,.ref 1 g1 0 0),(5,.ref 2 g2 0 0),(10,.sl nn (vs .str R)),(11,.int .i64 j),(12,.int .i64 z),(13,.int .i64 i)]∧s=⟨[.arr 0 4 true true [g.av],o1,o2,o3],c⟩) ?_ _ _ _ ⟨0,c,0,rfl,by omega,rfl,rfl,rfl⟩
 rintro _ _ _ ⟨i,c,z,rfl,hi,hz,rfl,rfl⟩
 refine⟨rfl,?_⟩
 by_cases hlt:i<g.edges.length
 ·have hb:=@Ez (g.edges.take i) R[j]
  rw[List.length_take,←hz]at hb
  have h1:(g.edges[i]).ty=R[j]→z+1=BU (g.edges.take (i+1)) R[j]:=fun h=>by rw[Dk hlt,hz,show W9 R[j] g.edges[i]=1 from if_pos h]
  have h0:¬(g.edges[i]).ty=R[j]→z=BU (g.edges.take (i+1)) R[j]:=fun h=>by rw[Dk hlt,hz,show W9 R[j] g.edges[i]=0 from if_neg h,Int.add_zero]
  clear hz
  (conv=>whnf);repeat' (first  |(refine kA ?_;conv=>whnf)|(refine Br.mk (fun hc=>?_) fun hc=>?_<;>first|exact hc.elim|conv=>whnf)|(refine kB ?_))
  ·exact again.mk ⟨_,by omega,i+1,_,_,rfl,by omega,h1 hc,rfl,rfl⟩
  ·exact again.mk ⟨_,by omega,i+1,_,z,rfl,by omega,h0 hc,rfl,rfl⟩
 ·rw[List.take_of_length_le (by omega)]at hz
  subst hz
  (conv=>whnf);repeat' (first  |(refine kA ?_;conv=>whnf)|(refine Br.mk (fun hc=>?_) fun hc=>?_<;>first|exact hc.elim|conv=>whnf)|(refine kB ?_))
  exact hQ _ _
theorem ApX {g:GG} (hN:g.edges.length≤4000) {g1 g2 c j:Nat} {nn:Bool} {R:List (List UInt8)} (hj:j<R.length) (hR:R.length≤100000000) {o1 o2 o3 o4 o5:Obj} {Q:AA→Env→Ap→Prop}
 (hQ:∀c' tl,Q (.exit 6) ([(1,.ref 0 0 0 0),(2,.ref 1 g1 0 0),(5,.ref 2 g2 0 0),(10,.sl nn (vs .str R)),(11,.int .i64 j),(12,.int .i64 (BU g.edges R[j]))]++tl) ⟨[.arr 0 4 true true [g.av],o1,o2,o3,o4,o5],c'⟩):
 Run (Ad tab) (.loop l26_2_h l26_2_b) [(1,.ref 0 0 0 0),(2,.ref 1 g1 0 0),(5,.ref 2 g2 0 0),(10,.sl nn (vs .str R)),(11,.int .i64 j),(12,.int .i64 0),(13,.int .i64 0)] ⟨[.arr 0 4 true true [g.av],o1,o2,o3,o4,o5],c⟩ Q:=by
 refine Ae (fun m env s=>∃(i c:Nat) (z:Int),m=g.edges.length-i∧i≤g.edges.length∧z=BU (g.edges.take i) R[j]∧env=[(1,.ref 0 0 0 0),(2,.ref 1 g1 0 0),(5,.ref 2 g2 0 0),(10,.sl nn (vs .str R)),(11,.int .i64 j),(12,.int .i64 z),(13,.int .i64 i)]∧s=⟨[.arr 0 4 true true [g.av],o1,o2,o3,o4,o5],c⟩) ?_ _ _ _ ⟨0,c,0,rfl,by omega,rfl,rfl,rfl⟩
 rintro _ _ _ ⟨i,c,z,rfl,hi,hz,rfl,rfl⟩
 refine⟨rfl,?_⟩
 by_cases hlt:i<g.edges.length
 ·have hb:=@Ez (g.edges.take i) R[j]
  rw[List.length_take,←hz]at hb
  have h1:(g.edges[i]).ty=R[j]→z+1=BU (g.edges.take (i+1)) R[j]:=fun h=>by rw[Dk hlt,hz,show W9 R[j] g.edges[i]=1 from if_pos h]
  have h0:¬(g.edges[i]).ty=R[j]→z=BU (g.edges.take (i+1)) R[j]:=fun h=>by rw[Dk hlt,hz,show W9 R[j] g.edges[i]=0 from if_neg h,Int.add_zero]
  clear hz
  (conv=>whnf);repeat' (first  |(refine kA ?_;conv=>whnf)|(refine Br.mk (fun hc=>?_) fun hc=>?_<;>first|exact hc.elim|conv=>whnf)|(refine kB ?_))
  ·exact again.mk ⟨_,by omega,i+1,_,_,rfl,by omega,h1 hc,rfl,rfl⟩
  ·exact again.mk ⟨_,by omega,i+1,_,z,rfl,by omega,h0 hc,rfl,rfl⟩
 ·rw[List.take_of_length_le (by omega)]at hz
  subst hz
  (conv=>whnf);repeat' (first  |(refine kA ?_;conv=>whnf)|(refine Br.mk (fun hc=>?_) fun hc=>?_<;>first|exact hc.elim|conv=>whnf)|(refine kB ?_))
  exact hQ _ _
theorem ApY {g:GG} (hN:g.edges.length≤4000) {g1 g2 c j:Nat} {nn:Bool} {R:List (List UInt8)} (hj:j<R.length) (hR:R.length≤100000000) {o1 o2 o3 o4 o5 o6:Obj} {Q:AA→Env→Ap→Prop}
 (hQ:∀c' tl,Q (.exit 6) ([(1,.ref 0 0 0 0),(2,.ref 1 g1 0 0),(5,.ref 2 g2 0 0),(10,.sl nn (vs .str R)),(11,.int .i64 j),(12,.int .i64 (BU g.edges R[j]))]++tl) ⟨[.arr 0 4 true true [g.av],o1,o2,o3,o4,o5,o6],c'⟩):
 Run (Ad tab) (.loop l26_2_h l26_2_b) [(1,.ref 0 0 0 0),(2,.ref 1 g1 0 0),(5,.ref 2 g2 0 0),(10,.sl nn (vs .str R)),(11,.int .i64 j),(12,.int .i64 0),(13,.int .i64 0)] ⟨[.arr 0 4 true true [g.av],o1,o2,o3,o4,o5,o6],c⟩ Q:=by
 refine Ae (fun m env s=>∃(i c:Nat) (z:Int),m=g.edges.length-i∧i≤g.edges.length∧z=BU (g.edges.take i) R[j]∧env=[(1,.ref 0 0 0 0),(2,.ref 1 g1 0 0),(5,.ref 2 g2 0 0),(10,.sl nn (vs .str R)),(11,.int .i64 j),(12,.int .i64 z),(13,.int .i64 i)]∧s=⟨[.arr 0 4 true true [g.av],o1,o2,o3,o4,o5,o6],c⟩) ?_ _ _ _ ⟨0,c,0,rfl,by omega,rfl,rfl,rfl⟩
 rintro _ _ _ ⟨i,c,z,rfl,hi,hz,rfl,rfl⟩
 refine⟨rfl,?_⟩
 by_cases hlt:i<g.edges.length
 ·have hb:=@Ez (g.edges.take i) R[j]
  rw[List.length_take,←hz]at hb
  have h1:(g.edges[i]).ty=R[j]→z+1=BU (g.edges.take (i+1)) R[j]:=fun h=>by rw[Dk hlt,hz,show W9 R[j] g.edges[i]=1 from if_pos h]
  have h0:¬(g.edges[i]).ty=R[j]→z=BU (g.edges.take (i+1)) R[j]:=fun h=>by rw[Dk hlt,hz,show W9 R[j] g.edges[i]=0 from if_neg h,Int.add_zero]
  clear hz
  (conv=>whnf);repeat' (first  |(refine kA ?_;conv=>whnf)|(refine Br.mk (fun hc=>?_) fun hc=>?_<;>first|exact hc.elim|conv=>whnf)|(refine kB ?_))
  ·exact again.mk ⟨_,by omega,i+1,_,_,rfl,by omega,h1 hc,rfl,rfl⟩
  ·exact again.mk ⟨_,by omega,i+1,_,z,rfl,by omega,h0 hc,rfl,rfl⟩
 ·rw[List.take_of_length_le (by omega)]at hz
  subst hz
  (conv=>whnf);repeat' (first  |(refine kA ?_;conv=>whnf)|(refine Br.mk (fun hc=>?_) fun hc=>?_<;>first|exact hc.elim|conv=>whnf)|(refine kB ?_))
  exact hQ _ _
set_option maxHeartbeats 1000000 in
theorem ArC {g:GG} (hg:g.ok) (hN:g.nodes.length≤2000) {R:List (List UInt8)} (hR:R.length≤100000000) {nn:Bool} {N E:Int} {o1:Obj} {c:Nat} {Q:AA→Env→Ap→Prop}
 (hQ0:R=[]→∀c' tl,Q (.exit 0) ([(1,.ref 0 0 0 0),(2,.ref 1 1 0 0),(5,.ref 2 2 0 0)]++tl) ⟨[.arr 0 4 true true [g.av],o1,.arr 2 6 true true [.agg [.int .i64 N,.int .i64 E,.sl false [],.sl false [],.sl false [],.sl false []]]],c'⟩)
 (hQ1:R≠[]→∀c' g3 tl,Q (.exit 0) ([(1,.ref 0 0 0 0),(2,.ref 1 1 0 0),(5,.ref 2 2 0 0)]++tl) ⟨[.arr 0 4 true true [g.av],o1,.arr 2 6 true false [.agg [.int .i64 N,.int .i64 E,.own 3 g3 0 R.length,.sl false [],.sl false [],.sl false []]],.arr g3 2 true true (vs CN.av (cnts (DX g.nodes) R))],c'⟩):
 Run (Ad tab) (.loop l26_1_h l26_1_b) [(1,.ref 0 0 0 0),(2,.ref 1 1 0 0),(5,.ref 2 2 0 0),(6,.sl nn (vs .str R)),(7,.int .i64 0)] ⟨[.arr 0 4 true true [g.av],o1,.arr 2 6 true true [.agg [.int .i64 N,.int .i64 E,.sl false [],.sl false [],.sl false [],.sl false []]]],c⟩ Q:=by
 refine Ae (fun m env s=>∃(i c:Nat),m=R.length-i∧i≤R.length∧env=[(1,.ref 0 0 0 0),(2,.ref 1 1 0 0),(5,.ref 2 2 0 0),(6,.sl nn (vs .str R)),(7,.int .i64 i)]∧
  (i=0∧s=⟨[.arr 0 4 true true [g.av],o1,.arr 2 6 true true [.agg [.int .i64 N,.int .i64 E,.sl false [],.sl false [],.sl false [],.sl false []]]],c⟩∨
   0<i∧∃g3 n L,n=i∧L=cnts (DX g.nodes) (R.take i)∧n=L.length∧s=⟨[.arr 0 4 true true [g.av],o1,.arr 2 6 true false [.agg [.int .i64 N,.int .i64 E,.own 3 g3 0 n,.sl false [],.sl false [],.sl false []]],.arr g3 2 true true (vs CN.av L)],c⟩)) ?_ _ _ _ ⟨0,c,rfl,by omega,rfl,.inl ⟨rfl,rfl⟩⟩
 rintro _ _ _ ⟨i,c,rfl,hi,rfl,h⟩
 have hgl:g.nodes.length<2^62:=by omega
 rcases h with⟨rfl,rfl⟩|⟨hpos,g3,n,L,hni,U4,hn,rfl⟩
 ·refine⟨rfl,?_⟩
  by_cases hlt:0<R.length
  ·have hs:=@Eh (DX g.nodes) R 0 hlt
   (conv=>whnf);repeat' (first  |(refine kA ?_;conv=>whnf)|(refine Br.mk (fun hc=>?_) fun hc=>?_<;>first|exact hc.elim|conv=>whnf)|(refine kB ?_))
   refine ArD hg hN hlt hR ?_
   intro c' tl
   (conv=>whnf);repeat' (first|(refine Dc (l:=[]) (x:=(⟨R[0],DX g.nodes R[0]⟩:CN)) Jj rfl (by simp) ?_;conv=>whnf)|(refine kA ?_;conv=>whnf)|(refine Br.mk (fun hc=>?_) fun hc=>?_<;>first|exact hc.elim|conv=>whnf)|(refine kB ?_))
   exact again.mk ⟨_,by omega,1,_,rfl,by omega,rfl,.inr ⟨by omega,_,_,_,rfl,hs.symm,rfl,rfl⟩⟩
  ·(conv=>whnf);repeat' (first  |(refine kA ?_;conv=>whnf)|(refine Br.mk (fun hc=>?_) fun hc=>?_<;>first|exact hc.elim|conv=>whnf)|(refine kB ?_))
   exact hQ0 (List.eq_nil_of_length_eq_zero (by omega)) _ _
 ·refine⟨rfl,?_⟩
  by_cases hlt:i<R.length
  ·have hs:=@Eh (DX g.nodes) R i hlt
   (conv=>whnf);repeat' (first  |(refine kA ?_;conv=>whnf)|(refine Br.mk (fun hc=>?_) fun hc=>?_<;>first|exact hc.elim|conv=>whnf)|(refine kB ?_))
   refine ArE hg hN hlt hR ?_
   intro c' tl
   (conv=>whnf);repeat' (first|(refine Dc (x:=(⟨R[i],DX g.nodes R[i]⟩:CN)) Jj hn (by omega) ?_;conv=>whnf)|(refine kA ?_;conv=>whnf)|(refine Br.mk (fun hc=>?_) fun hc=>?_<;>first|exact hc.elim|conv=>whnf)|(refine kB ?_))
   rw[← U4]at hs
   exact again.mk ⟨_,by omega,i+1,_,rfl,by omega,rfl,.inr ⟨by omega,_,_,_,by omega,hs.symm,by simp,rfl⟩⟩
  ·rw[List.take_of_length_le (by omega)]at U4
   (conv=>whnf);repeat' (first  |(refine kA ?_;conv=>whnf)|(refine Br.mk (fun hc=>?_) fun hc=>?_<;>first|exact hc.elim|conv=>whnf)|(refine kB ?_))
   subst U4
   obtain rfl:n=R.length:=by omega
   exact hQ1 (fun h=>by rw[h]at hni;simp at hni;omega) _ _ _
def KJ (g:GG) (dir:Int) (R:List (List UInt8)) (O:List (Bool×List Int)):Prop:=O.map Prod.snd=R.map (ND g dir)
theorem Gs {g:GG} {dir:Int} {R:List (List UInt8)} {O:List (Bool×List Int)} {i:Nat} (hi:i<R.length) (h:KJ g dir (R.take i) O) {b:Bool} {W:List Int} (h1:desc W) (h2:W.Perm (KN R[i] dir g.nodes g.edges)):
 KJ g dir (R.take (i+1)) (O++[(b,W)]):=by
 unfold KJ at*
 rw[List.take_succ_eq_append_getElem hi,List.map_append,List.map_append,h,AcW h1 h2];rfl
theorem O5 {g:GG} {dir:Int} {R:List (List UInt8)} {O:List (Bool×List Int)} (h:KJ g dir R O):O.length=R.length:=by
 have:=congrArg List.length h
 simpa using this
set_option maxHeartbeats 1000000 in
theorem As4 {g:GG} (hg:g.ok) (hck:Az g=0) (hN:g.nodes.length≤2000) (hE:g.edges.length≤4000) {R:List (List UInt8)} (hR:R.length≤100000000) {nn:Bool} {N E:Int} {o1:Obj} {c:Nat} {Q:AA→Env→Ap→Prop}
 (hQ0:R=[]→∀c' tl,Q (.exit 4) ([(1,.ref 0 0 0 0),(2,.ref 1 1 0 0),(5,.ref 2 2 0 0)]++tl) ⟨[.arr 0 4 true true [g.av],o1,.arr 2 6 true true [.agg [.int .i64 N,.int .i64 E,.sl false [],.sl false [],.sl false [],.sl false []]]],c'⟩)
 (hQ1:R≠[]→∀c' ga gb gc n O I tl,n=R.length→KJ g 1 R O→KJ g 2 R I→Q (.exit 4) ([(1,.ref 0 0 0 0),(2,.ref 1 1 0 0),(5,.ref 2 2 0 0)]++tl) ⟨[.arr 0 4 true true [g.av],o1,.arr 2 6 true false [.agg [.int .i64 N,.int .i64 E,.sl false [],.own 3 ga 0 n,.own 4 gb 0 n,.own 5 gc 0 n]],.arr ga 2 true true (vs CN.av (cnts (BU g.edges) R)),.arr gb 1 true true (vs GY O),.arr gc 1 true true (vs GY I)],c'⟩):
 Run (Ad tab) (.loop l26_3_h l26_3_b) [(1,.ref 0 0 0 0),(2,.ref 1 1 0 0),(5,.ref 2 2 0 0),(10,.sl nn (vs .str R)),(11,.int .i64 0)] ⟨[.arr 0 4 true true [g.av],o1,.arr 2 6 true true [.agg [.int .i64 N,.int .i64 E,.sl false [],.sl false [],.sl false [],.sl false []]]],c⟩ Q:=by
 refine Ae (fun m env s=>∃(i c:Nat),m=R.length-i∧i≤R.length∧env=[(1,.ref 0 0 0 0),(2,.ref 1 1 0 0),(5,.ref 2 2 0 0),(10,.sl nn (vs .str R)),(11,.int .i64 i)]∧
  (i=0∧s=⟨[.arr 0 4 true true [g.av],o1,.arr 2 6 true true [.agg [.int .i64 N,.int .i64 E,.sl false [],.sl false [],.sl false [],.sl false []]]],c⟩∨
   0<i∧∃ga gb gc n na nb nc L O I,n=i∧L=cnts (BU g.edges) (R.take i)∧KJ g 1 (R.take i) O∧KJ g 2 (R.take i) I∧na=n∧nb=n∧nc=n∧n=L.length∧n=O.length∧n=I.length∧s=⟨[.arr 0 4 true true [g.av],o1,.arr 2 6 true false [.agg [.int .i64 N,.int .i64 E,.sl false [],.own 3 ga 0 na,.own 4 gb 0 nb,.own 5 gc 0 nc]],.arr ga 2 true true (vs CN.av L),.arr gb 1 true true (vs GY O),.arr gc 1 true true (vs GY I)],c⟩)) ?_ _ _ _ ⟨0,c,rfl,by omega,rfl,.inl ⟨rfl,rfl⟩⟩
 rintro _ _ _ ⟨i,c,rfl,hi,rfl,h⟩
 rcases h with⟨rfl,rfl⟩|⟨hpos,ga,gb,gc,n,na,nb,nc,L,O,I,hni,U4,hO,hI,rfl,hb2,hc2,hn,hnO,hnI,rfl⟩
 ·refine⟨rfl,?_⟩
  by_cases hlt:0<R.length
  ·have hs:=@Eh (BU g.edges) R 0 hlt
   (conv=>whnf);repeat' (first  |(refine kA ?_;conv=>whnf)|(refine Br.mk (fun hc=>?_) fun hc=>?_<;>first|exact hc.elim|conv=>whnf)|(refine kB ?_))
   refine ApV hE hlt hR ?_
   intro c' tl
   (conv=>whnf);repeat' (first|(refine Dc (l:=[]) (x:=(⟨R[0],BU g.edges R[0]⟩:CN)) Jj rfl (by simp) ?_;conv=>whnf)|(refine kA ?_;conv=>whnf)|(refine Br.mk (fun hc=>?_) fun hc=>?_<;>first|exact hc.elim|conv=>whnf)|(refine kB ?_))
   refine Aa (Tt (typ:=R[0]) (dir:=1) hg hN hE) ?_
   rintro _ ⟨b1,W1,rfl,q1⟩
   obtain⟨w1,p1⟩:=q1.2 hck
   (conv=>whnf);repeat' (first|(refine Dc (l:=[]) (f:=GY) (x:=(b1,W1)) ED rfl (by simp) ?_;conv=>whnf)|(refine kA ?_;conv=>whnf)|(refine Br.mk (fun hc=>?_) fun hc=>?_<;>first|exact hc.elim|conv=>whnf)|(refine kB ?_))
   refine Aa (Tt (typ:=R[0]) (dir:=2) hg hN hE) ?_
   rintro _ ⟨b2,W2,rfl,q2⟩
   obtain⟨w2,p2⟩:=q2.2 hck
   (conv=>whnf);repeat' (first|(refine Dc (l:=[]) (f:=GY) (x:=(b2,W2)) ED rfl (by simp) ?_;conv=>whnf)|(refine kA ?_;conv=>whnf)|(refine Br.mk (fun hc=>?_) fun hc=>?_<;>first|exact hc.elim|conv=>whnf)|(refine kB ?_))
   exact again.mk ⟨_,by omega,1,_,rfl,by omega,rfl,.inr ⟨by omega,_,_,_,_,_,_,_,_,_,_,rfl,hs.symm,Gs (O:=[]) hlt rfl w1 p1,Gs (O:=[]) hlt rfl w2 p2,rfl,rfl,rfl,rfl,rfl,rfl,rfl⟩⟩
  ·(conv=>whnf);repeat' (first  |(refine kA ?_;conv=>whnf)|(refine Br.mk (fun hc=>?_) fun hc=>?_<;>first|exact hc.elim|conv=>whnf)|(refine kB ?_))
   exact hQ0 (List.eq_nil_of_length_eq_zero (by omega)) _ _
 ·refine⟨rfl,?_⟩
  by_cases hlt:i<R.length
  ·have hs:=@Eh (BU g.edges) R i hlt
   (conv=>whnf);repeat' (first  |(refine kA ?_;conv=>whnf)|(refine Br.mk (fun hc=>?_) fun hc=>?_<;>first|exact hc.elim|conv=>whnf)|(refine kB ?_))
   refine ApX hE hlt hR ?_
   intro c' tl
   (conv=>whnf);repeat' (first|(refine Dc (x:=(⟨R[i],BU g.edges R[i]⟩:CN)) Jj hn (by omega) ?_;conv=>whnf)|(refine kA ?_;conv=>whnf)|(refine Br.mk (fun hc=>?_) fun hc=>?_<;>first|exact hc.elim|conv=>whnf)|(refine kB ?_))
   refine Aa (Tt (typ:=R[i]) (dir:=1) hg hN hE) ?_
   rintro _ ⟨b1,W1,rfl,q1⟩
   obtain⟨w1,p1⟩:=q1.2 hck
   (conv=>whnf);repeat' (first|(refine Dc (f:=GY) (x:=(b1,W1)) ED (by omega) (by omega) ?_;conv=>whnf)|(refine kA ?_;conv=>whnf)|(refine Br.mk (fun hc=>?_) fun hc=>?_<;>first|exact hc.elim|conv=>whnf)|(refine kB ?_))
   refine Aa (Tt (typ:=R[i]) (dir:=2) hg hN hE) ?_
   rintro _ ⟨b2,W2,rfl,q2⟩
   obtain⟨w2,p2⟩:=q2.2 hck
   (conv=>whnf);repeat' (first|(refine Dc (f:=GY) (x:=(b2,W2)) ED (by omega) (by omega) ?_;conv=>whnf)|(refine kA ?_;conv=>whnf)|(refine Br.mk (fun hc=>?_) fun hc=>?_<;>first|exact hc.elim|conv=>whnf)|(refine kB ?_))
   rw[← U4]at hs
   exact again.mk ⟨_,by omega,i+1,_,rfl,by omega,rfl,.inr ⟨by omega,_,_,_,_,_,_,_,_,_,_,rfl,hs.symm,Gs hlt hO w1 p1,Gs hlt hI w2 p2,by first|omega|(simp;omega),by first|omega|(simp;omega),by first|omega|(simp;omega),by simp;omega,by simp;omega,by simp;omega,rfl⟩⟩
  ·rw[List.take_of_length_le (by omega)]at U4 hO hI
   subst hb2 hc2
   (conv=>whnf);repeat' (first  |(refine kA ?_;conv=>whnf)|(refine Br.mk (fun hc=>?_) fun hc=>?_<;>first|exact hc.elim|conv=>whnf)|(refine kB ?_))
   subst U4
   exact hQ1 (fun h=>by rw[h]at hlt;simp at hlt;rw[h]at hi;simp at hi;omega) _ _ _ _ _ _ _ _ (by omega) hO hI
set_option maxHeartbeats 1000000 in
theorem As5 {g:GG} (hg:g.ok) (hck:Az g=0) (hN:g.nodes.length≤2000) (hE:g.edges.length≤4000) {R:List (List UInt8)} (hR:R.length≤100000000) {nn:Bool} {N E:Int} {o1:Obj} {o3:Obj} {g3 n3:Nat} {c:Nat} {Q:AA→Env→Ap→Prop}
 (hQ0:R=[]→∀c' tl,Q (.exit 4) ([(1,.ref 0 0 0 0),(2,.ref 1 1 0 0),(5,.ref 2 2 0 0)]++tl) ⟨[.arr 0 4 true true [g.av],o1,.arr 2 6 true false [.agg [.int .i64 N,.int .i64 E,.own 3 g3 0 n3,.sl false [],.sl false [],.sl false []]],o3],c'⟩)
 (hQ1:R≠[]→∀c' ga gb gc n O I tl,n=R.length→KJ g 1 R O→KJ g 2 R I→Q (.exit 4) ([(1,.ref 0 0 0 0),(2,.ref 1 1 0 0),(5,.ref 2 2 0 0)]++tl) ⟨[.arr 0 4 true true [g.av],o1,.arr 2 6 true false [.agg [.int .i64 N,.int .i64 E,.own 3 g3 0 n3,.own 4 ga 0 n,.own 5 gb 0 n,.own 6 gc 0 n]],o3,.arr ga 2 true true (vs CN.av (cnts (BU g.edges) R)),.arr gb 1 true true (vs GY O),.arr gc 1 true true (vs GY I)],c'⟩):
 Run (Ad tab) (.loop l26_3_h l26_3_b) [(1,.ref 0 0 0 0),(2,.ref 1 1 0 0),(5,.ref 2 2 0 0),(10,.sl nn (vs .str R)),(11,.int .i64 0)] ⟨[.arr 0 4 true true [g.av],o1,.arr 2 6 true false [.agg [.int .i64 N,.int .i64 E,.own 3 g3 0 n3,.sl false [],.sl false [],.sl false []]],o3],c⟩ Q:=by
 refine Ae (fun m env s=>∃(i c:Nat),m=R.length-i∧i≤R.length∧env=[(1,.ref 0 0 0 0),(2,.ref 1 1 0 0),(5,.ref 2 2 0 0),(10,.sl nn (vs .str R)),(11,.int .i64 i)]∧
  (i=0∧s=⟨[.arr 0 4 true true [g.av],o1,.arr 2 6 true false [.agg [.int .i64 N,.int .i64 E,.own 3 g3 0 n3,.sl false [],.sl false [],.sl false []]],o3],c⟩∨
   0<i∧∃ga gb gc n na nb nc L O I,n=i∧L=cnts (BU g.edges) (R.take i)∧KJ g 1 (R.take i) O∧KJ g 2 (R.take i) I∧na=n∧nb=n∧nc=n∧n=L.length∧n=O.length∧n=I.length∧s=⟨[.arr 0 4 true true [g.av],o1,.arr 2 6 true false [.agg [.int .i64 N,.int .i64 E,.own 3 g3 0 n3,.own 4 ga 0 na,.own 5 gb 0 nb,.own 6 gc 0 nc]],o3,.arr ga 2 true true (vs CN.av L),.arr gb 1 true true (vs GY O),.arr gc 1 true true (vs GY I)],c⟩)) ?_ _ _ _ ⟨0,c,rfl,by omega,rfl,.inl ⟨rfl,rfl⟩⟩
 rintro _ _ _ ⟨i,c,rfl,hi,rfl,h⟩
 rcases h with⟨rfl,rfl⟩|⟨hpos,ga,gb,gc,n,na,nb,nc,L,O,I,hni,U4,hO,hI,rfl,hb2,hc2,hn,hnO,hnI,rfl⟩
 ·refine⟨rfl,?_⟩
  by_cases hlt:0<R.length
  ·have hs:=@Eh (BU g.edges) R 0 hlt
   (conv=>whnf);repeat' (first  |(refine kA ?_;conv=>whnf)|(refine Br.mk (fun hc=>?_) fun hc=>?_<;>first|exact hc.elim|conv=>whnf)|(refine kB ?_))
   refine ApW hE hlt hR ?_
   intro c' tl
   (conv=>whnf);repeat' (first|(refine Dc (l:=[]) (x:=(⟨R[0],BU g.edges R[0]⟩:CN)) Jj rfl (by simp) ?_;conv=>whnf)|(refine kA ?_;conv=>whnf)|(refine Br.mk (fun hc=>?_) fun hc=>?_<;>first|exact hc.elim|conv=>whnf)|(refine kB ?_))
   refine Aa (Tt (typ:=R[0]) (dir:=1) hg hN hE) ?_
   rintro _ ⟨b1,W1,rfl,q1⟩
   obtain⟨w1,p1⟩:=q1.2 hck
   (conv=>whnf);repeat' (first|(refine Dc (l:=[]) (f:=GY) (x:=(b1,W1)) ED rfl (by simp) ?_;conv=>whnf)|(refine kA ?_;conv=>whnf)|(refine Br.mk (fun hc=>?_) fun hc=>?_<;>first|exact hc.elim|conv=>whnf)|(refine kB ?_))
   refine Aa (Tt (typ:=R[0]) (dir:=2) hg hN hE) ?_
   rintro _ ⟨b2,W2,rfl,q2⟩
   obtain⟨w2,p2⟩:=q2.2 hck
   (conv=>whnf);repeat' (first|(refine Dc (l:=[]) (f:=GY) (x:=(b2,W2)) ED rfl (by simp) ?_;conv=>whnf)|(refine kA ?_;conv=>whnf)|(refine Br.mk (fun hc=>?_) fun hc=>?_<;>first|exact hc.elim|conv=>whnf)|(refine kB ?_))
   exact again.mk ⟨_,by omega,1,_,rfl,by omega,rfl,.inr ⟨by omega,_,_,_,_,_,_,_,_,_,_,rfl,hs.symm,Gs (O:=[]) hlt rfl w1 p1,Gs (O:=[]) hlt rfl w2 p2,rfl,rfl,rfl,rfl,rfl,rfl,rfl⟩⟩
  ·(conv=>whnf);repeat' (first  |(refine kA ?_;conv=>whnf)|(refine Br.mk (fun hc=>?_) fun hc=>?_<;>first|exact hc.elim|conv=>whnf)|(refine kB ?_))
   exact hQ0 (List.eq_nil_of_length_eq_zero (by omega)) _ _
 ·refine⟨rfl,?_⟩
  by_cases hlt:i<R.length
  ·have hs:=@Eh (BU g.edges) R i hlt
   (conv=>whnf);repeat' (first  |(refine kA ?_;conv=>whnf)|(refine Br.mk (fun hc=>?_) fun hc=>?_<;>first|exact hc.elim|conv=>whnf)|(refine kB ?_))
   refine ApY hE hlt hR ?_
   intro c' tl
   (conv=>whnf);repeat' (first|(refine Dc (x:=(⟨R[i],BU g.edges R[i]⟩:CN)) Jj hn (by omega) ?_;conv=>whnf)|(refine kA ?_;conv=>whnf)|(refine Br.mk (fun hc=>?_) fun hc=>?_<;>first|exact hc.elim|conv=>whnf)|(refine kB ?_))
   refine Aa (Tt (typ:=R[i]) (dir:=1) hg hN hE) ?_
   rintro _ ⟨b1,W1,rfl,q1⟩
   obtain⟨w1,p1⟩:=q1.2 hck
   (conv=>whnf);repeat' (first|(refine Dc (f:=GY) (x:=(b1,W1)) ED (by omega) (by omega) ?_;conv=>whnf)|(refine kA ?_;conv=>whnf)|(refine Br.mk (fun hc=>?_) fun hc=>?_<;>first|exact hc.elim|conv=>whnf)|(refine kB ?_))
   refine Aa (Tt (typ:=R[i]) (dir:=2) hg hN hE) ?_
   rintro _ ⟨b2,W2,rfl,q2⟩
   obtain⟨w2,p2⟩:=q2.2 hck
   (conv=>whnf);repeat' (first|(refine Dc (f:=GY) (x:=(b2,W2)) ED (by omega) (by omega) ?_;conv=>whnf)|(refine kA ?_;conv=>whnf)|(refine Br.mk (fun hc=>?_) fun hc=>?_<;>first|exact hc.elim|conv=>whnf)|(refine kB ?_))
   rw[← U4]at hs
   exact again.mk ⟨_,by omega,i+1,_,rfl,by omega,rfl,.inr ⟨by omega,_,_,_,_,_,_,_,_,_,_,rfl,hs.symm,Gs hlt hO w1 p1,Gs hlt hI w2 p2,by first|omega|(simp;omega),by first|omega|(simp;omega),by first|omega|(simp;omega),by simp;omega,by simp;omega,by simp;omega,rfl⟩⟩
  ·rw[List.take_of_length_le (by omega)]at U4 hO hI
   subst hb2 hc2
   (conv=>whnf);repeat' (first  |(refine kA ?_;conv=>whnf)|(refine Br.mk (fun hc=>?_) fun hc=>?_<;>first|exact hc.elim|conv=>whnf)|(refine kB ?_))
   subst U4
   exact hQ1 (fun h=>by rw[h]at hlt;simp at hlt;rw[h]at hi;simp at hi;omega) _ _ _ _ _ _ _ _ (by omega) hO hI
def Atg (g:GG) (v:AV):Prop:=∃(ln tn un vn:Bool) (R T:List (List UInt8)) (O I:List (Bool×List Int)),
 v=.BH [.agg [.int .i64 g.nodes.length,.int .i64 g.edges.length,.sl ln (vs CN.av (cnts (DX g.nodes) R)),.sl tn (vs CN.av (cnts (BU g.edges) T)),.sl un (vs GY O),.sl vn (vs GY I)],.int .i64 0]∧
 Jp R∧(∀ x,x∈R↔x∈Dv g.nodes)∧Jp T∧(∀ x,x∈T↔x∈typesOf g.edges)∧KJ g 1 T O∧KJ g 2 T I
theorem Atd {g:GG} (hg:g.ok) (hc0:Az g≠0):Af (Ad tab) 26 [g.av] (· =.BH [.agg [.int .i64 0,.int .i64 0,.sl false [],.sl false [],.sl false [],.sl false []],.int .i64 (Az g)]):=by
 refine Ac rfl rfl ?_
 (conv=>whnf);repeat' (first|(refine Aa (RQ hg) ?_;rintro _ rfl;conv=>whnf)|(refine kA ?_;conv=>whnf)|(refine Br.mk (fun hc=>?_) fun hc=>?_<;>first|exact hc.elim|conv=>whnf)|(refine kB ?_))
 rfl
set_option maxHeartbeats 1000000 in
theorem ofR {g:GG} (hg:g.ok) (hN:g.nodes.length≤2000) (hE:g.edges.length≤4000) (hc0:Az g=0) (hL:∀n∈g.nodes,n.labels.length≤2000):Af (Ad tab) 26 [g.av] (Atg g):=by
 refine Ac rfl rfl ?_
 (conv=>whnf);repeat' (first|(refine Aa (RQ hg) ?_;rintro _ rfl;conv=>whnf)|(refine kA ?_;conv=>whnf)|(refine Br.mk (fun hc=>?_) fun hc=>?_<;>first|exact hc.elim|conv=>whnf)|(refine kB ?_))
 refine Aa (Aku hg hN hL) ?_
 rintro _ ⟨nn,R,rfl,hi,hm,_⟩
 have hR:R.length≤100000000:=by
  have h1:=FQ (FT hi) fun x hx=>(hm x).1 hx
  have h2:=Ri (R:=R) hL
  omega
 (conv=>whnf);repeat' (first  |(refine kA ?_;conv=>whnf)|(refine Br.mk (fun hc=>?_) fun hc=>?_<;>first|exact hc.elim|conv=>whnf)|(refine kB ?_))
 refine ArC hg hN hR ?_ ?_
 ·intro hR0 c' tl
  (conv=>whnf);repeat' (first  |(refine kA ?_;conv=>whnf)|(refine Br.mk (fun hc=>?_) fun hc=>?_<;>first|exact hc.elim|conv=>whnf)|(refine kB ?_))
  refine Aa (Ah8 hg hE) ?_
  rintro _ ⟨nt,T,rfl,ti,tm,_⟩
  have hT:T.length≤100000000:=by
   have h1:=FQ (FT ti) fun x hx=>(tm x).1 hx
   simp only[typesOf,List.length_map]at h1
   omega
  (conv=>whnf);repeat' (first  |(refine kA ?_;conv=>whnf)|(refine Br.mk (fun hc=>?_) fun hc=>?_<;>first|exact hc.elim|conv=>whnf)|(refine kB ?_))
  refine As4 hg hc0 hN hE hT ?_ ?_
  ·intro hT0 c' tl
   (conv=>whnf);repeat' (first  |(refine kA ?_;conv=>whnf)|(refine Br.mk (fun hc=>?_) fun hc=>?_<;>first|exact hc.elim|conv=>whnf)|(refine kB ?_))
   exact⟨_,_,_,_,[],[],[],[],rfl,hR0▸hi,hR0▸hm,hT0▸ti,hT0▸tm,rfl,rfl⟩
  ·intro hT0 c' ga gb gc n O I tl hn hO hI
   have l1:=O5 hO
   have l2:=O5 hI
   (conv=>whnf);repeat' (first  |(refine kA ?_;conv=>whnf)|(refine Br.mk (fun hc=>?_) fun hc=>?_<;>first|exact hc.elim|conv=>whnf)|(refine kB ?_))
   have e1:n=(cnts (BU g.edges) T).length:=by simp[cnts];omega
   refine Ag (x:=.agg [.int .i64 g.nodes.length,.int .i64 g.edges.length,.sl false [],.sl true (vs CN.av (cnts (BU g.edges) T)),.sl true (vs GY O),.sl true (vs GY I)]) ?_ ?_
   ·refine AdY (m:=999978) (N:=g.nodes.length) (E:=g.edges.length) (i:=3) (j:=4) (k:=5) (ga:=ga) (gb:=gb) (gc:=gc) (lab:=.sl false []) (lab':=.sl false []) ?_ ?_ ?_ ?_ e1 (hn.trans l1.symm) (hn.trans l2.symm)
    ·exact fun n=>rfl
    all_goals rfl
   (conv=>whnf);repeat' (first  |(refine kA ?_;conv=>whnf)|(refine Br.mk (fun hc=>?_) fun hc=>?_<;>first|exact hc.elim|conv=>whnf)|(refine kB ?_))
   exact⟨_,_,_,_,[],T,O,I,rfl,hR0▸hi,hR0▸hm,ti,tm,hO,hI⟩
 ·intro hR0 c' g3 tl
  have e0:R.length=(cnts (DX g.nodes) R).length:=by simp[cnts]
  (conv=>whnf);repeat' (first  |(refine kA ?_;conv=>whnf)|(refine Br.mk (fun hc=>?_) fun hc=>?_<;>first|exact hc.elim|conv=>whnf)|(refine kB ?_))
  refine Aa (Ah8 hg hE) ?_
  rintro _ ⟨nt,T,rfl,ti,tm,_⟩
  have hT:T.length≤100000000:=by
   have h1:=FQ (FT ti) fun x hx=>(tm x).1 hx
   simp only[typesOf,List.length_map]at h1
   omega
  (conv=>whnf);repeat' (first  |(refine kA ?_;conv=>whnf)|(refine Br.mk (fun hc=>?_) fun hc=>?_<;>first|exact hc.elim|conv=>whnf)|(refine kB ?_))
  refine As5 hg hc0 hN hE hT ?_ ?_
  ·intro hT0 c' tl
   (conv=>whnf);repeat' (first  |(refine kA ?_;conv=>whnf)|(refine Br.mk (fun hc=>?_) fun hc=>?_<;>first|exact hc.elim|conv=>whnf)|(refine kB ?_))
   refine Ag (x:=.agg [.int .i64 g.nodes.length,.int .i64 g.edges.length,.sl true (vs CN.av (cnts (DX g.nodes) R)),.sl false [],.sl false [],.sl false []]) ?_ ?_
   ·refine Ah9 (m:=999978) (N:=g.nodes.length) (E:=g.edges.length) (a:=.own 3 g3 0 R.length) (b:=.sl false []) (c:=.sl false []) (d:=.sl false []) ?_ ?_ ?_ ?_
    ·exact fun _=>JZ rfl e0
    all_goals exact fun n=>rfl
   (conv=>whnf);repeat' (first  |(refine kA ?_;conv=>whnf)|(refine Br.mk (fun hc=>?_) fun hc=>?_<;>first|exact hc.elim|conv=>whnf)|(refine kB ?_))
   exact⟨_,_,_,_,R,[],[],[],rfl,hi,hm,hT0▸ti,hT0▸tm,rfl,rfl⟩
  ·intro hT0 c' ga gb gc n O I tl hn hO hI
   have l1:=O5 hO
   have l2:=O5 hI
   (conv=>whnf);repeat' (first  |(refine kA ?_;conv=>whnf)|(refine Br.mk (fun hc=>?_) fun hc=>?_<;>first|exact hc.elim|conv=>whnf)|(refine kB ?_))
   have e1:n=(cnts (BU g.edges) T).length:=by simp[cnts];omega
   refine Ag (x:=.agg [.int .i64 g.nodes.length,.int .i64 g.edges.length,.sl true (vs CN.av (cnts (DX g.nodes) R)),.sl true (vs CN.av (cnts (BU g.edges) T)),.sl true (vs GY O),.sl true (vs GY I)]) ?_ ?_
   ·refine AdY (m:=999978) (N:=g.nodes.length) (E:=g.edges.length) (i:=4) (j:=5) (k:=6) (ga:=ga) (gb:=gb) (gc:=gc) (lab:=.own 3 g3 0 R.length) (lab':=.sl true (vs CN.av (cnts (DX g.nodes) R))) ?_ ?_ ?_ ?_ e1 (hn.trans l1.symm) (hn.trans l2.symm)
    ·exact fun _=>JZ rfl e0
    all_goals rfl
   (conv=>whnf);repeat' (first  |(refine kA ?_;conv=>whnf)|(refine Br.mk (fun hc=>?_) fun hc=>?_<;>first|exact hc.elim|conv=>whnf)|(refine kB ?_))
   exact⟨_,_,_,_,R,T,O,I,rfl,hi,hm,ti,tm,hO,hI⟩
theorem Ac3 {g:GG} (hc:Az g=0):∀n∈g.nodes,n.labels.length≤8:=by
 intro n hn
 obtain⟨c1,c2,c3,c4⟩:=Lc hc
 obtain⟨k,hk,rfl⟩:=List.getElem_of_mem hn
 have h:=(J9 hk (c3 k hk)).2.2.2
 refine Decidable.byContradiction fun h8=>?_
 rw[DC,if_pos (.inl (by omega))]at h
 omega
theorem Agm {g:GG} {dir:Int} {x:List UInt8}:(ND g dir x).length≤g.nodes.length:=by
 unfold ND
 rw[L9.length_eq]
 exact AfX
theorem Vd {g:GG} (hN:g.nodes.length≤2000) {dir:Int} {T:List (List UInt8)} {O:List (Bool×List Int)} (h:O.map Prod.snd=T.map (ND g dir)):∀p∈O,p.2.length<2^62:=by
 intro p hp
 have:p.2∈T.map (ND g dir):=by rw[← h];exact List.mem_map_of_mem hp
 obtain⟨x,_,hx⟩:=List.mem_map.1 this
 have:=@Agm g dir x
 rw[← hx];omega
structure GC where
 op:Int
 id:Int
 fr:Int
 to:Int
 name:List UInt8
 v:GV
def GC.av (c:GC):AV:=.agg [.int .i64 c.op,.int .i64 c.id,.int .i64 c.fr,.int .i64 c.to,.str c.name,.int .i64 c.v.k,.int .i64 c.v.n,.int .i64 c.v.d,.str c.v.s,.sl c.v.nn c.v.l]
def GC.ok (c:GC):Prop:=I64 c.op∧I64 c.id∧I64 c.fr∧I64 c.to∧Ln c.name∧c.v.ok
def AlD (ns:List Int) (N:List GN):List GN:=N.filter fun n=>decide (n.id∉ns)
def AlE (es:List Int) (E:List GE):List GE:=E.filter fun e=>decide (e.id∉es)
theorem WJ:∀n:GN,n.av.cells.length=3:=fun _=>rfl
theorem cellsE:∀n:GE,n.av.cells.length=5:=fun _=>rfl
theorem SH:∀n:GP,n.av.cells.length=6:=fun _=>rfl
def Td (ns es:List Int) (g h:GG):Prop:=AlD ns h.nodes=AlD ns g.nodes∧AlE es h.edges=AlE es g.edges
theorem Td.refl (ns es:List Int) (g:GG):Td ns es g g:=⟨rfl,rfl⟩
theorem Td.trans {ns es:List Int} {g h k:GG} (h1:Td ns es g h) (h2:Td ns es h k):Td ns es g k:=⟨h2.1.trans h1.1,h2.2.trans h1.2⟩
end AI
end Go.Proofs.YtceiccjppfapjaaGreatDoor
