/- build, walked. Valid values, and values that are alike: plain. Fractions added exactly; the sums of betweenness: plain. Valid fractions: the program's. Valid fractions: the reference's. -/
import Derived.Test.YtchcadfjbkkgmaaGreatDoorDMam
import Derived.Test.YtchcadfjbkkgmaaGreatDoorDMah
import Derived.Test.YtchcadfjbkkgmaaGreatDoorDMae
import Derived.Test.YtchcadfjbkkgmaaGreatDoorDMai
set_option linter.unusedVariables false
set_option maxRecDepth 4000
namespace Go.Proofs.YtchcadfjbkkgmaaGreatDoor
namespace AI
theorem AcQ {AP:Nat→Option Hy} {f:Nat} {fn:FQ} {args:List AV} {R:AV→Prop} (hf:AP f=some (.code fn)) (hl:args.length=fn.np) (h:vC AP fn.body (params args 0) ⟨[],0⟩ (Aff fn fun out s'=>∃r v,out=.ok r∧snap s'.σ EY r=some v∧R v)):Ah AP f args R:=by
 obtain⟨N,out,s',h1,r,v,rfl,h3,h4⟩:=RZ hf hl (G8 h)
 exact⟨v,⟨N,by simp only[CB,h1];exact h3⟩,h4⟩
theorem fkU {M:List (Int×Int)} {k v:Int} {K:Option (Nat×AV)→Prop} (h:Dz M k=some v) (hK:∀i,K (some (i,.int .i64 v))):Nb .int (.int .i64 k) (Ot M) K:=
 fkI (fun hm=>by rw[h]at hm;cases hm) fun i w hm=>by
  rw[h]at hm
  cases hm
  exact hK i
theorem JC {o g i n:Nat}:AL (.own o g i n) (.own o g i n)=true:=by simp[AL]
theorem AcR {σ:List Obj}:List.take σ.length σ=σ:=List.take_of_length_le (Nat.le_refl _)
theorem Xt {S:List Int} {r:Int→Int}:(FB S r).map Prod.fst=S:=by
 unfold FB
 rw[List.map_map]
 exact List.map_id _
theorem La {σ:List Obj} {c o:Nat} {x ob:Obj} (h:nth σ o=some x):nth (push ⟨σ,c⟩ ob).σ o=some x:=Si (BZ h)▸h
theorem UR {σ:List Obj} {c:Nat} {ob:Obj}:nth (push ⟨σ,c⟩ ob).σ σ.length=some ob:=UU
theorem Sj {σ:List Obj} {c:Nat} {ob:Obj}:Gq σ (push ⟨σ,c⟩ ob).σ []:=⟨by simp[push],fun o ho _=>Si ho⟩
structure Bst (g:GG) (N:Nat) (σ:List Obj) (M:List (Int×Int)) (cm:Bool) (hI:AV) (nx:List AV) (cl:Bool):Prop where
 z:nth σ 0=some (.arr 0 4 true true [g.av])
 r:nth σ 1=some (.arr 1 2 true true [.agg [.sl false [],.sl false []]])
 m:nth σ 2=some (.mp 2 cm (Ot M))
 x:nth σ 3=some (.arr 3 1 true cl nx)
 b:nth σ 4=some (.arr 4 2 true false [.agg [hI,.own 3 3 0 N]])
theorem Bst.keep {g:GG} {N:Nat} {σ σ':List Obj} {M:List (Int×Int)} {cm:Bool} {hI:AV} {nx:List AV} {cl:Bool} {F:List Nat} (h:Bst g N σ M cm hI nx cl) (f:Gq σ σ' F) (hF:∀o∈F,4<o):Bst g N σ' M cm hI nx cl:=
 ⟨f.get h.z fun hm=>by have:=hF _ hm;omega,f.get h.r fun hm=>by have:=hF _ hm;omega,f.get h.m fun hm=>by have:=hF _ hm;omega,f.get h.x fun hm=>by have:=hF _ hm;omega,f.get h.b fun hm=>by have:=hF _ hm;omega⟩
theorem Bst.len {g:GG} {N:Nat} {σ:List Obj} {M:List (Int×Int)} {cm:Bool} {hI:AV} {nx:List AV} {cl:Bool} (h:Bst g N σ M cm hI nx cl):4<σ.length:=BZ h.b
theorem Bst.AgA {g:GG} {N:Nat} {σ σ':List Obj} {M M':List (Int×Int)} {cm cm':Bool} {hI:AV} {nx:List AV} {cl:Bool} (h:Bst g N σ M cm hI nx cl) (f:Gq σ σ' [2]) (hm:nth σ' 2=some (.mp 2 cm' (Ot M'))):Bst g N σ' M' cm' hI nx cl:=
 ⟨f.get h.z (by simp),f.get h.r (by simp),hm,f.get h.x (by simp),f.get h.b (by simp)⟩
theorem Bst.AgB {g:GG} {N:Nat} {σ σ':List Obj} {M:List (Int×Int)} {cm:Bool} {hI hI':AV} {nx:List AV} {cl:Bool} (h:Bst g N σ M cm hI nx cl) (f:Gq σ σ' [4]) (hb:nth σ' 4=some (.arr 4 2 true false [.agg [hI',.own 3 3 0 N]])):Bst g N σ' M cm hI' nx cl:=
 ⟨f.get h.z (by simp),f.get h.r (by simp),f.get h.m (by simp),f.get h.x (by simp),hb⟩
theorem Bst.Aae {g:GG} {N:Nat} {σ σ':List Obj} {M:List (Int×Int)} {cm:Bool} {hI:AV} {nx nx':List AV} {cl cl':Bool} (h:Bst g N σ M cm hI nx cl) (f:Gq σ σ' [3]) (hb:nth σ' 3=some (.arr 3 1 true cl' nx')):Bst g N σ' M cm hI nx' cl':=
 ⟨f.get h.z (by simp),f.get h.r (by simp),f.get h.m (by simp),hb,f.get h.b (by simp)⟩
def HdI (σ:List Obj) (hI:AV) (L:List Int) (oi:Nat):Prop:=(L=[]∧hI=.sl false []∧oi=0)∨∃gi,hI=.own oi gi 0 L.length∧nth σ oi=some (.arr gi 1 true true (ints L))∧4<oi∧L≠[]
theorem HdI.keep {σ σ':List Obj} {hI:AV} {L:List Int} {oi:Nat} {F:List Nat} (h:HdI σ hI L oi) (f:Gq σ σ' F) (hF:∀o∈F,o≤4∨σ.length≤o∨o≠oi):HdI σ' hI L oi:=by
 rcases h with h|⟨gi,h1,h2,h3,h4⟩
 ·exact .inl h
 ·exact .inr ⟨gi,h1,f.get h2 (fun hm=>by
   have:=hF _ hm
   have:=BZ h2
   omega),h3,h4⟩
theorem HdI.read {σ:List Obj} {hI:AV} {L:List Int} {oi:Nat} (h:HdI σ hI L oi):Rd σ 5 hI (.sl (decide (0<L.length)) (ints L)):=fun m hm=>by
 obtain⟨m,rfl⟩:∃m',m=m'+1:=⟨m-1,by omega⟩
 rcases h with⟨rfl,rfl,_⟩|⟨gi,rfl,h2,_,h4⟩
 ·rfl
 ·simp only[snap,h2]
  rw[if_pos (by first|exact⟨rfl,by rw[lI];omega⟩|exact⟨trivial,by rw[lI];omega⟩)]
  simp only[if_true]
  rw[uI,decide_eq_true (List.length_pos_iff.2 h4)]
theorem Xu {base o g off len c:Nat} {σ:List Obj} (h:o<base):compact base (.own o g off len) ⟨σ,c⟩=some (.own o g off len,⟨σ.take base,c⟩):=by simp[compact,h]
set_option maxHeartbeats 8000000 in
theorem AcS {g:GG} (hg:g.ok) (hN:g.nodes.length≤100) (hE:g.edges.length≤1000) (hck:Bd g=0) {types:List (List UInt8)} {tn:Bool} (ht:types.length<2^63):Ah (Ac tab) 28 [g.av,.sl tn (vs .str types)] (· =Abz (Ba g) (DI types g) g.nodes.length):=by
 have hln:=hg.1
 have hle:=hg.2.2.2.1
 unfold Ln at hln hle
 have hnd:=VW hck
 have AcT:=Lc hck
 refine AcQ rfl rfl ?_
 (conv=>whnf);repeat' (first  |(refine kA ?_;conv=>whnf)|(refine Br.mk (fun hc=>?_) fun hc=>?_<;>first|exact hc.elim|conv=>whnf)|(refine kB ?_))
 refine Ai (fun m env s=>∃(i c:Nat) (cm:Bool) (σ:List Obj) (hI:AV) (oi:Nat),m=g.nodes.length-i∧i≤g.nodes.length∧Bst g g.nodes.length σ (FB ((Ba g).take i) fun x=>(JA g x:Int)) cm hI (List.replicate g.nodes.length (.sl false [])) true∧HdI σ hI ((Ba g).take i) oi∧env=[(1,.sl tn (vs .str types)),(2,.ref 0 0 0 0),(4,.ref 1 1 0 0),(5,.map 2 2),(6,.ref 4 4 0 0),(20,.sl g.nn (vs GN.av g.nodes)),(21,.int .i64 g.nodes.length),(22,.int .i64 i)]∧s=⟨σ,c⟩) ?_ _ _ _ ⟨0,_,_,_,_,0,rfl,by omega,⟨rfl,rfl,rfl,rfl,rfl⟩,.inl ⟨rfl,rfl,rfl⟩,rfl,rfl⟩
 rintro _ _ _ ⟨i,c,cm,σ,hI,oi,rfl,hi,hS,hH,rfl,rfl⟩
 refine⟨rfl,?_⟩
 have hls:=hS.len
 by_cases hlt:i<g.nodes.length
 ·have Sl:(Ba g).take (i+1)=(Ba g).take i++[(g.nodes[i]).id]:=by
   rw[List.take_succ_eq_append_getElem (by rw[CV];exact hlt),Gg hlt]
  have hil:((Ba g).take i).length=i:=by rw[List.length_take,CV];omega
  have hni:(g.nodes[i]).id∉(Ba g).take i:=by
   intro hm
   have h:=hnd
   rw[← List.take_append_drop (i+1) (Ba g),Sl,List.append_assoc,List.nodup_append]at h
   exact h.2.2 _ hm _ (by simp) rfl
  have hpos:((JA g (g.nodes[i]).id:Nat):Int)=(i:Nat):=by rw[← Js hlt,VX hck hlt]
  have hM:EI (FB ((Ba g).take i) fun x=>(JA g x:Int)) (g.nodes[i]).id (i:Nat)=FB ((Ba g).take (i+1)) fun x=>(JA g x:Int):=by
   rw[UW (by rw[Xt];exact hni),Sl]
   unfold FB
   rw[List.map_append,←hpos];rfl
  rcases hH with⟨hnil,rfl,rfl⟩|⟨gi,rfl,hd,hoi,hne⟩
  ·(conv=>whnf);repeat' (first|(refine Nc fun σ1 f1 k1 l1=>?_;have S1:=hS.keep f1 (by simp);conv=>whnf)|(rw [k1];conv=>whnf)|(refine IB k1 fun σ2 f2 k2 l2=>?_;have S2:=S1.keep f2 (by simp;omega);conv=>whnf)|(rw [k2];conv=>whnf)|(rw [S2.m];conv=>whnf)|(refine msI ?_;rw[hM];conv=>whnf)|(refine IB S2.m fun σ3 f3 k3 l3=>?_;have S3:=S2.AgA f3 k3;have k23:=f3.get k2 (by simp;omega);conv=>whnf)|(rw [S3.b];conv=>whnf)|(rw [k23];conv=>whnf)|(rw [La S3.b];conv=>whnf)|(refine IB (La S3.b) fun σ5 f5 k5 l5=>?_;have S5:=(S3.keep Sj (by simp)).AgB f5 k5;have d5:=f5.get UR (by simp;have:=S3.len;omega);conv=>whnf)|(refine kA ?_;conv=>whnf)|(refine Br.mk (fun hc=>?_) fun hc=>?_<;>first|exact hc.elim|conv=>whnf)|(refine kB ?_))
   all_goals first
        |(exfalso;omega)
        |(refine again.mk ⟨_,by omega,i+1,_,_,σ5,_,σ3.length,rfl,by omega,S5,?_,rfl,rfl⟩
          rw[Sl,hnil]
          exact .inr ⟨_,rfl,d5,S3.len,by simp⟩)
  ·have An1:=BZ hd
   (conv=>whnf);repeat' (first|(refine Nc fun σ1 f1 k1 l1=>?_;have S1:=hS.keep f1 (by simp);have d1:=f1.get hd (by simp);conv=>whnf)|(rw [k1];conv=>whnf)|(refine IB k1 fun σ2 f2 k2 l2=>?_;have S2:=S1.keep f2 (by simp;omega);have d2:=f2.get d1 (by simp;omega);conv=>whnf)|(rw [k2];conv=>whnf)|(rw [S2.m];conv=>whnf)|(refine msI ?_;rw[hM];conv=>whnf)|(refine IB S2.m fun σ3 f3 k3 l3=>?_;have S3:=S2.AgA f3 k3;have k23:=f3.get k2 (by simp;omega);have d3:=f3.get d2 (by simp;omega);conv=>whnf)|(rw [S3.b];conv=>whnf)|(rw [k23];conv=>whnf)|(rw [d3];conv=>whnf)|(refine Sm (f:=AV.int .i64) (l:=(Ba g).take i) (x:=(g.nodes[i]).id) (fun _=>rfl) rfl (by omega) ?_;rw[← Sl];conv=>whnf)|(refine IB d3 fun σ4 f4 k4 l4=>?_;have S4:=S3.keep f4 (by simp;omega);conv=>whnf)|(rw [S4.b];conv=>whnf)|(refine IB S4.b fun σ5 f5 k5 l5=>?_;have S5:=S4.AgB f5 k5;have d5:=f5.get k4 (by simp;omega);conv=>whnf)|(refine kA ?_;conv=>whnf)|(refine Br.mk (fun hc=>?_) fun hc=>?_<;>first|exact hc.elim|conv=>whnf)|(refine kB ?_))
   all_goals first
        |(exfalso;omega)
        |(refine again.mk ⟨_,by omega,i+1,_,_,σ5,_,oi,rfl,by omega,S5,.inr ⟨_,?_,d5,hoi,by rw[Sl];simp⟩,rfl,rfl⟩
          rw[Sl,List.length_append]
          rfl)
 ·obtain rfl:i=g.nodes.length:=by omega
  have VY:(Ba g).take g.nodes.length=Ba g:=List.take_of_length_le (by rw[CV];omega)
  rw[VY]at hS hH
  clear hi hlt
  (conv=>whnf);repeat' (first|(rw [hS.z];conv=>whnf)|(refine kA ?_;conv=>whnf)|(refine Br.mk (fun hc=>?_) fun hc=>?_<;>first|exact hc.elim|conv=>whnf)|(refine kB ?_))
  all_goals first|(exfalso;omega)|skip
  have AbA:oi<σ.length:=by
   rcases hH with⟨_,_,rfl⟩|⟨gi,_,hd,_,_⟩
   ·omega
   ·exact BZ hd
  have hR0:NH σ (List.replicate g.nodes.length (.sl false [])) (KO types g (g.edges.take 0)) g.nodes.length oi 0:=by
   have hn:∀u,u<g.nodes.length→nth (List.replicate g.nodes.length (AV.sl false [])) u=some (.sl false []):=fun u hu=>by
        rw[Ar,List.getElem?_eq_getElem (by simpa using hu),List.getElem_replicate]
   exact⟨by simp,fun u hu=>.inl ⟨rfl,hn u hu⟩,fun u v o g1 l g' l' hu hv e=>by rw[hn u hu]at e;cases e⟩
  refine Ai (fun m env s=>∃(k c:Nat) (σ:List Obj) (nx:List AV) (cl:Bool),m=g.edges.length-k∧k≤g.edges.length∧oi<σ.length∧Bst g g.nodes.length σ (FB (Ba g) fun x=>(JA g x:Int)) cm hI nx cl∧HdI σ hI (Ba g) oi∧NH σ nx (KO types g (g.edges.take k)) g.nodes.length oi 0∧(cl=true→∀u,u<g.nodes.length→KO types g (g.edges.take k) u=[])∧env=[(1,.sl tn (vs .str types)),(4,.ref 1 1 0 0),(5,.map 2 2),(6,.ref 4 4 0 0),(40,.sl g.en (vs GE.av g.edges)),(41,.int .i64 g.edges.length),(42,.int .i64 k)]∧s=⟨σ,c⟩) ?_ _ _ _ ⟨0,_,_,_,true,rfl,by omega,AbA,hS,hH,hR0,fun _ u _=>rfl,rfl,rfl⟩
  clear hR0 hS hH AbA hls
  rintro _ _ _ ⟨k,c,σ,nx,cl,rfl,hk,AbA,hS,hH,hR,hcl,rfl,rfl⟩
  refine⟨rfl,?_⟩
  have hls:=hS.len
  by_cases hlt:k<g.edges.length
  ·have htk:g.edges.take (k+1)=g.edges.take k++[g.edges[k]]:=List.take_succ_eq_append_getElem hlt
   have hT:=Sr (nn:=tn) (e:=g.edges[k]) ht
   obtain⟨he1,he2⟩:=AcT _ (List.getElem_mem hlt)
   by_cases hh:HT types g.edges[k]
   case neg=>
        rw[decide_eq_false hh]at hT
        have hRs:∀u,KO types g (g.edges.take (k+1)) u=KO types g (g.edges.take k) u:=fun u=>by
         rw[htk,Sv,if_neg (fun h=>hh h.1),List.append_nil]
        have hRf:KO types g (g.edges.take (k+1))=KO types g (g.edges.take k):=funext hRs
        (conv=>whnf);repeat' (first|(refine Nc fun σ1 f1 k1 l1=>?_;have S1:=hS.keep f1 (by simp);conv=>whnf)|(rw [k1];conv=>whnf)|(refine IB k1 fun σ2 f2 k2 l2=>?_;have S2:=S1.keep f2 (by simp;omega);conv=>whnf)|(rw [k2];conv=>whnf)|(refine Aa hT ?_;rintro _ rfl;conv=>whnf)|(refine kA ?_;conv=>whnf)|(refine Br.mk (fun hc=>?_) fun hc=>?_<;>first|exact hc.elim|conv=>whnf)|(refine kB ?_))
        all_goals first
         |(exfalso;omega)
         |(replace f1:Gq σ σ1 []:=f1
           replace f2:Gq σ1 σ2 [σ.length]:=f2
           replace l1:σ1.length=σ.length+1:=l1
           replace l2:σ2.length=σ1.length:=l2
           have FT:Gq σ σ2 []:=(f1.trans f2).mono (by
            intro o ho
            simp only[List.nil_append,List.mem_cons,List.mem_nil_iff,or_false]at ho ⊢
            omega)
           exact again.mk ⟨_,by omega,k+1,_,σ2,nx,cl,rfl,by omega,by omega,S2,hH.keep FT (by simp),by rw[hRf];exact hR.keep FT (by simp),by rw[hRf];exact hcl,rfl,rfl⟩)
   rw[decide_eq_true hh]at hT
   have hu:=KW he1
   have hv:=KW he2
   have gf:Dz (FB (Ba g) fun x=>(JA g x:Int)) (g.edges[k]).fr=some ((JA g (g.edges[k]).fr:Nat):Int):=Ld _ he1
   have gt:Dz (FB (Ba g) fun x=>(JA g x:Int)) (g.edges[k]).to=some ((JA g (g.edges[k]).to:Nat):Int):=Ld _ he2
   have hRu:KO types g (g.edges.take (k+1)) (JA g (g.edges[k]).fr)=KO types g (g.edges.take k) (JA g (g.edges[k]).fr)++[((JA g (g.edges[k]).to:Nat):Int)]:=by
        rw[htk,Sv,if_pos ⟨hh,rfl⟩]
   have hRo:∀w,w≠JA g (g.edges[k]).fr→KO types g (g.edges.take (k+1)) w=KO types g (g.edges.take k) w:=fun w hw=>by
        rw[htk,Sv,if_neg (fun h=>hw h.2.symm),List.append_nil]
   have hrl:(KO types g (g.edges.take k) (JA g (g.edges[k]).fr)).length≤1000:=by
        have:=Aaf (types:=types) (g:=g) (es:=g.edges.take k) (u:=JA g (g.edges[k]).fr)
        rw[List.length_take]at this
        omega
   have hxl:=hR.len
   generalize JA g (g.edges[k]).fr=u at*
   generalize JA g (g.edges[k]).to=v at*
   rcases hR.row u hu with⟨r1,r2⟩|⟨r1,o,go,T,r2,r3,r4,r5,r6⟩
   ·have r2':nth nx (Int.toNat (Nat.cast u))=some (.sl false []):=r2
    (conv=>whnf);repeat' (first|(refine Nc fun σ1 f1 k1 l1=>?_;have S1:=hS.keep f1 (by simp);conv=>whnf)|(rw [k1];conv=>whnf)|(refine IB k1 fun σ2 f2 k2 l2=>?_;have S2:=S1.keep f2 (by simp;omega);conv=>whnf)|(rw [k2];conv=>whnf)|(refine Aa hT ?_;rintro _ rfl;conv=>whnf)|(rw [S2.m];conv=>whnf)|(rw [S2.b];conv=>whnf)|(rw [S2.x];conv=>whnf)|(refine fkU gf (fun _=>?_);conv=>whnf)|(refine fkU gt (fun _=>?_);conv=>whnf)|(refine Au r2' ?_;conv=>whnf)|(refine Ak JC ?_;conv=>whnf)|(rw [La S2.b];conv=>whnf)|(rw [La S2.x];conv=>whnf)|(refine IB (La S2.x) fun σ5 f5 k5 l5=>?_;have S5:=(S2.keep Sj (by simp)).Aae f5 k5;have d5:=f5.get UR (by simp;have:=S2.len;omega);conv=>whnf)|(rw [S5.b];conv=>whnf)|(refine kA ?_;conv=>whnf)|(refine Br.mk (fun hc=>?_) fun hc=>?_<;>first|exact hc.elim|conv=>whnf)|(refine kB ?_))
    all_goals first
     |(exfalso;omega)
     |(replace f1:Gq σ σ1 []:=f1
       replace f2:Gq σ1 σ2 [σ.length]:=f2
       replace l1:σ1.length=σ.length+1:=l1
       replace l2:σ2.length=σ1.length:=l2
       have FT:Gq σ σ5 [3]:=(((f1.trans f2).trans Sj).trans f5).mono (by
           intro o ho
           simp only[List.nil_append,List.append_nil,List.mem_append,List.mem_cons,List.mem_nil_iff,or_false]at ho ⊢
           omega)
       have hlen5:=FT.len
       have hR':=hR.upd (R':=KO types g (g.edges.take (k+1))) (q':=0) hu FT (Nat.le_refl 0) (by intro o ho;have:=List.mem_singleton.1 ho;exact .inl (by omega)) (o:=σ2.length) (S:=[(v:Int)]) (T:=[]) (by simp) d5 (by omega) (by omega) (fun _=>rfl) (.inl (by omega)) (by rw[hRu,r1];rfl) hRo
       refine again.mk ⟨_,by omega,k+1,_,σ5,_,_,rfl,by omega,by omega,S5,hH.keep FT (by intro o ho;have:=List.mem_singleton.1 ho;exact .inl (by omega)),hR',?_,rfl,rfl⟩
       intro hc
       simp at hc)
   ·obtain rfl:=r6 (by omega)
    rw[List.append_nil]at r3
    have r2':nth nx (Int.toNat (Nat.cast u))=some (.own o go 0 (KO types g (g.edges.take k) u).length):=r2
    have hol:=BZ r3
    (conv=>whnf);repeat' (first|(refine Nc fun σ1 f1 k1 l1=>?_;have S1:=hS.keep f1 (by simp);have o1:=f1.get r3 (by simp);conv=>whnf)|(rw [k1];conv=>whnf)|(refine IB k1 fun σ2 f2 k2 l2=>?_;have S2:=S1.keep f2 (by simp;omega);have o2:=f2.get o1 (by simp;omega);conv=>whnf)|(rw [k2];conv=>whnf)|(refine Aa hT ?_;rintro _ rfl;conv=>whnf)|(rw [S2.m];conv=>whnf)|(rw [S2.b];conv=>whnf)|(rw [S2.x];conv=>whnf)|(refine fkU gf (fun _=>?_);conv=>whnf)|(refine fkU gt (fun _=>?_);conv=>whnf)|(refine Au r2' ?_;conv=>whnf)|(rw [o2];conv=>whnf)|(refine Ak JC ?_;conv=>whnf)|(refine Sm (f:=AV.int .i64) (l:=KO types g (g.edges.take k) u) (x:=(v:Int)) (fun _=>rfl) rfl (by omega) ?_;conv=>whnf)|(refine IB o2 fun σ3 f3 k3 l3=>?_;have S3:=S2.keep f3 (by simp;omega);conv=>whnf)|(rw [S3.b];conv=>whnf)|(rw [S3.x];conv=>whnf)|(refine IB S3.x fun σ5 f5 k5 l5=>?_;have S5:=S3.Aae f5 k5;have d5:=f5.get k3 (by simp;omega);conv=>whnf)|(rw [S5.b];conv=>whnf)|(refine kA ?_;conv=>whnf)|(refine Br.mk (fun hc=>?_) fun hc=>?_<;>first|exact hc.elim|conv=>whnf)|(refine kB ?_))
    all_goals first
     |(exfalso;omega)
     |(replace f1:Gq σ σ1 []:=f1
       replace f2:Gq σ1 σ2 [σ.length]:=f2
       replace f3:Gq σ2 σ3 [o]:=f3
       replace l1:σ1.length=σ.length+1:=l1
       replace l2:σ2.length=σ1.length:=l2
       have FT:Gq σ σ5 [o,3]:=(((f1.trans f2).trans f3).trans f5).mono (by
           intro o ho
           simp only[List.nil_append,List.mem_append,List.mem_cons,List.mem_nil_iff,or_false]at ho ⊢
           omega)
       have hlen5:=FT.len
       have hR':=hR.upd (R':=KO types g (g.edges.take (k+1))) (q':=0) hu FT (Nat.le_refl 0) (by
           intro p hp
           rcases List.mem_cons.1 hp with rfl|hp
           ·exact .inr (.inr (.inr ⟨_,_,r2⟩))
           ·have:=List.mem_singleton.1 hp;exact .inl (by omega)) (o:=o) (S:=KO types g (g.edges.take k) u++[(v:Int)]) (T:=[]) (by simp) (by rw[List.append_nil];exact d5) r4 r5 (fun _=>rfl) (.inr ⟨_,_,r2⟩) hRu hRo
       rw[List.length_append]at hR'
       refine again.mk ⟨_,by omega,k+1,_,σ5,_,_,rfl,by omega,by omega,S5,hH.keep FT (by
           intro p hp
           rcases List.mem_cons.1 hp with rfl|hp
           ·exact .inr (.inr r5)
           ·have:=List.mem_singleton.1 hp;exact .inl (by omega)),hR',?_,rfl,rfl⟩
       intro hc
       simp at hc)
  ·obtain rfl:k=g.edges.length:=by omega
   rw[List.take_of_length_le (Nat.le_refl _)]at hR hcl
   (conv=>whnf);repeat' (first|(rw [hS.b];conv=>whnf)|(refine kA ?_;conv=>whnf)|(refine Br.mk (fun hc=>?_) fun hc=>?_<;>first|exact hc.elim|conv=>whnf)|(refine kB ?_))
   all_goals first|(exfalso;omega)|skip
   have hR2:NH σ nx (fun u=>if u<0 then Hz (MS (DI types g) g.nodes.length u)else KO types g g.edges u) g.nodes.length oi 0:=by simpa using hR
   refine Ai (fun m env s=>∃(k c:Nat) (σ:List Obj) (nx:List AV) (cl:Bool),m=g.nodes.length-k∧k≤g.nodes.length∧oi<σ.length∧Bst g g.nodes.length σ (FB (Ba g) fun x=>(JA g x:Int)) cm hI nx cl∧HdI σ hI (Ba g) oi∧NH σ nx (fun u=>if u<k then Hz (MS (DI types g) g.nodes.length u)else KO types g g.edges u) g.nodes.length oi k∧(cl=true→∀u,u<g.nodes.length→KO types g g.edges u=[])∧env=[(4,.ref 1 1 0 0),(6,.ref 4 4 0 0),(71,.int .i64 g.nodes.length),(72,.int .i64 k)]∧s=⟨σ,c⟩) ?_ _ _ _ ⟨0,_,_,_,_,rfl,by omega,AbA,hS,hH,hR2,hcl,rfl,rfl⟩
   clear hR2 hS hH hR hcl AbA hls hk hlt
   rintro _ _ _ ⟨k,c,σ,nx,cl,rfl,hk,AbA,hS,hH,hR,hcl,rfl,rfl⟩
   refine⟨rfl,?_⟩
   have hls:=hS.len
   by_cases hlt:k<g.nodes.length
   ·have hrl:(KO types g g.edges k).length≤1000:=by
     have:=Aaf (types:=types) (g:=g) (es:=g.edges) (u:=k)
     omega
    have hxl:=hR.len
    have hdone:=row_done (types:=types) hck hlt rfl
    rcases hR.row k hlt with⟨r1,r2⟩|⟨r1,o,go,T,r2,r3,r4,r5,r6⟩
    ·rw[if_neg (by omega)]at r1
     have r2':nth nx (Int.toNat (Nat.cast k))=some (.sl false []):=r2
     (conv=>whnf);repeat' (first|(rw [hS.b];conv=>whnf)|(rw [hS.x];conv=>whnf)|(refine Au r2' ?_;conv=>whnf)|(refine Alj.mono ?_;rintro _ _ ⟨rfl,rfl⟩;conv=>whnf)|(rw [AcR];conv=>whnf)|(refine Alm.mono ?_;rintro _ _ ⟨rfl,rfl⟩;conv=>whnf)|(refine Ak JC ?_;conv=>whnf)|(refine IB hS.x fun σ5 f5 k5 l5=>?_;have S5:=hS.Aae f5 k5;conv=>whnf)|(rw [S5.b];conv=>whnf)|(refine kA ?_;conv=>whnf)|(refine Br.mk (fun hc=>?_) fun hc=>?_<;>first|exact hc.elim|conv=>whnf)|(refine kB ?_))
     all_goals first
      |(exfalso;omega)
      |(replace f5:Gq σ σ5 [3]:=f5
        replace l5:σ5.length=σ.length:=l5
        have hset:nx.set k (.sl false [])=nx:=by
            rw[Ar]at r2
            obtain⟨q1,q2⟩:=List.getElem?_eq_some_iff.1 r2
            rw[← q2];exact List.set_getElem_self q1
        have hcs:Hz (MS (DI types g) g.nodes.length k)=[]:=by rw[← hdone,r1];rfl
        have hRe:(fun u=>if u<k+1 then Hz (MS (DI types g) g.nodes.length u)else KO types g g.edges u)=fun u=>if u<k then Hz (MS (DI types g) g.nodes.length u)else KO types g g.edges u:=by
            funext u
            by_cases e:u=k
            ·subst e;rw[if_pos (by omega),if_neg (by omega),hcs,r1]
            ·by_cases e2:u<k
             ·rw[if_pos (by omega),if_pos e2]
             ·rw[if_neg (by omega),if_neg e2]
        have hR3:=(hR.keep f5 (by intro o ho;have:=List.mem_singleton.1 ho;exact .inl (by omega))).more (q':=k+1) (by omega)
        rw[← hRe,←hset]at hR3
        exact again.mk ⟨_,by omega,k+1,_,σ5,_,_,rfl,by omega,by omega,S5,hH.keep f5 (by intro o ho;have:=List.mem_singleton.1 ho;exact .inl (by omega)),hR3,hcl,rfl,rfl⟩)
    ·obtain rfl:=r6 (by omega)
     rw[if_neg (by omega)]at r1 r2 r3
     rw[List.append_nil]at r3
     have hol:=BZ r3
     have r2':nth nx (Int.toNat (Nat.cast k))=some (.own o go 0 (KO types g g.edges k).length):=r2
     (conv=>whnf);repeat' (first|(rw [hS.b];conv=>whnf)|(rw [hS.x];conv=>whnf)|(refine Au r2' ?_;conv=>whnf)|(refine (Ali r3 rfl (by omega)).mono ?_;rintro _ _ ⟨σ1,rfl,rfl,f1,q1,l1⟩;have S1:=hS.keep f1 (by simp;omega);conv=>whnf)|(rw [show List.take σ.length σ1=σ1 from List.take_of_length_le (by omega)];conv=>whnf)|(rw [S1.b];conv=>whnf)|(rw [S1.x];conv=>whnf)|(refine (Alk q1 (by rw[Sz]) (by omega)).mono ?_;rintro _ _ ⟨σ2,c2,T2,rfl,rfl,f2,q2,l2⟩;have S2:=S1.keep f2 (by simp;omega);conv=>whnf)|(rw [show List.take σ1.length σ2=σ2 from List.take_of_length_le (by omega)];conv=>whnf)|(refine Ak JC ?_;conv=>whnf)|(refine Df (Xu (show o<σ1.length by omega)) ?_;conv=>whnf)|(rw [S2.b];conv=>whnf)|(rw [S2.x];conv=>whnf)|(refine IB S2.x fun σ5 f5 k5 l5=>?_;have S5:=S2.Aae f5 k5;have d5:=f5.get q2 (by simp;omega);conv=>whnf)|(rw [S5.b];conv=>whnf)|(refine kA ?_;conv=>whnf)|(refine Br.mk (fun hc=>?_) fun hc=>?_<;>first|exact hc.elim|conv=>whnf)|(refine kB ?_))
     all_goals first
      |(exfalso;omega)
      |(replace f5:Gq σ2 σ5 [3]:=f5
        replace l5:σ5.length=σ2.length:=l5
        have FT:Gq σ σ5 [o,3]:=((f1.trans f2).trans f5).mono (by
            intro p hp
            simp only[List.mem_append,List.mem_cons,List.mem_nil_iff,or_false]at hp ⊢
            omega)
        have hd2:PI (Gf (KO types g g.edges k)).toArray (KO types g g.edges k).length=Hz (MS (DI types g) g.nodes.length k):=by
            rw[← hdone,Sz]
        have Alz:Hz (MS (DI types g) g.nodes.length k)≠[]:=fun h0=>by
            obtain⟨x,hx⟩:=List.exists_mem_of_ne_nil _ r1
            obtain⟨v,rfl,hv⟩:=AcU hck hx
            have hm:v∈MS (DI types g) g.nodes.length k:=H8.2 ⟨hv,(VZ hck hlt hv).1 hx⟩
            have:MS (DI types g) g.nodes.length k=[]:=by simpa[Hz]using h0
            rw[this]at hm;cases hm
        rw[hd2]at d5
        have hR3:=hR.upd (R':=fun u=>if u<k+1 then Hz (MS (DI types g) g.nodes.length u)else KO types g g.edges u) (q':=k+1) hlt FT (by omega) (by
            intro p hp
            rcases List.mem_cons.1 hp with rfl|hp
            ·exact .inr (.inr (.inr ⟨_,_,r2⟩))
            ·have:=List.mem_singleton.1 hp;exact .inl (by omega)) (o:=o) Alz d5 r4 r5 (fun h=>by omega) (.inr ⟨_,_,r2⟩) (if_pos (by omega)) (fun u hu=>by
             by_cases e2:u<k
             ·show(if u<k+1 then _ else _)=if u<k then _ else _
              rw[if_pos (by omega),if_pos e2]
             ·show(if u<k+1 then _ else _)=if u<k then _ else _
              rw[if_neg (by omega),if_neg e2])
        rw[← hd2]at hR3
        refine again.mk ⟨_,by omega,k+1,_,σ5,_,_,rfl,by omega,by omega,S5,hH.keep FT (by
            intro p hp
            rcases List.mem_cons.1 hp with rfl|hp
            ·exact .inr (.inr r5)
            ·have:=List.mem_singleton.1 hp;exact .inl (by omega)),hR3,?_,rfl,rfl⟩
        intro hc
        simp at hc)
   ·obtain rfl:k=g.nodes.length:=by omega
    (conv=>whnf);repeat' (first|(rw [hS.b];conv=>whnf)|(rw [hS.r];conv=>whnf)|(refine IB hS.r fun σ1 f1 k1 l1=>?_;conv=>whnf)|(rw [k1];conv=>whnf)|(refine kA ?_;conv=>whnf)|(refine Br.mk (fun hc=>?_) fun hc=>?_<;>first|exact hc.elim|conv=>whnf)|(refine kB ?_))
    all_goals first|(exfalso;omega)|skip
    all_goals (
     refine Df ((V3 (sz:=some 2) k1).trans rfl) ?_
     replace f1:Gq σ σ1 [1]:=f1
     have x1:=f1.get hS.x (by simp)
     have hH1:=hH.keep f1 (by intro o ho;have:=List.mem_singleton.1 ho;exact .inl (by omega))
     have hR1:=hR.keep f1 (by intro o ho;have:=List.mem_singleton.1 ho;exact .inl (by omega))
     have a1:=hH1.read
     rw[CV]at a1
     have a2:=hR1.read (rows:=(List.range g.nodes.length).map (MS (DI types g) g.nodes.length)) (by simp) (fun u hu=>by
      have:u<g.nodes.length:=by simpa using hu
      rw[if_pos this];simp) x1 (fun hc u hu=>by
       rw[if_pos hu]
       have h0:=hcl hc u hu
       have hd:=row_done (types:=types) hck hu rfl
       rw[← hd,h0];rfl)
     refine⟨_,_,rfl,?_,rfl⟩
     exact Rd.agg (Oc.cons (a1.mono (D':=g.nodes.length+20) (by omega)) (Oc.cons (a2.mono (D':=g.nodes.length+19) (by omega)) (Oc.nil.mono (by omega)))) EY (by unfold EY;omega))
def VF (n d:Int):Prop:=1≤d∧d≤1000000000000000∧KL n∧Nat.gcd n.natAbs d.natAbs=1
instance (n d:Int):Decidable (VF n d):=by unfold VF;infer_instance
def VB (g:GV):Prop:=g.l.length=0∧(g.k=0∧g.n=0∧g.d=0∧g.s=[]∨g.k=1∧(g.n=0∨g.n=1)∧g.d=0∧g.s=[]∨g.k=2∧KL g.n∧g.d=0∧g.s=[]∨
 g.k=3∧2≤g.d∧VF g.n g.d∧g.s=[]∨g.k=4∧g.n=0∧g.d=0∧okS g.s∨(g.k=5∨g.k=6)∧1≤g.n∧g.n≤1000000∧g.d=0∧g.s=[])
instance (g:GV):Decidable (VB g):=by unfold VB;infer_instance
def VPa (l:List AV):Prop:=l.length % 2=1∧l.length≤25∧∀i (h:i<l.length),∃x:GV,l[i]=x.av∧x.k=5+i % 2∧VB x
def VV:Nat→GV→Prop
 |0,g=>VB g∨g.k=7∧g.n=0∧g.d=0∧g.s=[]∧VPa g.l
 |m+1,g=>VB g∨g.k=7∧g.n=0∧g.d=0∧g.s=[]∧VPa g.l∨g.k=8∧g.n=0∧g.d=0∧g.s=[]∧g.l.length≤64∧∀i (h:i<g.l.length),∃x:GV,g.l[i]=x.av∧VV m x
abbrev F9:Nat:=1000000000000000
def Uw (x:Nat×Nat):Prop:=1≤x.2∧x.2≤F9∧x.1≤F9∧Nat.gcd x.1 x.2=1
def KN (a b:Nat):Nat×Nat:=(a / Nat.gcd a b,b / Nat.gcd a b)
def VK (x y:Nat×Nat):Nat:=x.1*(y.2 / Nat.gcd x.2 y.2)+y.1*(x.2 / Nat.gcd x.2 y.2)
def Xl (x y:Nat×Nat):Nat:=Nat.gcd (VK x y) (Nat.gcd x.2 y.2)
def addN (x y:Nat×Nat):Option (Nat×Nat):=
 if VK x y=0 then some (0,1)
 else if VK x y / Xl x y≤F9∧x.2 / Nat.gcd x.2 y.2*(y.2 / Xl x y)≤F9 then some (VK x y / Xl x y,x.2 / Nat.gcd x.2 y.2*(y.2 / Xl x y))else none
theorem YP {m n:Nat} (h:0<Nat.gcd m n):Nat.gcd (m / Nat.gcd m n) (n / Nat.gcd m n)=1:=by
 rw[Nat.gcd_div (Nat.gcd_dvd_left m n) (Nat.gcd_dvd_right m n),Nat.div_self h]
theorem UM {a b:Nat} (hb:0<b):(KN a b).1*b=(KN a b).2*a∧0<(KN a b).2∧Nat.gcd (KN a b).1 (KN a b).2=1∧(KN a b).1≤a∧(KN a b).2≤b:=by
 have hg:0<Nat.gcd a b:=Nat.gcd_pos_of_pos_right a hb
 obtain⟨x,hx⟩:=Nat.gcd_dvd_left a b
 obtain⟨y,hy⟩:=Nat.gcd_dvd_right a b
 have e1:a / Nat.gcd a b=x:=Nat.div_eq_of_eq_mul_right hg hx
 have e2:b / Nat.gcd a b=y:=Nat.div_eq_of_eq_mul_right hg hy
 refine⟨?_,?_,YP hg,Nat.div_le_self _ _,Nat.div_le_self _ _⟩
 ·show a / Nat.gcd a b*b=b / Nat.gcd a b*a
  rw[e1,e2]
  calc x*b=x*(Nat.gcd a b*y):=by rw[← hy]
   _=y*(Nat.gcd a b*x):=by rw[Nat.mul_left_comm,Nat.mul_left_comm y,Nat.mul_comm x y]
   _=y*a:=by rw[← hx]
 ·exact Nat.div_pos (Nat.gcd_le_right a hb) hg
theorem Abk {x y z:Nat×Nat} (hx:Uw x) (hy:Uw y) (h:addN x y=some z):Uw z∧z.1*(x.2*y.2)=z.2*(x.1*y.2+y.1*x.2):=by
 obtain⟨a,b⟩:=x
 obtain⟨c,d⟩:=y
 obtain⟨hb,_,_,hab⟩:=hx
 obtain⟨hd,_,_,hcd⟩:=hy
 dsimp only at hb hab hd hcd
 have hg:0<Nat.gcd b d:=Nat.gcd_pos_of_pos_right b hd
 obtain⟨b',hb'⟩:=Nat.gcd_dvd_left b d
 obtain⟨d',hd'⟩:=Nat.gcd_dvd_right b d
 have e1:b / Nat.gcd b d=b':=Nat.div_eq_of_eq_mul_right hg hb'
 have e2:d / Nat.gcd b d=d':=Nat.div_eq_of_eq_mul_right hg hd'
 have hco:Nat.gcd b' d'=1:=by
  have:=YP (m:=b) (n:=d) hg
  rwa [e1,e2]at this
 have ht:VK (a,b) (c,d)=a*d'+c*b':=by unfold VK;dsimp only;rw[e1,e2]
 unfold addN Xl at h
 rw[ht]at h
 dsimp only at h
 rw[e1]at h
 generalize hG:Nat.gcd b d=g at*
 by_cases h0:a*d'+c*b'=0
 ·rw[if_pos h0]at h
  cases h
  refine⟨⟨by decide,by decide,by decide,by decide⟩,?_⟩
  show 0*(b*d)=1*(a*d+c*b)
  have:a*d+c*b=g*(a*d'+c*b'):=by
   rw[Nat.mul_add,Nat.mul_left_comm,Nat.mul_left_comm g,←hd',←hb']
  rw[this,h0];simp
 rw[if_neg h0]at h
 split at h
 case isFalse=>cases h
 rename_i hr
 cases h
 generalize hT:a*d'+c*b'=t at*
 have hh:0<Nat.gcd t g:=Nat.gcd_pos_of_pos_right t hg
 obtain⟨t',ht'⟩:=Nat.gcd_dvd_left t g
 obtain⟨g',hg'⟩:=Nat.gcd_dvd_right t g
 have k1:t / Nat.gcd t g=t':=Nat.div_eq_of_eq_mul_right hh ht'
 have k2:g / Nat.gcd t g=g':=Nat.div_eq_of_eq_mul_right hh hg'
 have k3:d / Nat.gcd t g=g'*d':=Nat.div_eq_of_eq_mul_right hh (by rw[← Nat.mul_assoc,←hg'];exact hd')
 have Alo:Nat.gcd t' g'=1:=by
  have:=YP (m:=t) (n:=g) hh
  rwa [k1,k2]at this
 rw[k1,k3]at hr ⊢
 generalize Nat.gcd t g=q at*
 have cop:∀{m n:Nat},Nat.gcd m n=1→Nat.Coprime m n:=fun h=>h
 have cab:Nat.Coprime a b':=Nat.Coprime.coprime_dvd_right ⟨g,by rw[Nat.mul_comm];exact hb'⟩ (cop hab)
 have ccd:Nat.Coprime c d':=Nat.Coprime.coprime_dvd_right ⟨g,by rw[Nat.mul_comm];exact hd'⟩ (cop hcd)
 have c1:Nat.Coprime t b':=by
  rw[← hT]
  show Nat.gcd (a*d'+c*b') b'=1
  rw[Nat.gcd_add_mul_right_left]
  exact Nat.Coprime.mul_left cab (Nat.Coprime.symm (cop hco))
 have c2:Nat.Coprime t d':=by
  rw[← hT,Nat.add_comm]
  show Nat.gcd (c*b'+a*d') d'=1
  rw[Nat.gcd_add_mul_right_left]
  exact Nat.Coprime.mul_left ccd (cop hco)
 have dt:t' ∣ t:=⟨q,by rw[Nat.mul_comm];exact ht'⟩
 have hb0:0<b':=Nat.pos_of_ne_zero fun e=>by rw[e]at hb';omega
 have hd0:0<d':=Nat.pos_of_ne_zero fun e=>by rw[e]at hd';omega
 have hg0:0<g':=Nat.pos_of_ne_zero fun e=>by rw[e]at hg';omega
 refine⟨⟨Nat.mul_pos hb0 (Nat.mul_pos hg0 hd0),hr.2,hr.1,?_⟩,?_⟩
 ·exact Nat.Coprime.mul_right (Nat.Coprime.coprime_dvd_left dt c1) (Nat.Coprime.mul_right (cop Alo) (Nat.Coprime.coprime_dvd_left dt c2))
 ·show t'*(b*d)=b'*(g'*d')*(a*d+c*b)
  have:a*d+c*b=g*t:=by
   rw[← hT,Nat.mul_add,Nat.mul_left_comm,Nat.mul_left_comm g,←hd',←hb']
  rw[this,hb',hd']
  have e:t=q*t':=ht'
  have e2:g=q*g':=hg'
  rw[e]
  have:g'*q=g:=by rw[Nat.mul_comm];exact e2.symm
  calc t'*(g*b'*(g*d'))=(t'*b'*d')*(g*g):=by simp only[Nat.mul_comm,Nat.mul_left_comm]
   _=(t'*b'*d')*(g'*q*g):=by rw[this]
   _=b'*(g'*d')*(g*(q*t')):=by simp only[Nat.mul_comm,Nat.mul_left_comm]
section
variable (D:Nat→Nat→Int) (P:Nat→Nat→Nat)
def PS (v s t:Nat):Bool:=decide (s≠t)&&decide (s≠v)&&decide (t≠v)&&decide (0≤D s v)&&decide (0≤D v t)&&decide (D s t=D s v+D v t)
def shr (v s t:Nat):Nat×Nat:=KN (P s v*P v t) (P s t)
def stB (v s t:Nat) (a:Nat×Nat):Option (Nat×Nat):=if PS D v s t then addN a (shr P v s t)else some a
def rowB (v s:Nat) (a:Option (Nat×Nat)):Nat→Option (Nat×Nat)
 |0=>a
 |t+1=>(rowB v s a t).bind (stB D P v s t)
def allB (n v:Nat):Nat→Option (Nat×Nat)
 |0=>some (0,1)
 |s+1=>rowB D P v s (allB n v s) n
def Xm (n:Nat):Nat→Option (List (Nat×Nat))
 |0=>some []
 |v+1=>(Xm n v).bind fun l=>(allB D P n v n).map fun a=>l++[a]
variable {D:Nat→Nat→Int} {P:Nat→Nat→Nat} {n:Nat}
theorem L6 {v s:Nat}:∀{k:Nat},rowB D P v s none k=none
 |0=>rfl
 |k+1=>by show(rowB D P v s none k).bind _=none;rw[L6];rfl
theorem PU {v s:Nat} {a:Option (Nat×Nat)} {k:Nat} (h:rowB D P v s a k=none):∀{m:Nat},k≤m→rowB D P v s a m=none
 |0,hm=>by obtain rfl:k=0:=by omega
           exact h
 |m+1,hm=>by
  by_cases e:k=m+1
  ·subst e;exact h
  ·show(rowB D P v s a m).bind _=none
   rw[PU h (by omega)];rfl
theorem PV {v k:Nat} (h:allB D P n v k=none):∀{m:Nat},k≤m→allB D P n v m=none
 |0,hm=>by obtain rfl:k=0:=by omega
           exact h
 |m+1,hm=>by
  by_cases e:k=m+1
  ·subst e;exact h
  ·show rowB D P v m (allB D P n v m) n=none
   rw[PV h (by omega),L6]
theorem RF {k:Nat} (h:Xm D P n k=none):∀{m:Nat},k≤m→Xm D P n m=none
 |0,hm=>by obtain rfl:k=0:=by omega
           exact h
 |m+1,hm=>by
  by_cases e:k=m+1
  ·subst e;exact h
  ·show(Xm D P n m).bind _=none
   rw[RF h (by omega)];rfl
theorem VL:∀{k:Nat} {l:List (Nat×Nat)},Xm D P n k=some l→l.length=k
 |0,l,h=>by cases h;rfl
 |k+1,l,h=>by
  obtain⟨m,hm,h2⟩:=Option.bind_eq_some_iff.1 (show (Xm D P n k).bind _=some l from h)
  obtain⟨a,_,rfl⟩:=Option.map_eq_some_iff.1 h2
  rw[List.length_append,VL hm];rfl
def wtB (N:Nat) (D:Nat→Nat→Int) (P:Nat→Nat→Nat) (v s t:Nat):Nat:=if PS D v s t then N / P s t*(P s v*P v t)else 0
structure Xn (N:Nat) (D:Nat→Nat→Int) (P:Nat→Nat→Nat) (n:Nat):Prop where
 pos:0<N
 div:∀v s t,v<n→s<n→t<n→PS D v s t=true→0<P s t∧P s t≤4096∧P s t ∣ N∧P s v*P v t≤P s t
theorem Xn.shr {N:Nat} (h:Xn N D P n) {v s t:Nat} (hv:v<n) (hs:s<n) (ht:t<n) (ho:PS D v s t=true):Uw (shr P v s t)∧(shr P v s t).1≤4096∧(shr P v s t).2≤4096∧(AI.shr P v s t).1*N=(AI.shr P v s t).2*wtB N D P v s t:=by
 obtain⟨h1,h2,⟨q,h3⟩,h4⟩:=h.div v s t hv hs ht ho
 obtain⟨k1,k2,k3,k4,k5⟩:=UM (a:=P s v*P v t) h1
 unfold AI.shr wtB
 rw[if_pos ho]
 have hM:(4096:Nat)≤F9:=by decide
 refine⟨⟨k2,by omega,by omega,k3⟩,by omega,by omega,?_⟩
 have hq:N / P s t=q:=Nat.div_eq_of_eq_mul_right h1 h3
 rw[hq,h3,←Nat.mul_assoc,k1,Nat.mul_assoc,Nat.mul_comm q]
theorem val_add {N:Nat} {x y z:Nat×Nat} {S T:Nat} (hx:Uw x) (hy:Uw y) (h:addN x y=some z) (e1:x.1*N=x.2*S) (e2:y.1*N=y.2*T):Uw z∧z.1*N=z.2*(S+T):=by
 obtain⟨h1,h2⟩:=Abk hx hy h
 refine⟨h1,?_⟩
 have hp:0<x.2*y.2:=Nat.mul_pos hx.1 hy.1
 refine Nat.eq_of_mul_eq_mul_right hp ?_
 calc z.1*N*(x.2*y.2)=z.1*(x.2*y.2)*N:=by rw[Nat.mul_right_comm]
  _=z.2*(x.1*y.2+y.1*x.2)*N:=by rw[h2]
  _=z.2*(x.1*N*y.2+y.1*N*x.2):=by
   rw[Nat.mul_assoc,Nat.add_mul,Nat.mul_right_comm x.1,Nat.mul_right_comm y.1]
  _=z.2*(x.2*S*y.2+y.2*T*x.2):=by rw[e1,e2]
  _=z.2*(S+T)*(x.2*y.2):=by
   have a1:x.2*S*y.2=S*(x.2*y.2):=by rw[Nat.mul_comm x.2 S,Nat.mul_assoc]
   have a2:y.2*T*x.2=T*(x.2*y.2):=by rw[Nat.mul_comm y.2 T,Nat.mul_assoc,Nat.mul_comm y.2 x.2]
   rw[a1,a2,←Nat.add_mul,Nat.mul_assoc]
theorem VO {N:Nat} (h:Xn N D P n) {v s:Nat} (hv:v<n) (hs:s<n) {a:Nat×Nat} {S:Nat} (ha:Uw a) (e:a.1*N=a.2*S):∀{k:Nat} {z:Nat×Nat},k≤n→rowB D P v s (some a) k=some z→Uw z∧z.1*N=z.2*(S+sg k fun t=>wtB N D P v s t)
 |0,z,_,hz=>by cases hz;exact⟨ha,e⟩
 |k+1,z,hk,hz=>by
  obtain⟨y,hy,h2⟩:=Option.bind_eq_some_iff.1 (show (rowB D P v s (some a) k).bind _=some z from hz)
  obtain⟨k1,k2⟩:=VO h hv hs ha e (by omega) hy
  show Uw z∧z.1*N=z.2*(S+((sg k fun t=>wtB N D P v s t)+wtB N D P v s k))
  rw[← Nat.add_assoc]
  unfold stB at h2
  by_cases ho:PS D v s k=true
  ·rw[if_pos ho]at h2
   obtain⟨m1,_,_,m2⟩:=h.shr hv hs (by omega) ho
   exact val_add k1 m1 h2 k2 m2
  ·rw[if_neg ho]at h2
   cases h2
   refine⟨k1,?_⟩
   unfold wtB at*
   rw[if_neg ho,Nat.add_zero]
   exact k2
theorem Aaa {N:Nat} (h:Xn N D P n) {v:Nat} (hv:v<n):∀{k:Nat} {z:Nat×Nat},k≤n→allB D P n v k=some z→Uw z∧z.1*N=z.2*sg k fun s=>sg n fun t=>wtB N D P v s t
 |0,z,_,hz=>by cases hz;exact⟨⟨by decide,by decide,by decide,by decide⟩,by simp[sg]⟩
 |k+1,z,hk,hz=>by
  have hz:rowB D P v k (allB D P n v k) n=some z:=hz
  cases ha:allB D P n v k with
  |none=>rw[ha,L6]at hz;cases hz
  |some a=>
   rw[ha]at hz
   obtain⟨k1,k2⟩:=Aaa h hv (by omega) ha
   exact VO h hv (by omega) k1 k2 (Nat.le_refl n) hz
end
theorem Nv:∀m:Nat,∃N,0<N∧∀k,1≤k→k≤m→k ∣ N
 |0=>⟨1,by omega,fun k _ _=>by omega⟩
 |m+1=>by
  obtain⟨N,h1,h2⟩:=Nv m
  refine⟨N*(m+1),Nat.mul_pos h1 (by omega),fun k hk hm=>?_⟩
  by_cases e:k=m+1
  ·subst e;exact⟨N,Nat.mul_comm _ _⟩
  ·exact Nat.dvd_trans (h2 k hk (by omega)) ⟨m+1,rfl⟩
section
variable {A:Nat→Nat→Bool} {n:Nat}
theorem Agy {v s t:Nat} (hv:v<n) (hs:s<n) (ht:t<n) (h:PS (EG A n) v s t=true):∃a b,Ds A n s v (a+1)∧Ds A n v t (b+1)∧Ds A n s t (a+1+(b+1)):=by
 unfold PS at h
 simp only[Bool.and_eq_true,decide_eq_true_eq]at h
 obtain⟨⟨⟨⟨⟨h1,h2⟩,h3⟩,h4⟩,h5⟩,h6⟩:=h
 rcases JB (A:=A) hs hv with e|⟨x,e,hx⟩
 ·omega
 rcases JB (A:=A) hv ht with e2|⟨y,e2,hy⟩
 ·omega
 have hx0:x≠0:=fun e=>by subst e;exact h2 (JY.1 hx).symm
 have hy0:y≠0:=fun e=>by subst e;exact h3 (JY.1 hy)
 obtain⟨a,rfl⟩:∃a,x=a+1:=⟨x-1,by omega⟩
 obtain⟨b,rfl⟩:∃b,y=b+1:=⟨y-1,by omega⟩
 refine⟨a,b,hx,hy,(VP hs ht).1 ?_⟩
 rw[h6,e,e2];omega
theorem RG {N:Nat} (hN:0<N) (hd:∀k,1≤k→k≤4096→k ∣ N) (hn:n≤12):Xn N (EG A n) (Et A n) n:=by
 refine⟨hN,fun v s t hv hs ht ho=>?_⟩
 obtain⟨a,b,h1,h2,h3⟩:=Agy hv hs ht ho
 have hp:=VQ hs ht h3
 have hf:Et A n s t≤4096:=Nat.le_trans (Ahh hs ht) (Nat.pow_le_pow_right (by omega) hn:2 ^ n≤2 ^ 12)
 exact⟨hp,hf,hd _ hp hf,Abl hs hv ht h1 h2 h3⟩
end
theorem X9 (x y:Nat):Nat.gcd y (x % y)=Nat.gcd x y:=by
 rw[Nat.gcd_comm x y,Nat.gcd_rec y x,Nat.gcd_comm]
theorem absP {n:Int} (h:KL n):Ah (Ac tab) 107 [.int .i64 n] (· =.int .i64 n.natAbs):=by
 unfold KL at h
 have e:(if 0-n>n then 0-n else n)=(n.natAbs:Int):=by split<;>omega
 refine Ad rfl rfl ?_
 (conv=>whnf);repeat' (first  |(refine kA ?_;conv=>whnf)|(refine Br.mk (fun hc=>?_) fun hc=>?_<;>first|exact hc.elim|conv=>whnf)|(refine kB ?_))
 rw[← e];rfl
theorem AfR {n d:Int} (hn:KL n) (hd:KL d):Ah (Ac tab) 69 [.int .i64 n,.int .i64 d] (· =.int .i64 (Nat.gcd n.natAbs d.natAbs)):=by
 have hn':=hn
 have hd':=hd
 unfold KL at hn' hd'
 refine Ad rfl rfl ?_
 (conv=>whnf);repeat' (first|(refine CP (inP (n:=n)) (fun hr=>?_) (fun hr=>absurd hn hr);conv=>whnf)|(refine CP (inP (n:=d)) (fun hr=>?_) (fun hr=>absurd hd hr);conv=>whnf)|((first|refine Aa (absP hn) ?_|refine Aa (absP hd) ?_);rintro _ rfl;conv=>whnf)|(refine kA ?_;conv=>whnf)|(refine Br.mk (fun hc=>?_) fun hc=>?_<;>first|exact hc.elim|conv=>whnf)|(refine kB ?_))
 refine Ai (fun m env s=>∃(x y:Nat),m=1*y∧x<2^63∧y<2^63∧Nat.gcd x y=Nat.gcd n.natAbs d.natAbs∧env=[(0,.int .i64 x),(1,.int .i64 y)]∧s=⟨[],0⟩) ?_ _ _ _ ⟨n.natAbs,d.natAbs,(Nat.one_mul _).symm,by omega,by omega,rfl,rfl,rfl⟩
 clear hn hd hn' hd'
 rintro m _ _ ⟨x,y,hm,hx,hy,hg,rfl,rfl⟩
 have hm2:y=m:=by omega
 subst hm2
 refine⟨rfl,?_⟩
 (conv=>whnf);repeat' (first  |(refine kA ?_;conv=>whnf)|(refine Br.mk (fun hc=>?_) fun hc=>?_<;>first|exact hc.elim|conv=>whnf)|(refine kB ?_))
 ·have h0:y=0:=by omega
  subst h0
  rw[Nat.gcd_zero_right]at hg
  rw[← hg];rfl
 ·have h0:0<y:=by omega
  have:=Nat.mod_lt x h0
  exact again.mk ⟨_,this,y,x % y,(Nat.one_mul _).symm,hy,by omega,by rw[X9];exact hg,by rw[Int.ofNat_tmod],rfl⟩
theorem Aeb {n d:Int} (h:¬(1≤d∧d≤1000000000000000∧KL n)):¬VF n d:=fun hv=>h ⟨hv.1,hv.2.1,hv.2.2.1⟩
theorem fvP {n d:Int}:Ah (Ac tab) 71 [.agg [.int .i64 n,.int .i64 d]] (· =.bool (decide (VF n d))):=by
 by_cases h:1≤d∧d≤1000000000000000∧KL n
 ·obtain⟨h1,h2,h3⟩:=h
  have hg:=AfR h3 (show KL d by unfold KL;omega)
  refine Ad rfl rfl ?_
  (conv=>whnf);repeat' (first|(refine CP (inP (n:=n)) (fun hr=>?_) (fun hr=>absurd h3 hr);conv=>whnf)|(refine Aa hg ?_;rintro _ rfl;conv=>whnf)|(refine kA ?_;conv=>whnf)|(refine Br.mk (fun hc=>?_) fun hc=>?_<;>first|exact hc.elim|conv=>whnf)|(refine kB ?_))
  all_goals first
   |exact BN ⟨h1,h2,h3,by omega⟩
   |exact Bf fun hv=>by have:=hv.2.2.2;omega
   |trace_state
 ·have hno:=Aeb h
  have hnr:¬KL n∨¬(1≤d∧d≤1000000000000000):=by
   by_cases h3:KL n
   ·exact .inr fun h12=>h ⟨h12.1,h12.2,h3⟩
   ·exact .inl h3
  refine Ad rfl rfl ?_
  (conv=>whnf);repeat' (first|(refine CP (inP (n:=n)) (fun hr=>?_) (fun hr=>?_)<;>conv=>whnf)|(refine kA ?_;conv=>whnf)|(refine Br.mk (fun hc=>?_) fun hc=>?_<;>first|exact hc.elim|conv=>whnf)|(refine kB ?_))
  all_goals first
   |exact Bf hno
   |(exfalso;rcases hnr with h|h;exact h hr;omega)
   |trace_state
theorem Af5 {a b:Nat} (ha:a<2^63) (hb:b<2^63):Ah (Ac tab) 41 [.int .i64 a,.int .i64 b] (· =.int .i64 (Nat.gcd a b)):=by
 refine Ad rfl rfl ?_
 (conv=>whnf);repeat' (first  |(refine kA ?_;conv=>whnf)|(refine Br.mk (fun hc=>?_) fun hc=>?_<;>first|exact hc.elim|conv=>whnf)|(refine kB ?_))
 refine Ai (fun m env s=>∃(x y:Nat),m=1*y∧x<2^63∧y<2^63∧Nat.gcd x y=Nat.gcd a b∧env=[(0,.int .i64 x),(1,.int .i64 y)]∧s=⟨[],0⟩) ?_ _ _ _ ⟨a,b,(Nat.one_mul _).symm,ha,hb,rfl,rfl,rfl⟩
 clear ha hb
 rintro m _ _ ⟨x,y,hm,hx,hy,hg,rfl,rfl⟩
 have hm2:y=m:=by omega
 subst hm2
 refine⟨rfl,?_⟩
 (conv=>whnf);repeat' (first  |(refine kA ?_;conv=>whnf)|(refine Br.mk (fun hc=>?_) fun hc=>?_<;>first|exact hc.elim|conv=>whnf)|(refine kB ?_))
 ·have h0:0<y:=by omega
  have:=Nat.mod_lt x h0
  exact again.mk ⟨_,this,y,x % y,(Nat.one_mul _).symm,hy,by omega,by rw[X9];exact hg,by rw[Int.ofNat_tmod],rfl⟩
 ·have h0:y=0:=by omega
  subst h0
  rw[Nat.gcd_zero_right]at hg
  rw[← hg];rfl
theorem fvR {n d:Int}:Ah (Ac tab) 40 [.agg [.int .i64 n,.int .i64 d]] (· =.bool (decide (VF n d))):=by
 by_cases h:1≤d∧d≤1000000000000000∧KL n
 ·obtain⟨h1,h2,h3⟩:=h
  have h3':=h3
  unfold KL at h3'
  obtain⟨dn,rfl⟩:∃k:Nat,d=k:=⟨d.toNat,by omega⟩
  obtain⟨_,⟨z,rfl,z0,z1⟩,hz⟩:=(size (n:=n) (by omega) (by omega)).YI
  obtain⟨zn,rfl⟩:∃k:Nat,z=k:=⟨z.toNat,by omega⟩
  have hzn:zn=n.natAbs:=by omega
  have hg:=Af5 (a:=zn) (b:=dn) (by omega) (by omega)
  refine Ad rfl rfl ?_
  (conv=>whnf);repeat' (first|((first|refine Aa hz ?_|refine Aa hg ?_);rintro _ rfl;conv=>whnf)|(refine kA ?_;conv=>whnf)|(refine Br.mk (fun hc=>?_) fun hc=>?_<;>first|exact hc.elim|conv=>whnf)|(refine kB ?_))
  all_goals first
   |exact BN ⟨h1,h2,h3,by rw[← hzn,Int.natAbs_natCast];omega⟩
   |exact Bf fun hv=>by have:=hv.2.2.2;rw[← hzn]at this;simp only[Int.natAbs_natCast]at this;omega
   |trace_state
 ·have hno:=Aeb h
  refine Ad rfl rfl ?_
  (conv=>whnf);repeat' (first  |(refine kA ?_;conv=>whnf)|(refine Br.mk (fun hc=>?_) fun hc=>?_<;>first|exact hc.elim|conv=>whnf)|(refine kB ?_))
  all_goals first
   |exact Bf hno
   |(exfalso;refine h ⟨by omega,by omega,?_⟩;unfold KL;omega)
   |trace_state
end AI
end Go.Proofs.YtchcadfjbkkgmaaGreatDoor
