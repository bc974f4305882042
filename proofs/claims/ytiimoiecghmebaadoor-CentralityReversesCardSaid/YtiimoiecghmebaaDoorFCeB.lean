/- neighbors: maps in a map. -/
import Derived.Test.YtiimoiecghmebaaDoorFMag
import Derived.Test.YtiimoiecghmebaaDoorFMaf
set_option linter.unusedVariables false
namespace Go.Proofs.YtiimoiecghmebaaDoor
namespace AI
abbrev XI (M:List (Int×AV)):List (AV×AV):=Hq (.int .i64) id M
theorem fkA {M:List (Int×AV)} {k:Int} {v:AV} {K:Option (Nat×AV)→Prop} (h:Dq M k=some v) (hK:∀i,K (some (i,v))):MN .int (.int .i64 k) (XI M) K:=
 IC (fv:=id) Es (fun e=>by rw[h]at e;cases e) (fun i w e=>by rw[h]at e;cases e;exact hK i)
theorem AkG {M:List (Int×AV)} {k:Int} {v:AV} {K:List (AV×AV)→Prop} (h:K (XI (D9 M k v))):Xf .int (.int .i64 k) v (XI M) K:=Nc (fv:=id) Es h
noncomputable def Ei (types:List (List UInt8)) (L:Int→List (Int×Bool)) (e:GE):Int→List (Int×Bool):=
 if e.fr≠e.to∧HT types e then fun v=>if v=e.to then D9 (L e.to) e.fr true else if v=e.fr then D9 (L e.fr) e.to true else L v else L
noncomputable def LY (types:List (List UInt8)) (es:List GE):Int→List (Int×Bool):=es.foldl (Ei types) fun _=>[]
structure NbS (σ:List Obj) (M:List (Int×AV)) (L:Int→List (Int×Bool)) (ids:List Int):Prop where
 keys:M.map Prod.fst=ids
 pt:∀v∈ids,∃o g c,Dq M v=some (.map o g)∧nth σ o=some (.mp g c (BQ (L v)))∧1<o
 inj:∀v w o g h,Dq M v=some (.map o g)→Dq M w=some (.map o h)→v=w
theorem UR {α:Type} {M:List (Int×α)} {v:Int} {x:α} (h:v∉M.map Prod.fst):D9 M v x=M++[(v,x)]:=by
 induction M with
 |nil=>rfl
 |cons p M ih=>
  simp only[List.map_cons,List.mem_cons,not_or]at h
  simp only[D9]
  rw[if_neg (fun e=>h.1 e),ih h.2]
  rfl
section
variable {σ σ':List Obj} {M:List (Int×AV)} {L L':Int→List (Int×Bool)} {ids:List Int} {F:List Nat}
theorem NbS.keep (h:NbS σ M L ids) (f:CB σ σ' F) (hF:∀o∈F,o≤1∨σ.length≤o):NbS σ' M L ids:=
 ⟨h.keys,fun v hv=>by
  obtain⟨o,g,c,h1,h2,h3⟩:=h.pt v hv
  exact⟨o,g,c,h1,f.get h2 (fun hm=>by have:=hF o hm;have:=Bj h2;omega),h3⟩,h.inj⟩
theorem NbS.new (h:NbS σ M L ids) (f:CB σ σ' F) (hF:∀o∈F,o≤1∨σ.length≤o) {v:Int} (hv:v∉ids) {o g:Nat} {c:Bool} (ho:σ.length≤o) (h1:1<o) (hq:nth σ' o=some (.mp g c (BQ []))) (hL:L v=[]):NbS σ' (D9 M v (.map o g)) L (ids++[v]):=by
 have hk:v∉M.map Prod.fst:=by rw[h.keys];exact hv
 have hold:∀w o' g',Dq M w=some (.map o' g')→o'<σ.length:=fun w o' g' e=>by
  by_cases hw:w∈ids
  ·obtain⟨o2,g2,c2,e2,e3,_⟩:=h.pt w hw
   rw[e]at e2;cases e2;exact Bj e3
  ·rw[Ia.2 (by show w∉M.map Prod.fst;rw[h.keys];exact hw)]at e;cases e
 refine⟨by rw[UR hk,List.map_append,h.keys];rfl,fun w hw=>?_,fun w w' o' g' h' e e'=>?_⟩
 ·by_cases e:w=v
  ·subst e;exact⟨o,g,c,by rw[Ib,if_pos rfl],by rw[hL];exact hq,h1⟩
  ·rcases List.mem_append.1 hw with hw|hw
   ·obtain⟨o2,g2,c2,e1,e2,e3⟩:=(h.keep f hF).pt w hw
    exact⟨o2,g2,c2,by rw[Ib,if_neg e];exact e1,e2,e3⟩
   ·exact absurd (List.mem_singleton.1 hw) e
 ·rw[Ib]at e e'
  by_cases hw:w=v
  ·by_cases hw':w'=v
   ·rw[hw,hw']
   ·rw[if_pos hw]at e;rw[if_neg hw']at e';have:=hold _ _ _ e';cases e;omega
  ·by_cases hw':w'=v
   ·rw[if_neg hw]at e;rw[if_pos hw']at e';have:=hold _ _ _ e;cases e';omega
   ·rw[if_neg hw]at e;rw[if_neg hw']at e';exact h.inj _ _ _ _ _ e e'
theorem NbS.put (h:NbS σ M L ids) {o g:Nat} {c:Bool} {v:Int} (hm:Dq M v=some (.map o g)) (f:CB σ σ' [o]) {S:List (Int×Bool)} (hq:nth σ' o=some (.mp g c (BQ S))) (hL:∀w,L' w=if w=v then S else L w):NbS σ' M L' ids:=
 ⟨h.keys,fun w hw=>by
  obtain⟨o2,g2,c2,e1,e2,e3⟩:=h.pt w hw
  by_cases e:w=v
  ·subst e
   rw[hm]at e1;cases e1
   exact⟨_,_,c,hm,by rw[hL,if_pos rfl];exact hq,e3⟩
  ·exact⟨o2,g2,c2,e1,by rw[hL,if_neg e];exact f.get e2 (fun hx=>e (h.inj _ _ _ _ _ e1 (by rw[List.mem_singleton.1 hx];exact hm))),e3⟩,h.inj⟩
end
theorem Qo {σ:List Obj}:∀{L:List (Int×Bool)} {m:Nat},L.length+1≤m→MI σ m (BQ L)=some (BQ L)
 |[],m,_=>by cases m<;>rfl
 |p::L,m,h=>by
  simp only[List.length_cons]at h
  obtain⟨k,rfl⟩:∃k,m=k+1+1:=⟨m-2,by omega⟩
  show(match snap σ (k+1) (AV.bool p.2),MI σ (k+1) (BQ L)with|some a,some b=>if(AV.int .i64 p.1).closed then some ((AV.int .i64 p.1,a)::b)else none|_,_=>none)=_
  rw[Qo (L:=L) (m:=k+1) (by omega)]
  rfl
theorem SA {σ:List Obj} {D:Nat} {w:Int→AV}:∀{M:List (Int×AV)} {m:Nat},(∀ p∈M,∀k,D≤k→snap σ k p.2=some (w p.1))→D+M.length≤m→MI σ m (XI M)=some (M.map fun p=>(.int .i64 p.1,w p.1))
 |[],m,_,_=>by cases m<;>rfl
 |p::M,m,h,hm=>by
  simp only[List.length_cons]at hm
  obtain⟨k,rfl⟩:∃k,m=k+1:=⟨m-1,by omega⟩
  show(match snap σ k p.2,MI σ k (XI M)with|some a,some b=>if(AV.int .i64 p.1).closed then some ((AV.int .i64 p.1,a)::b)else none|_,_=>none)=_
  rw[SA (M:=M) (m:=k) (fun q hq=>h q (by simp[hq])) (by omega),h p (by simp) k (by omega)]
  rfl
theorem ZX {α:Type} {M:List (Int×α)} {k:Int} {v:α}:(D9 M k v).length≤M.length+1:=by
 induction M with
 |nil=>simp[D9]
 |cons p M ih=>
  simp only[D9]
  split
  ·simp
  ·simp only[List.length_cons];omega
theorem VZ {types:List (List UInt8)} {v:Int}:∀{es:List GE} {L:Int→List (Int×Bool)} {n:Nat},(∀ v,(L v).length≤n)→((es.foldl (Ei types) L) v).length≤n+es.length
 |[],L,n,h=>h v
 |e::es,L,n,h=>by
  have:=VZ (types:=types) (v:=v) (es:=es) (L:=Ei types L e) (n:=n+1) (fun u=>by
   unfold Ei
   split
   ·dsimp only
    split
    ·exact Nat.le_trans ZX (by have:=h e.to;omega)
    ·split
     ·exact Nat.le_trans ZX (by have:=h e.fr;omega)
     ·have:=h u;omega
   ·have:=h u;omega)
  simp only[List.foldl_cons,List.length_cons]
  omega
theorem OG {α:Type} {M:List (Int×α)} {p:Int×α} (h:(M.map Prod.fst).Nodup) (hp:p∈M):Dq M p.1=some p.2:=by
 induction M with
 |nil=>cases hp
 |cons q M ih=>
  rw[List.map_cons,List.nodup_cons]at h
  simp only[Dq]
  rcases List.mem_cons.1 hp with rfl|hp
  ·rw[if_pos rfl]
  ·rw[if_neg (fun e=>h.1 (List.mem_map.2 ⟨p,hp,e⟩)),ih h.2 hp]
theorem NbS.snap {σ:List Obj} {M:List (Int×AV)} {L:Int→List (Int×Bool)} {ids:List Int} (h:NbS σ M L ids) (hnd:ids.Nodup) {n:Nat} (hn:∀v,(L v).length≤n) {cl:Bool} {o g:Nat} (h1:nth σ o=some (.mp g cl (XI M))) {d:Nat} (hd:n+ids.length+10≤d):snap σ d (.map o g)=some (.fmap (ids.map fun v=>(.int .i64 v,.fmap (BQ (L v))))):=by
 obtain⟨k,rfl⟩:∃k,d=k+1:=⟨d-1,by omega⟩
 have hl:M.length=ids.length:=by rw[← h.keys,List.length_map]
 have hs:=SA (σ:=σ) (D:=n+5) (w:=fun v=>.fmap (BQ (L v))) (M:=M) (m:=k) (fun p hp j hj=>by
  have hk:p.1∈ids:=by rw[← h.keys];exact List.mem_map.2 ⟨p,hp,rfl⟩
  obtain⟨o2,g2,c2,e1,e2,_⟩:=h.pt _ hk
  rw[OG (by rw[h.keys];exact hnd) hp,Option.some.injEq]at e1
  obtain⟨i,rfl⟩:∃i,j=i+1:=⟨j-1,by omega⟩
  rw[e1]
  have:=Qo (σ:=σ) (L:=L p.1) (m:=i) (by have:=hn p.1;omega)
  simp only[AI.snap,e2,if_true,this,Option.map_some]) (by omega)
 simp only[AI.snap,h1,if_true,hs,Option.map_some]
 rw[← h.keys,List.map_map]
 rfl
set_option maxHeartbeats 4000000 in
theorem YW {g:GG} (hg:g.ok) (hN:g.nodes.length≤1000) (hE:g.edges.length≤1000) (hck:AB g=0) {types:List (List UInt8)} {tn:Bool} (ht:types.length<2^63):Aw (Ad tab) 15 [g.av,.sl tn (vs .str types)] (· =.fmap (g.nodes.map fun n=>(.int .i64 n.id,.fmap (BQ (LY types g.edges n.id))))):=by
 have hln:=hg.1
 have hle:=hg.2.2.2.1
 unfold Ln at hln hle
 have hnd:=Rj hck
 have AcO:=Jg hck
 refine Ah rfl rfl ?_
 (conv=>whnf);repeat' (first  |(refine kA ?_;conv=>whnf)|(refine Br.mk (fun hc=>?_) fun hc=>?_<;>first|exact hc.elim|conv=>whnf)|(refine kB ?_))
 refine Au (fun m env s=>∃(i c cn:Nat) (cl:Bool) (σ:List Obj) (M:List (Int×AV)),m=g.nodes.length-i∧i≤g.nodes.length∧nth σ 0=some (.arr 0 4 true true [g.av])∧nth σ 1=some (.mp 1 cl (XI M))∧NbS σ M (fun _=>[]) ((g.nodes.take i).map GN.id)∧env=[(1,.sl tn (vs .str types)),(2,.ref 0 0 0 0),(5,.map 1 1),(12,.sl g.nn (vs GN.av g.nodes)),(13,.int .i64 g.nodes.length),(14,.int .i64 i)]∧s=⟨σ,c⟩) ?_ _ _ _ ⟨0,_,0,_,_,[],rfl,by omega,rfl,rfl,⟨rfl,by simp,fun v w o g h e=>by cases e⟩,rfl,rfl⟩
 rintro _ _ _ ⟨i,c,cn,cl,σ,M,rfl,hi,h0,h1,hS,rfl,rfl⟩
 refine⟨rfl,?_⟩
 by_cases hlt:i<g.nodes.length
 ·have RY:(g.nodes.take (i+1)).map GN.id=(g.nodes.take i).map GN.id++[(g.nodes[i]).id]:=by rw[List.take_succ_eq_append_getElem hlt,List.map_append];rfl
  have hni:(g.nodes[i]).id∉(g.nodes.take i).map GN.id:=by
   have h:=hnd
   rw[show Bf g=(g.nodes.take (i+1)).map GN.id++(g.nodes.drop (i+1)).map GN.id by rw[← List.map_append,List.take_append_drop];rfl,RY,List.append_assoc,List.nodup_append]at h
   exact fun hm=>h.2.2 _ hm _ (by simp) rfl
  have hl1:=Bj h1
  (conv=>whnf);repeat' (first|(refine EW fun σ3 f3 h3 l3=>?_;have h03:=f3.get h02 (by simp);have h13:=f3.get h12 (by simp);have h23:=f3.get h2 (by simp);conv=>whnf)|(refine EW fun σ1 f1 h2 l1=>?_;have h01:=f1.get h0 (by simp);have h11:=f1.get h1 (by simp);conv=>whnf)|(refine BL h13 fun σ4 f4 h4 l4=>?_;have h04:=f4.get h03 (by simp);conv=>whnf)|(refine BL h2 fun σ2 f2 h2 l2=>?_;have h02:=f2.get h01 (by simp;omega);have h12:=f2.get h11 (by simp;omega);conv=>whnf)|(rw [h2];conv=>whnf)|(rw [h23];conv=>whnf)|(rw [h13];conv=>whnf)|(refine AkG ?_;conv=>whnf)|(refine kA ?_;conv=>whnf)|(refine Br.mk (fun hc=>?_) fun hc=>?_<;>first|exact hc.elim|conv=>whnf)|(refine kB ?_))
  all_goals (
   replace f1:CB σ σ1 []:=f1
   replace f2:CB σ1 σ2 [σ.length]:=f2
   replace f3:CB σ2 σ3 []:=f3
   replace f4:CB σ3 σ4 [1]:=f4
   replace l1:σ1.length=σ.length+1:=l1
   replace l2:σ2.length=σ1.length:=l2
   have hq:=f4.get h3 (by simp;omega)
   have FT:CB σ σ4 [1]:=(((f1.trans f2).trans f3).trans f4).mono (by
        intro o ho
        simp only[List.append_nil,List.nil_append,List.cons_append,List.mem_cons,List.mem_nil_iff,or_false]at ho ⊢
        omega)
   have hS4:=hS.new FT (by intro o ho;have:=List.mem_singleton.1 ho;exact .inl (by omega)) hni (o:=σ2.length) (by omega) (by omega) hq rfl
   rw[← RY]at hS4
   first
   |(exfalso;omega)
   |exact again.mk ⟨_,by omega,i+1,_,0,_,σ4,_,rfl,by omega,h04,h4,hS4,rfl,rfl⟩)
 ·have hie:i=g.nodes.length:=by omega
  subst hie
  clear hlt hi cn
  rw[List.take_of_length_le (Nat.le_refl _)]at hS
  (conv=>whnf);repeat' (first|(rw [h0];conv=>whnf)|(rw [h1];conv=>whnf)|(refine kA ?_;conv=>whnf)|(refine Br.mk (fun hc=>?_) fun hc=>?_<;>first|exact hc.elim|conv=>whnf)|(refine kB ?_))
  refine Au (fun m env s=>∃(i c:Nat) (cl:Bool) (σ:List Obj),m=g.edges.length-i∧i≤g.edges.length∧nth σ 0=some (.arr 0 4 true true [g.av])∧nth σ 1=some (.mp 1 cl (XI M))∧NbS σ M (LY types (g.edges.take i)) (Bf g)∧env=[(1,.sl tn (vs .str types)),(5,.map 1 1),(24,.sl g.en (vs GE.av g.edges)),(25,.int .i64 g.edges.length),(26,.int .i64 i)]∧s=⟨σ,c⟩) ?_ _ _ _ ⟨0,_,_,_,rfl,by omega,h0,h1,hS,rfl,rfl⟩
  clear h0 h1 hS
  rintro _ _ _ ⟨i,c,cl,σ,rfl,hi,h0,h1,hS,rfl,rfl⟩
  refine⟨rfl,?_⟩
  by_cases hlt:i<g.edges.length
  ·have hL:LY types (g.edges.take (i+1))=Ei types (LY types (g.edges.take i)) g.edges[i]:=by
        unfold LY;rw[List.take_succ_eq_append_getElem hlt,List.foldl_append];rfl
   obtain⟨he1,he2⟩:=AcO _ (List.getElem_mem hlt)
   obtain⟨oa,ga,ca,a1,a2,a3⟩:=hS.pt _ he1
   obtain⟨ob,gb,cb,b1,b2,b3⟩:=hS.pt _ he2
   have hl1:=Bj h1
   have hla:=Bj a2
   have hlb:=Bj b2
   by_cases e1:(g.edges[i]).fr=(g.edges[i]).to
   ·rw[← show LY types (g.edges.take (i+1))=LY types (g.edges.take i) from by rw[hL];unfold Ei;rw[if_neg (fun h=>h.1 e1)]]at hS
    (conv=>whnf);repeat' (first|(refine EW fun σ1 f1 h2 l1=>?_;have h01:=f1.get h0 (by simp);have h11:=f1.get h1 (by simp);conv=>whnf)|(refine BL h2 fun σ2 f2 h2 l2=>?_;have h02:=f2.get h01 (by simp;omega);have h12:=f2.get h11 (by simp;omega);conv=>whnf)|(rw [h2];conv=>whnf)|(refine kA ?_;conv=>whnf)|(refine Br.mk (fun hc=>?_) fun hc=>?_<;>first|exact hc.elim|conv=>whnf)|(refine kB ?_))
    all_goals first
     |(exfalso;omega)
     |(exfalso;contradiction)
     |(replace f1:CB σ σ1 []:=f1
       replace f2:CB σ1 σ2 [σ.length]:=f2
       have FT:CB σ σ2 []:=(f1.trans f2).mono (by
           intro o ho
           simp only[List.nil_append,List.mem_cons,List.mem_nil_iff,or_false]at ho ⊢
           omega)
       exact again.mk ⟨_,by omega,i+1,_,_,σ2,rfl,by omega,h02,h12,hS.keep FT (by simp),rfl,rfl⟩)
   ·have hab:oa≠ob:=fun e=>e1 (hS.inj _ _ _ _ _ a1 (by rw[e];exact b1))
    by_cases e2:HT types g.edges[i]
    ·have hT:=SB (nn:=tn) (e:=g.edges[i]) ht
     rw[decide_eq_true e2]at hT
     (conv=>whnf);repeat' (first|(refine EW fun σ1 f1 h2 l1=>?_;have h01:=f1.get h0 (by simp);have h11:=f1.get h1 (by simp);have a21:=f1.get a2 (by simp);have b21:=f1.get b2 (by simp);conv=>whnf)|(refine BL b23 fun σ4 f4 h4 l4=>?_;have h04:=f4.get h03 (by simp;omega);have ZY:=f4.get h13 (by simp;omega);conv=>whnf)|(refine BL a22 fun σ3 f3 h3 l3=>?_;have h03:=f3.get h02 (by simp;omega);have h13:=f3.get h12 (by simp;omega);have h23:=f3.get h2 (by simp;omega);have b23:=f3.get b22 (by simp;omega);conv=>whnf)|(refine BL h2 fun σ2 f2 h2 l2=>?_;have h02:=f2.get h01 (by simp;omega);have h12:=f2.get h11 (by simp;omega);have a22:=f2.get a21 (by simp;omega);have b22:=f2.get b21 (by simp;omega);conv=>whnf)|(rw [h2];conv=>whnf)|(rw [h23];conv=>whnf)|(rw [h12];conv=>whnf)|(rw [h13];conv=>whnf)|(rw [a22];conv=>whnf)|(rw [b23];conv=>whnf)|(refine Ac hT ?_;rintro _ rfl;conv=>whnf)|(refine fkA a1 (fun _=>?_);conv=>whnf)|(refine fkA b1 (fun _=>?_);conv=>whnf)|(refine msT ?_;conv=>whnf)|(refine kA ?_;conv=>whnf)|(refine Br.mk (fun hc=>?_) fun hc=>?_<;>first|exact hc.elim|conv=>whnf)|(refine kB ?_))
     all_goals first
      |(exfalso;omega)
      |(exfalso;contradiction)
      |(replace f1:CB σ σ1 []:=f1
        replace f2:CB σ1 σ2 [σ.length]:=f2
        replace f3:CB σ2 σ3 [oa]:=f3
        replace f4:CB σ3 σ4 [ob]:=f4
        have F2:CB σ σ2 []:=(f1.trans f2).mono (by
            intro o ho
            simp only[List.nil_append,List.mem_cons,List.mem_nil_iff,or_false]at ho ⊢
            omega)
        have hS3:=(hS.keep F2 (by simp)).put (L':=fun w=>if w=(g.edges[i]).fr then D9 (LY types (g.edges.take i) (g.edges[i]).fr) (g.edges[i]).to true else LY types (g.edges.take i) w) a1 f3 h3 (fun w=>rfl)
        have hS4:=hS3.put (L':=LY types (g.edges.take (i+1))) b1 f4 h4 (fun w=>by
            rw[hL];unfold Ei;rw[if_pos ⟨e1,e2⟩])
        exact again.mk ⟨_,by omega,i+1,_,_,σ4,rfl,by omega,h04,ZY,hS4,rfl,rfl⟩)
    ·have hT:=SB (nn:=tn) (e:=g.edges[i]) ht
     rw[decide_eq_false e2]at hT
     rw[← show LY types (g.edges.take (i+1))=LY types (g.edges.take i) from by rw[hL];unfold Ei;rw[if_neg (fun h=>e2 h.2)]]at hS
     (conv=>whnf);repeat' (first|(refine EW fun σ1 f1 h2 l1=>?_;have h01:=f1.get h0 (by simp);have h11:=f1.get h1 (by simp);conv=>whnf)|(refine BL h2 fun σ2 f2 h2 l2=>?_;have h02:=f2.get h01 (by simp;omega);have h12:=f2.get h11 (by simp;omega);conv=>whnf)|(rw [h2];conv=>whnf)|(refine Ac hT ?_;rintro _ rfl;conv=>whnf)|(refine kA ?_;conv=>whnf)|(refine Br.mk (fun hc=>?_) fun hc=>?_<;>first|exact hc.elim|conv=>whnf)|(refine kB ?_))
     all_goals first
      |(exfalso;omega)
      |(exfalso;contradiction)
      |(replace f1:CB σ σ1 []:=f1
        replace f2:CB σ1 σ2 [σ.length]:=f2
        have FT:CB σ σ2 []:=(f1.trans f2).mono (by
            intro o ho
            simp only[List.nil_append,List.mem_cons,List.mem_nil_iff,or_false]at ho ⊢
            omega)
        exact again.mk ⟨_,by omega,i+1,_,_,σ2,rfl,by omega,h02,h12,hS.keep FT (by simp),rfl,rfl⟩)
  ·have hie:i=g.edges.length:=by omega
   subst hie
   rw[List.take_of_length_le (Nat.le_refl _)]at hS
   (conv=>whnf);repeat' (first  |(refine kA ?_;conv=>whnf)|(refine Br.mk (fun hc=>?_) fun hc=>?_<;>first|exact hc.elim|conv=>whnf)|(refine kB ?_))
   all_goals first
        |(exfalso;omega)
        |(refine Bv (hS.snap hnd (n:=1000) (fun v=>Nat.le_trans (VZ (n:=0) (fun _=>Nat.le_refl _)) (by omega)) h1 (by rw[DF];show _≤1000000;omega)) ?_
          unfold Bf
          rw[List.map_map]
          rfl)
end AI
end Go.Proofs.YtiimoiecghmebaaDoor
