/- The laws ShortestLevels and ShortestTurned, about the evaluator. -/
import Derived.Test.YthjeehjphekjmaaGreatDoorLMaj
import Derived.Test.YthjeehjphekjmaaGreatDoorLCk8
set_option linter.unusedVariables false
set_option maxRecDepth 4000
namespace Go.Proofs.YthjeehjphekjmaaGreatDoor
namespace AI
theorem AaR (x:Int×Int):bin .neq (.flat [.int,.int]) (.agg (List.take 2 (Az x).cells)) (.agg (List.take 2 (Az x).cells))=some (.bool false):=by
 simp[bin,XF,JO,CW,Az,AV.cells]
set_option maxRecDepth 10000 in
set_option maxHeartbeats 4000000 in
theorem VJ:∀xs,likes Tryz.prog [25,28] xs→AQ (Ac MH) 3 xs ⟨[],0⟩ fun out _=>out=.ok (.bool true):=by
 intro xs h
 match xs,h with
 |[y,z],h=>
  obtain⟨h1,h2,_⟩:=h
  obtain⟨g,rfl,hg,hf⟩:=JQ h1
  obtain⟨x,rfl,i1,i2,i3,i4,i5,hT⟩:=PS h2
  have pf:=(AcX hg).up Le
  have hln:=hT
  unfold Ln at hln
  refine Ar rfl rfl ?_
  by_cases hfew:g.nodes.length≤40∧g.edges.length≤60
  case neg=>
   rw[decide_eq_false hfew]at pf
   (conv=>whnf);repeat' (first|((first|refine Aa pf ?_|refine Aa D6 ?_);rintro _ rfl;conv=>whnf)|(refine kA ?_;conv=>whnf)|(refine Br.mk (fun hc=>?_) fun hc=>?_<;>first|exact hc.elim|conv=>whnf)|(refine kB ?_))
   all_goals first|rfl|(exfalso;omega)
  rw[decide_eq_true hfew]at pf
  obtain⟨gN,gE⟩:=hfew
  by_cases h20:x.types.length>20
  ·(conv=>whnf);repeat' (first|((first|refine Aa pf ?_|refine Aa D6 ?_);rintro _ rfl;conv=>whnf)|(refine kA ?_;conv=>whnf)|(refine Br.mk (fun hc=>?_) fun hc=>?_<;>first|exact hc.elim|conv=>whnf)|(refine kB ?_))
   all_goals first|rfl|(exfalso;omega)
  obtain⟨_,⟨b1,L,rfl,hL⟩,q1⟩:=(Aam (g:=g) hg hf (by omega) (by omega) (types:=x.types) (tn:=x.tn) hln (dir:=x.dir) (a:=x.fr) (z:=x.hi)).Oj
  obtain⟨_,⟨b2,M,rfl,hM⟩,q2⟩:=(Aan (g:=g) hg (by omega) (by omega) (types:=x.types) (tn:=x.tn) hln (dir:=x.dir) (a:=x.fr) (z:=x.hi)).Oj
  have r1:=q1.up Le
  have r2:=q2.up Le
  have hLl:=hL.len
  have hMl:=hM.len
  have hcap:=RI x.hi
  have hl8:L.length≤8:=by rw[hLl];split<;>omega
  have hLM:L.length=M.length:=by omega
  have qok:(DQ.mk g x.fr x.tn x.types x.dir).ok:=⟨hg,hf,by show g.nodes.length<2^62;omega,by show g.edges.length≤100;omega,hln⟩
  have dX:=Zh qok
  obtain⟨_,⟨b3,O,rfl,hO1,hO2⟩,q3⟩:=(AeN (g:=g) hg (by omega) (by omega) (types:=x.types) (tn:=x.tn) hln (dir:=x.dir) (a:=x.fr)).Oj
  have r3:=q3.up Le
  have hout:∃bq,(DQ.mk g x.fr x.tn x.types x.dir).out=.sl bq (vs Az O):=by
   unfold DQ.out
   by_cases hn:EH g x.fr
   ·rw[if_pos hn]
    exact⟨true,by rw[show dsO (DQ.mk g x.fr x.tn x.types x.dir).nb (DQ.mk g x.fr x.tn x.types x.dir).a=O from SQ (hO1 hn)]⟩
   ·rw[if_neg hn]
    exact⟨false,by rw[hO2 hn];rfl⟩
  obtain⟨bq,hout⟩:=hout
  have YI:O.length≤1000:=by
   by_cases hn:EH g x.fr
   ·have:=List.Nodup.length_le_of_subset (l₁:=O.map (·.1)) (l₂:=x.fr::Ll g.edges) (List.pairwise_map.2 ((hO1 hn).inc.imp fun h=>by omega)) fun y hy=>by
     obtain⟨p,hp,rfl⟩:=List.mem_map.1 hy
     obtain⟨k,_,hk⟩:=((hO1 hn).mem p).1 hp
     cases k with
     |zero=>rw[(EU _).1 hk.1];simp
     |succ k=>
      obtain⟨z,_,hz⟩:=(Dw _).1 hk.1
      exact List.mem_cons_of_mem _ (GY hz)
    rw[List.length_map,List.length_cons,GX]at this
    omega
   ·rw[hO2 hn];simp
  rw[hout]at dX
  clear q1 q2 q3 hO1 hO2 hout qok
  unfold DQ.enc at dX
  dsimp only at dX
  (conv=>whnf);repeat' (first|((first|refine Aa pf ?_|refine Aa r1 ?_|refine Aa r2 ?_);rintro _ rfl;conv=>whnf)|(refine kA ?_;conv=>whnf)|(refine Br.mk (fun hc=>?_) fun hc=>?_<;>first|exact hc.elim|conv=>whnf)|(refine kB ?_))
  all_goals first|(exfalso;omega)|skip
  refine Ae (fun m env s=>∃(i c:Nat),m=L.length-i∧env=[(2,.ref 0 0 0 0),(3,.ref 1 1 0 0),(5,.sl b1 (vs Qo L)),(6,.sl b2 (vs Qo M)),(7,.int .i64 i)]∧s=⟨[.arr 0 4 true true [g.av],.arr 1 6 true true [x.av]],c⟩) ?_ _ _ _ ⟨0,_,rfl,rfl,rfl⟩
  rintro _ _ _ ⟨i,c,rfl,rfl,rfl⟩
  refine⟨rfl,?_⟩
  by_cases hlt:i<L.length
  ·have e1:=hL.at hlt
   have e2:=hM.at (i:=i) (by omega)
   have n1:nth (vs Qo L) (Int.toNat (Nat.cast i))=some (.sl (L[i]).1 (vi (Ea (CY x.types x.dir g.edges) x.fr i))):=by rw[← e1];exact nVN hlt
   have n2:nth (vs Qo M) (Int.toNat (Nat.cast i))=some (.sl (M[i]'(by omega)).1 (vi (Ea (CY x.types x.dir g.edges) x.fr i))):=by rw[← e2];exact nVN (by omega)
   have hlen:=@Ot x.types x.dir g.edges x.fr i
   have pI:=(AeO (l:=Ea (CY x.types x.dir g.edges) x.fr i) (na:=(L[i]).1) (nb:=(M[i]'(by omega)).1) (by omega)).up Le
   (conv=>whnf);repeat' (first|(apply AU;(· exact n1);conv=>whnf)|(apply AU;(· exact n2);conv=>whnf)|(refine Aa pI ?_;rintro _ rfl;conv=>whnf)|(refine kA ?_;conv=>whnf)|(refine Br.mk (fun hc=>?_) fun hc=>?_<;>first|exact hc.elim|conv=>whnf)|(refine kB ?_))
   all_goals first
     |(exfalso;omega)
     |exact again.mk ⟨_,by omega,i+1,_,rfl,rfl,rfl⟩
  ·(conv=>whnf);repeat' (first|((first|refine Aa dX ?_|refine Aa r3 ?_);rintro _ rfl;conv=>whnf)|(refine kA ?_;conv=>whnf)|(refine Br.mk (fun hc=>?_) fun hc=>?_<;>first|exact hc.elim|conv=>whnf)|(refine kB ?_))
   all_goals first|(exfalso;omega)|skip
   refine Ae (fun m env s=>∃(j c:Nat),m=O.length-j∧env=[(8,.sl bq (vs Az O)),(9,.sl b3 (vs Az O)),(10,.int .i64 j)]∧s=⟨[.arr 0 4 true true [g.av],.arr 1 6 true true [x.av]],c⟩) ?_ _ _ _ ⟨0,_,rfl,rfl,rfl⟩
   rintro _ _ _ ⟨j,c,rfl,rfl,rfl⟩
   refine⟨rfl,?_⟩
   by_cases hjl:j<O.length
   ·(conv=>whnf);repeat' (first|(apply Ai (AaR _);conv=>whnf)|(refine kA ?_;conv=>whnf)|(refine Br.mk (fun hc=>?_) fun hc=>?_<;>first|exact hc.elim|conv=>whnf)|(refine kB ?_))
    all_goals first
     |(exfalso;omega)
     |exact again.mk ⟨_,by omega,j+1,_,rfl,rfl,rfl⟩
   ·(conv=>whnf);repeat' (first|(refine Aa D6 ?_;rintro _ rfl;conv=>whnf)|(refine kA ?_;conv=>whnf)|(refine Br.mk (fun hc=>?_) fun hc=>?_<;>first|exact hc.elim|conv=>whnf)|(refine kB ?_))
    all_goals first|rfl|(exfalso;omega)
end AI
end Go.Proofs.YthjeehjphekjmaaGreatDoor
