/- The law ShortestRight, about the evaluator. -/
import Derived.Test.YthjeehjphekjmaaGreatDoorRMap
set_option linter.unusedVariables false
set_option maxRecDepth 4000
namespace Go.Proofs.YthjeehjphekjmaaGreatDoor
namespace AI
section
variable {g:GG} {x:Abh}
set_option maxHeartbeats 4000000 in
theorem rightI (hg:g.ok) (hE:g.edges.length≤8) (hT:x.types.length<2^63) {k:Nat} (hk:k≤6) {nv:Bool} {elL:List AV} {i:Nat} {l:List Int} (hl:l.length=2*k+1) (hst:∀j,j<k→∃p e q,l[2*j]?=some p∧l[2*j+1]?=some e∧l[2*j+2]?=some q∧(e,q)∈stT x.types x.dir g.edges p) {c0:Nat} {Q:Ak→Env→Ag→Prop}
 (hQ:∀c tl,Q (.exit 2) ([(2,.ref 0 0 0 0),(3,.ref 1 1 0 0),(5,.int .i64 k),(7,.sl nv elL),(8,.int .i64 i)]++tl) ⟨[.arr 0 4 true true [g.av],.arr 1 6 true true [x.av]],c⟩):
 Run (Ac MH) (.loop l4_0_h l4_0_b) [(2,.ref 0 0 0 0),(3,.ref 1 1 0 0),(5,.int .i64 k),(7,.sl nv elL),(8,.int .i64 i),(9,.sl true (wav 5 l)),(10,.int .i64 0)] ⟨[.arr 0 4 true true [g.av],.arr 1 6 true true [x.av]],c0⟩ Q:=by
 refine Ae (fun m env s=>∃j c:Nat,m=k-j∧j≤k∧env=[(2,.ref 0 0 0 0),(3,.ref 1 1 0 0),(5,.int .i64 k),(7,.sl nv elL),(8,.int .i64 i),(9,.sl true (wav 5 l)),(10,.int .i64 j)]∧s=⟨[.arr 0 4 true true [g.av],.arr 1 6 true true [x.av]],c⟩) ?_ _ _ _ ⟨0,c0,rfl,by omega,rfl,rfl⟩
 rintro _ _ _ ⟨j,c,rfl,hj,rfl,rfl⟩
 refine⟨rfl,?_⟩
 by_cases hjk:j<k
 ·obtain⟨p,e,q,g1,g2,g3,g4⟩:=hst j hjk
  have n1:=wav_nth g1
  have n2:=wav_nth g2
  have n3:=wav_nth g3
  rw[if_pos (by omega)]at n1 n3
  rw[if_neg (by omega)]at n2
  have m1:nth (wav 5 l) (Int.toNat (2*(j:Int)))=some (gvK 5 p).av:=by rw[show Int.toNat (2*(j:Int))=2*j by omega];exact n1
  have m2:nth (wav 5 l) (Int.toNat (2*(j:Int)+1))=some (gvK 6 e).av:=by rw[show Int.toNat (2*(j:Int)+1)=2*j+1 by omega];exact n2
  have m3:nth (wav 5 l) (Int.toNat (2*(j:Int)+2))=some (gvK 5 q).av:=by rw[show Int.toNat (2*(j:Int)+2)=2*j+2 by omega];exact n3
  have hp:=(stepZ (g:=g) hg (by omega) (types:=x.types) (tn:=x.tn) hT (dir:=x.dir) (a:=p) (e:=e) (b:=q)).up Le
  rw[decide_eq_true g4]at hp
  have hwl:=wav_len (l:=l) (k:=5)
  (conv=>whnf);repeat' (first|(apply AU;(· exact m1);conv=>whnf)|(apply AU;(· exact m2);conv=>whnf)|(apply AU;(· exact m3);conv=>whnf)|(refine Aa hp ?_;rintro _ rfl;conv=>whnf)|(refine kA ?_;conv=>whnf)|(refine Br.mk (fun hc=>?_) fun hc=>?_<;>first|exact hc.elim|conv=>whnf)|(refine kB ?_))
  all_goals first
   |(exfalso;omega)
   |exact absurd rfl (by assumption)
   |exact again.mk ⟨_,by omega,j+1,_,rfl,by omega,rfl,rfl⟩
 ·obtain rfl:j=k:=by omega
  (conv=>whnf);repeat' (first  |(refine kA ?_;conv=>whnf)|(refine Br.mk (fun hc=>?_) fun hc=>?_<;>first|exact hc.elim|conv=>whnf)|(refine kB ?_))
  all_goals first
   |(exfalso;omega)
   |exact hQ _ _
end
set_option maxRecDepth 10000 in
set_option maxHeartbeats 8000000 in
theorem law_right:∀xs,likes Tryz.prog [25,28] xs→AQ (Ac MH) 4 xs ⟨[],0⟩ fun out _=>out=.ok (.bool true):=by
 intro xs h
 match xs,h with
 |[y,z],h=>
  obtain⟨h1,h2,_⟩:=h
  obtain⟨g,rfl,hg,hf⟩:=JQ h1
  obtain⟨x,rfl,i1,i2,i3,i4,i5,hT⟩:=PS h2
  have pf:=(AcX hg).up Le
  have hln:=hT
  unfold Ln at hln
  have hEl:=hg.2.2.2.1
  unfold Ln at hEl
  refine Ar rfl rfl ?_
  by_cases hfew:g.nodes.length≤40∧g.edges.length≤60
  case neg=>
   rw[decide_eq_false hfew]at pf
   (conv=>whnf);repeat' (first|((first|refine Aa pf ?_|refine Aa D6 ?_);rintro _ rfl;conv=>whnf)|(refine kA ?_;conv=>whnf)|(refine Br.mk (fun hc=>?_) fun hc=>?_<;>first|exact hc.elim|conv=>whnf)|(refine kB ?_))
   all_goals first|rfl|(exfalso;omega)
  rw[decide_eq_true hfew]at pf
  obtain⟨gN,gE⟩:=hfew
  by_cases h8:g.edges.length>8
  ·(conv=>whnf);repeat' (first|((first|refine Aa pf ?_|refine Aa D6 ?_);rintro _ rfl;conv=>whnf)|(refine kA ?_;conv=>whnf)|(refine Br.mk (fun hc=>?_) fun hc=>?_<;>first|exact hc.elim|conv=>whnf)|(refine kB ?_))
   all_goals first|rfl|(exfalso;omega)
  by_cases h20:x.types.length>20
  ·(conv=>whnf);repeat' (first|((first|refine Aa pf ?_|refine Aa D6 ?_);rintro _ rfl;conv=>whnf)|(refine kA ?_;conv=>whnf)|(refine Br.mk (fun hc=>?_) fun hc=>?_<;>first|exact hc.elim|conv=>whnf)|(refine kB ?_))
   all_goals first|rfl|(exfalso;omega)
  obtain⟨_,⟨lb,rfl⟩,q0⟩:=(lightP (g:=g) hg (by omega) (by omega) (x:=x) hln).Oj
  have r0:=q0.up Le
  cases lb with
  |false=>
   (conv=>whnf);repeat' (first|((first|refine Aa pf ?_|refine Aa r0 ?_|refine Aa D6 ?_);rintro _ rfl;conv=>whnf)|(refine kA ?_;conv=>whnf)|(refine Br.mk (fun hc=>?_) fun hc=>?_<;>first|exact hc.elim|conv=>whnf)|(refine kB ?_))
   all_goals first|rfl|(exfalso;omega)|exact absurd rfl (by assumption)
  |true=>
  have d1:=(UF (g:=g) hg hf (by omega) (by omega) (types:=x.types) (tn:=x.tn) hln (dir:=x.dir) (a:=x.fr) (b:=x.to) (lo:=x.lo) (hi:=x.hi)).up Le
  cases hA:FC g x.types x.dir x.fr x.to x.lo x.hi with
  |none=>
   have a1:=(allPn (g:=g) hg hf (by omega) (by omega) (x:=x) hln hA).up Le
   rw[hA]at d1
   unfold UG at d1
   dsimp only at d1
   (conv=>whnf);repeat' (first|((first|refine Aa pf ?_|refine Aa r0 ?_|refine Aa d1 ?_|refine Aa a1 ?_|refine Aa D6 ?_);rintro _ rfl;conv=>whnf)|(refine kA ?_;conv=>whnf)|(refine Br.mk (fun hc=>?_) fun hc=>?_<;>first|exact hc.elim|conv=>whnf)|(refine kB ?_))
   all_goals first|rfl|(exfalso;omega)|exact absurd rfl (by assumption)
  |some k=>
   obtain⟨_,⟨n1,L,rfl,hLl,hL⟩,a1⟩:=(allP (g:=g) hg hf (by omega) (by omega) (x:=x) hln i1 hA).Oj
   obtain⟨hlo,hhi,hk6,_,_,hlv⟩:=distO_some hA
   obtain⟨t,ht⟩:=Wt_of_W (types:=x.types) (dir:=x.dir) (E:=g.edges) (k:=k) (a:=x.fr) (b:=x.to) hlv
   have hmem:(⟨[x.fr]++t,WalkS.wk (ok_ids hg) hk6 i1 ⟨t,rfl,ht⟩⟩:Wk)∈L:=(hL.mem _).2 ⟨t,rfl,ht⟩
   have hpos:=List.length_pos_of_mem hmem
   replace a1:=a1.up Le
   rw[hA]at d1
   unfold UG at d1
   dsimp only at d1
   clear hmem
   (conv=>whnf);repeat' (first|((first|refine Aa pf ?_|refine Aa r0 ?_|refine Aa d1 ?_|refine Aa a1 ?_);rintro _ rfl;conv=>whnf)|(refine kA ?_;conv=>whnf)|(refine Br.mk (fun hc=>?_) fun hc=>?_<;>first|exact hc.elim|conv=>whnf)|(refine kB ?_))
   all_goals first|(exfalso;omega)|exact absurd rfl (by assumption)|skip
   clear pf r0 d1 a1
   refine Ae (fun m env s=>∃(i c:Nat),m=L.length-i∧env=[(2,.ref 0 0 0 0),(3,.ref 1 1 0 0),(5,.int .i64 k),(7,.sl n1 (vs Wk.av L)),(8,.int .i64 i)]∧s=⟨[.arr 0 4 true true [g.av],.arr 1 6 true true [x.av]],c⟩) ?_ _ _ _ ⟨0,_,rfl,rfl,rfl⟩
   rintro _ _ _ ⟨i,c,rfl,rfl,rfl⟩
   refine⟨rfl,?_⟩
   by_cases hil:i<L.length
   ·obtain⟨t2,e2,ht2⟩:=(hL.mem L[i]).1 (List.getElem_mem hil)
    have hlen:=ht2.len
    have hll:(L[i]).l.length=2*k+1:=by rw[e2];simp[hlen]
    have hwl:=wav_len (l:=(L[i]).l) (k:=5)
    have m0:nth (wav 5 (L[i]).l) 0=some (gvK 5 x.fr).av:=wav_nth (by rw[e2];rfl)
    have m1:nth (wav 5 (L[i]).l) (Int.toNat (2*(k:Int)))=some (gvK 5 x.to).av:=by
     rw[show Int.toNat (2*(k:Int))=2*k by omega]
     have h:=wav_nth (l:=(L[i]).l) (i:=2*k) (z:=x.to) (by rw[e2];exact ht2.last)
     rw[if_pos (by omega)]at h
     exact h
    have hstp:=fun j hj=>ht2.nth j hj
    rw[show x.fr::t2=(L[i]).l from e2.symm]at hstp
    have hn:nth (vs Wk.av L) (Int.toNat (Nat.cast i))=some (.agg [.int .i64 7,.int .i64 0,.int .i64 0,.str [],.sl true (wav 5 (L[i]).l)]):=nVN (f:=Wk.av) hil
    by_cases h0:i=0
    ·(conv=>whnf);repeat' (first|(apply AU;(· exact hn);conv=>whnf)|(apply AU;(· exact m0);conv=>whnf)|(apply AU;(· exact m1);conv=>whnf)|(refine kA ?_;conv=>whnf)|(refine Br.mk (fun hc=>?_) fun hc=>?_<;>first|exact hc.elim|conv=>whnf)|(refine kB ?_))
     all_goals first|(exfalso;omega)|exact absurd rfl (by assumption)|skip
     refine rightI hg (by omega) hln hk6 hll hstp fun c tl=>?_
     (conv=>whnf);repeat' (first  |(refine kA ?_;conv=>whnf)|(refine Br.mk (fun hc=>?_) fun hc=>?_<;>first|exact hc.elim|conv=>whnf)|(refine kB ?_))
     all_goals first
        |(exfalso;omega)
        |exact again.mk ⟨_,by omega,i+1,_,rfl,rfl,rfl⟩
    ·have ho:Ad3 (L[i-1]'(by omega)) L[i]<0:=List.pairwise_iff_getElem.1 hL.inc (i-1) i (by omega) hil (by omega)
     have po:=(@orderRWk (L[i-1]'(by omega)) L[i]).up Le
     generalize Ad3 (L[i-1]'(by omega)) L[i]=zz at po ho
     have hn3:nth (vs Wk.av L) (Int.toNat ((Nat.cast i:Int)-1))=some (L[i-1]'(by omega)).av:=by
        rw[show Int.toNat ((Nat.cast i:Int)-1)=Int.toNat (Nat.cast (i-1)) by omega];exact nVN (by omega)
     (conv=>whnf);repeat' (first|(apply AU;(· exact hn);conv=>whnf)|(apply AU;(· exact hn3);conv=>whnf)|(apply AU;(· exact m0);conv=>whnf)|(apply AU;(· exact m1);conv=>whnf)|(refine Aa po ?_;rintro _ rfl;conv=>whnf)|(refine kA ?_;conv=>whnf)|(refine Br.mk (fun hc=>?_) fun hc=>?_<;>first|exact hc.elim|conv=>whnf)|(refine kB ?_))
     all_goals first|(exfalso;omega)|exact absurd rfl (by assumption)|skip
     refine rightI hg (by omega) hln hk6 hll hstp fun c tl=>?_
     (conv=>whnf);repeat' (first  |(refine kA ?_;conv=>whnf)|(refine Br.mk (fun hc=>?_) fun hc=>?_<;>first|exact hc.elim|conv=>whnf)|(refine kB ?_))
     all_goals first
        |(exfalso;omega)
        |exact again.mk ⟨_,by omega,i+1,_,rfl,rfl,rfl⟩
   ·(conv=>whnf);repeat' (first|(refine Aa D6 ?_;rintro _ rfl;conv=>whnf)|(refine kA ?_;conv=>whnf)|(refine Br.mk (fun hc=>?_) fun hc=>?_<;>first|exact hc.elim|conv=>whnf)|(refine kB ?_))
    all_goals first|rfl|(exfalso;omega)
end AI
end Go.Proofs.YthjeehjphekjmaaGreatDoor
