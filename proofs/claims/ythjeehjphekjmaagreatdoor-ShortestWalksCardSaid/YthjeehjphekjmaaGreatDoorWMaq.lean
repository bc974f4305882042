/- Steps, the first of all walks, walks edge by edge. The laws ShortestWalks and ShortestRight, about the evaluator. -/
import Derived.Test.YthjeehjphekjmaaGreatDoorWMap
set_option linter.unusedVariables false
set_option maxRecDepth 4000
namespace Go.Proofs.YthjeehjphekjmaaGreatDoor
namespace AI
theorem Wt.last {st:Int→List (Int×Int)}:∀{k:Nat} {a b:Int} {t:List Int},Wt st k a b t→(a::t)[2*k]?=some b
 |0,a,b,t,h=>by rw[h.1];rfl
 |k+1,a,b,t,⟨e,n,r,_,h1,h2⟩=>by
  have:=h2.last
  rw[h1,show 2*(k+1)=2*k+1+1 by omega,List.getElem?_cons_succ,List.getElem?_cons_succ,this]
theorem Wt.nth {st:Int→List (Int×Int)}:∀{k:Nat} {a b:Int} {t:List Int},Wt st k a b t→∀j,j<k→∃p e q,(a::t)[2*j]?=some p∧(a::t)[2*j+1]?=some e∧(a::t)[2*j+2]?=some q∧(e,q)∈st p
 |k+1,a,b,t,⟨e,n,r,h0,h1,h2⟩,0,_=>⟨a,e,n,rfl,by rw[h1];rfl,by rw[h1];rfl,h0⟩
 |k+1,a,b,t,⟨e,n,r,h0,h1,h2⟩,j+1,hj=>by
  obtain⟨p,e',q,g1,g2,g3,g4⟩:=h2.nth j (by omega)
  refine⟨p,e',q,?_,?_,?_,g4⟩
  ·rw[h1,show 2*(j+1)=2*j+1+1 by omega,List.getElem?_cons_succ,List.getElem?_cons_succ,g1]
  ·rw[h1,show 2*(j+1)+1=2*j+1+1+1 by omega,List.getElem?_cons_succ,List.getElem?_cons_succ,g2]
  ·rw[h1,show 2*(j+1)+2=2*j+2+1+1 by omega,List.getElem?_cons_succ,List.getElem?_cons_succ,g3]
section
variable {g:GG} {x:Abh}
theorem allPn (hg:g.ok) (hf:U8 g) (hl:g.nodes.length<2^62) (hE:g.edges.length≤8) (hT:x.types.length<2^63) (hk:FC g x.types x.dir x.fr x.to x.lo x.hi=none):
 Au (Ac tab) 17 [g.av,.int .i64 x.fr,.int .i64 x.to,.sl x.tn (vs .str x.types),.int .i64 x.dir,.int .i64 x.lo,.int .i64 x.hi] (· =.sl false []):=by
 have pD:=UF (g:=g) hg hf hl (by omega) (types:=x.types) (tn:=x.tn) hT (dir:=x.dir) (a:=x.fr) (b:=x.to) (lo:=x.lo) (hi:=x.hi)
 rw[hk]at pD
 unfold UG at pD
 dsimp only at pD
 refine Af rfl rfl ?_
 (conv=>whnf);repeat' (first|(refine Aa pD ?_;rintro _ rfl;conv=>whnf)|(refine kA ?_;conv=>whnf)|(refine Br.mk (fun hc=>?_) fun hc=>?_<;>first|exact hc.elim|conv=>whnf)|(refine kB ?_))
 all_goals first|rfl|exact absurd rfl (by assumption)|(exfalso;omega)
theorem allRn (hg:g.ok) (hl:g.nodes.length<2^62) (hE:g.edges.length≤8) (hT:x.types.length<2^63) (hk:FC g x.types x.dir x.fr x.to x.lo x.hi=none):
 Au (Ac tab) 26 [g.av,.int .i64 x.fr,.int .i64 x.to,.sl x.tn (vs .str x.types),.int .i64 x.dir,.int .i64 x.lo,.int .i64 x.hi] (· =.sl false []):=by
 have pD:=DistR (g:=g) hg hl (by omega) (types:=x.types) (tn:=x.tn) hT (dir:=x.dir) (a:=x.fr) (b:=x.to) (lo:=x.lo) (hi:=x.hi)
 rw[hk]at pD
 unfold UG at pD
 dsimp only at pD
 refine Af rfl rfl ?_
 (conv=>whnf);repeat' (first|(refine Aa pD ?_;rintro _ rfl;conv=>whnf)|(refine kA ?_;conv=>whnf)|(refine Br.mk (fun hc=>?_) fun hc=>?_<;>first|exact hc.elim|conv=>whnf)|(refine kB ?_))
 all_goals first|rfl|exact absurd rfl (by assumption)|(exfalso;omega)
theorem anyNo (hA:Au (Ac tab) 17 [g.av,.int .i64 x.fr,.int .i64 x.to,.sl x.tn (vs .str x.types),.int .i64 x.dir,.int .i64 x.lo,.int .i64 x.hi] (· =.sl false [])):
 Au (Ac tab) 27 [g.av,.int .i64 x.fr,.int .i64 x.to,.sl x.tn (vs .str x.types),.int .i64 x.dir,.int .i64 x.lo,.int .i64 x.hi] (· =.CO [.agg [.int .i64 0,.int .i64 0,.int .i64 0,.str [],.sl false []],.bool false]):=by
 refine Af rfl rfl ?_
 (conv=>whnf);repeat' (first|(refine Aa hA ?_;rintro _ rfl;conv=>whnf)|(refine kA ?_;conv=>whnf)|(refine Br.mk (fun hc=>?_) fun hc=>?_<;>first|exact hc.elim|conv=>whnf)|(refine kB ?_))
 all_goals first|rfl|exact absurd rfl (by assumption)|(exfalso;omega)
theorem anyYes {nn:Bool} {y:Wk} {L:List Wk} (hl:L.length<2^62) (hA:Au (Ac tab) 17 [g.av,.int .i64 x.fr,.int .i64 x.to,.sl x.tn (vs .str x.types),.int .i64 x.dir,.int .i64 x.lo,.int .i64 x.hi] (· =.sl nn (vs Wk.av (y::L)))):
 Au (Ac tab) 27 [g.av,.int .i64 x.fr,.int .i64 x.to,.sl x.tn (vs .str x.types),.int .i64 x.dir,.int .i64 x.lo,.int .i64 x.hi] (· =.CO [y.av,.bool true]):=by
 have hlen:(vs Wk.av (y::L)).length=L.length+1:=lV _
 have hn:nth (vs Wk.av (y::L)) 0=some y.av:=rfl
 generalize hV:vs Wk.av (y::L)=V at*
 refine Af rfl rfl ?_
 (conv=>whnf);repeat' (first|(refine Aa hA ?_;rintro _ rfl;conv=>whnf)|(apply AU;(· exact hn);conv=>whnf)|(refine kA ?_;conv=>whnf)|(refine Br.mk (fun hc=>?_) fun hc=>?_<;>first|exact hc.elim|conv=>whnf)|(refine kB ?_))
 all_goals first|rfl|exact absurd rfl (by assumption)|(exfalso;omega)
end
theorem ord04_same (y:Wk):Au (Ac tab) 28 [y.av,y.av] (· =.int .i64 0):=by
 have h:=orderVR 2 (wk_ok y) (wk_ok y) (wk_dep y) (wk_dep y)
 rw[show Ad4 2 (gvP y.l) (gvP y.l)=0 by have:=(pc_cmpV 2).anti (gvP y.l) (gvP y.l);omega]at h
 exact h
theorem ord04_zero:Au (Ac tab) 28 [.agg [.int .i64 0,.int .i64 0,.int .i64 0,.str [],.sl false []],.agg [.int .i64 0,.int .i64 0,.int .i64 0,.str [],.sl false []]] (· =.int .i64 0):=⟨_,⟨60,by kernel_rfl⟩,rfl⟩
set_option maxRecDepth 10000 in
set_option maxHeartbeats 8000000 in
theorem law_walks:∀xs,likes Tryz.prog [25,28] xs→AQ (Ac MH) 7 xs ⟨[],0⟩ fun out _=>out=.ok (.bool true):=by
 intro xs h
 match xs,h with
 |[y,z],h=>
  obtain⟨h1,h2,_⟩:=h
  obtain⟨g,rfl,hg,hf⟩:=JQ h1
  obtain⟨x,rfl,i1,i2,i3,i4,i5,hT⟩:=PS h2
  have pf:=(AcX hg).up Le
  have hln:=hT
  unfold Ln at hln
  have hEl:=hg.2.2.2.1
  unfold Ln at hEl
  refine Ar rfl rfl ?_
  by_cases hfew:g.nodes.length≤40∧g.edges.length≤60
  case neg=>
   rw[decide_eq_false hfew]at pf
   (conv=>whnf);repeat' (first|((first|refine Aa pf ?_|refine Aa D6 ?_);rintro _ rfl;conv=>whnf)|(refine kA ?_;conv=>whnf)|(refine Br.mk (fun hc=>?_) fun hc=>?_<;>first|exact hc.elim|conv=>whnf)|(refine kB ?_))
   all_goals first|rfl|(exfalso;omega)
  rw[decide_eq_true hfew]at pf
  obtain⟨gN,gE⟩:=hfew
  by_cases h8:g.edges.length>8
  ·(conv=>whnf);repeat' (first|((first|refine Aa pf ?_|refine Aa D6 ?_);rintro _ rfl;conv=>whnf)|(refine kA ?_;conv=>whnf)|(refine Br.mk (fun hc=>?_) fun hc=>?_<;>first|exact hc.elim|conv=>whnf)|(refine kB ?_))
   all_goals first|rfl|(exfalso;omega)
  by_cases h20:x.types.length>20
  ·(conv=>whnf);repeat' (first|((first|refine Aa pf ?_|refine Aa D6 ?_);rintro _ rfl;conv=>whnf)|(refine kA ?_;conv=>whnf)|(refine Br.mk (fun hc=>?_) fun hc=>?_<;>first|exact hc.elim|conv=>whnf)|(refine kB ?_))
   all_goals first|rfl|(exfalso;omega)
  obtain⟨_,⟨lb,rfl⟩,q0⟩:=(lightP (g:=g) hg (by omega) (by omega) (x:=x) hln).Oj
  have r0:=q0.up Le
  cases lb with
  |false=>
   (conv=>whnf);repeat' (first|((first|refine Aa pf ?_|refine Aa r0 ?_|refine Aa D6 ?_);rintro _ rfl;conv=>whnf)|(refine kA ?_;conv=>whnf)|(refine Br.mk (fun hc=>?_) fun hc=>?_<;>first|exact hc.elim|conv=>whnf)|(refine kB ?_))
   all_goals first|rfl|(exfalso;omega)|exact absurd rfl (by assumption)
  |true=>
  have d1:=(UF (g:=g) hg hf (by omega) (by omega) (types:=x.types) (tn:=x.tn) hln (dir:=x.dir) (a:=x.fr) (b:=x.to) (lo:=x.lo) (hi:=x.hi)).up Le
  have d2:=(DistR (g:=g) hg (by omega) (by omega) (types:=x.types) (tn:=x.tn) hln (dir:=x.dir) (a:=x.fr) (b:=x.to) (lo:=x.lo) (hi:=x.hi)).up Le
  cases hA:FC g x.types x.dir x.fr x.to x.lo x.hi with
  |none=>
   have a1:=allPn (g:=g) hg hf (by omega) (by omega) (x:=x) hln hA
   have a2:=(allRn (g:=g) hg (by omega) (by omega) (x:=x) hln hA).up Le
   have a3:=(anyNo (x:=x) a1).up Le
   have a4:=ord04_zero.up Le
   replace a1:=a1.up Le
   rw[hA]at d1 d2
   unfold UG at d1 d2
   dsimp only at d1 d2
   (conv=>whnf);repeat' (first|((first|refine Aa pf ?_|refine Aa r0 ?_|refine Aa d1 ?_|refine Aa d2 ?_|refine Aa a1 ?_|refine Aa a2 ?_|refine Aa a3 ?_|refine Aa a4 ?_);rintro _ rfl;conv=>whnf)|(refine kA ?_;conv=>whnf)|(refine Br.mk (fun hc=>?_) fun hc=>?_<;>first|exact hc.elim|conv=>whnf)|(refine kB ?_))
   all_goals first|(exfalso;omega)|exact absurd rfl (by assumption)|skip
   refine Iz ?_ rfl
   (conv=>whnf);repeat' (first|(refine Aa D6 ?_;rintro _ rfl;conv=>whnf)|(refine kA ?_;conv=>whnf)|(refine Br.mk (fun hc=>?_) fun hc=>?_<;>first|exact hc.elim|conv=>whnf)|(refine kB ?_))
   all_goals first|rfl|(exfalso;omega)|exact absurd rfl (by assumption)
  |some k=>
   obtain⟨_,⟨n1,L,rfl,hLl,hL⟩,a1⟩:=(allP (g:=g) hg hf (by omega) (by omega) (x:=x) hln i1 hA).Oj
   obtain⟨_,⟨n2,L2,rfl,_,hL2⟩,q2⟩:=(allR (g:=g) hg (by omega) (by omega) (x:=x) hln i1 hA).Oj
   obtain rfl:=hL.unique hL2
   obtain⟨_,_,hk6,_,_,hlv⟩:=distO_some hA
   obtain⟨t,ht⟩:=Wt_of_W (types:=x.types) (dir:=x.dir) (E:=g.edges) (k:=k) (a:=x.fr) (b:=x.to) hlv
   have hmem:(⟨[x.fr]++t,WalkS.wk (ok_ids hg) hk6 i1 ⟨t,rfl,ht⟩⟩:Wk)∈L:=(hL.mem _).2 ⟨t,rfl,ht⟩
   obtain⟨y,L',rfl⟩:∃y L',L=y::L':=by
     cases L with
     |nil=>cases hmem
     |cons y L'=>exact⟨y,L',rfl⟩
   have a3:=(anyYes (x:=x) (by simp at hLl;omega) a1).up Le
   replace a1:=a1.up Le
   have a2:=q2.up Le
   rw[hA]at d1 d2
   unfold UG at d1 d2
   dsimp only at d1 d2
   have a4:=(ord04_same y).up Le
   have hlen:(vs Wk.av (y::L')).length=(y::L').length:=lV _
   have hn:nth (vs Wk.av (y::L')) 0=some y.av:=rfl
   have hpos:0<(y::L').length:=by simp
   have hat:∀i,∀h:i<(y::L').length,nth (vs Wk.av (y::L')) (Int.toNat (Nat.cast i))=some ((y::L')[i]).av:=fun i h=>nVN h
   clear hL hL2 hmem q2 q0
   generalize hV:vs Wk.av (y::L')=V at*
   generalize hN:y::L'=N at*
   (conv=>whnf);repeat' (first|((first|refine Aa pf ?_|refine Aa r0 ?_|refine Aa d1 ?_|refine Aa d2 ?_|refine Aa a1 ?_|refine Aa a2 ?_|refine Aa a3 ?_|refine Aa a4 ?_);rintro _ rfl;conv=>whnf)|(apply AU;(· exact hn);conv=>whnf)|(refine kA ?_;conv=>whnf)|(refine Br.mk (fun hc=>?_) fun hc=>?_<;>first|exact hc.elim|conv=>whnf)|(refine kB ?_))
   all_goals first|(exfalso;omega)|exact absurd rfl (by assumption)|skip
   refine Ae (fun m env s=>∃(i c:Nat),m=N.length-i∧env=[(9,.sl n1 V),(10,.sl n2 V),(13,.int .i64 i)]∧s=⟨[.arr 0 4 true true [g.av],.arr 1 6 true true [x.av],.arr 2 5 true true [y.av]],c⟩) ?_ _ _ _ ⟨0,_,rfl,rfl,rfl⟩
   rintro _ _ _ ⟨i,c,rfl,rfl,rfl⟩
   refine⟨rfl,?_⟩
   by_cases hil:i<N.length
   ·have po:=(ord04_same N[i]).up Le
    have hn2:=hat i hil
    (conv=>whnf);repeat' (first|(apply AU;(· exact hn2);conv=>whnf)|(refine Aa po ?_;rintro _ rfl;conv=>whnf)|(refine kA ?_;conv=>whnf)|(refine Br.mk (fun hc=>?_) fun hc=>?_<;>first|exact hc.elim|conv=>whnf)|(refine kB ?_))
    all_goals first
     |(exfalso;omega)
     |exact absurd rfl (by assumption)
     |exact again.mk ⟨_,by omega,i+1,_,rfl,rfl,rfl⟩
   ·(conv=>whnf);repeat' (first|(refine Aa D6 ?_;rintro _ rfl;conv=>whnf)|(refine kA ?_;conv=>whnf)|(refine Br.mk (fun hc=>?_) fun hc=>?_<;>first|exact hc.elim|conv=>whnf)|(refine kB ?_))
    all_goals first|rfl|(exfalso;omega)
end AI
end Go.Proofs.YthjeehjphekjmaaGreatDoor
