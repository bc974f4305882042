/- The laws ShortestLevels and ShortestTurned, about the evaluator. -/
import Derived.Test.YthjeehjphekjmaaGreatDoorTMaj
import Derived.Test.YthjeehjphekjmaaGreatDoorTCk8
set_option linter.unusedVariables false
set_option maxRecDepth 4000
namespace Go.Proofs.YthjeehjphekjmaaGreatDoor
namespace AI
theorem Rj {g:GG} {types:List (List UInt8)} {d e a b lo hi:Int} (h:∀a x,x∈CY types d g.edges a↔a∈CY types e g.edges x) (ha:EH g a) (hb:EH g b):FC g types d a b lo hi=FC g types e b a lo hi:=by
 unfold FC
 by_cases hc:0≤lo∧lo≤hi∧hi≤6
 ·rw[if_pos ⟨hc.1,hc.2.1,hc.2.2,ha⟩,if_pos ⟨hc.1,hc.2.1,hc.2.2,hb⟩]
  congr 1
  funext k
  exact decide_eq_decide.2 (show b∈Ea (CY types d g.edges) a k↔a∈Ea (CY types e g.edges) b k from VK h)
 ·rw[if_neg (fun k=>hc ⟨k.1,k.2.1,k.2.2.1⟩),if_neg (fun k=>hc ⟨k.1,k.2.1,k.2.2.1⟩)]
theorem Zj {g:GG} {types:List (List UInt8)} {d e a b lo hi:Int} (h:∀a x,x∈CY types d g.edges a→x∈CY types e g.edges a) {k:Nat} (hk:FC g types d a b lo hi=some k):∃j,FC g types e a b lo hi=some j∧j≤k:=by
 unfold FC at hk ⊢
 split at hk
 ·rename_i hc
  rw[if_pos hc]
  obtain⟨k1,k2,k3,k4⟩:=H7.1 hk
  have k5:=of_decide_eq_true k3
  have k6:b∈Ea (CY types e g.edges) a k:=Zk h k5
  have hm:decide (b∈Ea (CY types e g.edges) a k)=true:=decide_eq_true k6
  cases hj:Ji (fun k=>decide (b∈Ea (CY types e g.edges) a k)) lo.toNat (hi-lo+1).toNat with
  |none=>have:=JR.1 hj k k1 k2;rw[hm]at this;cases this
  |some j=>
   refine⟨j,rfl,?_⟩
   obtain⟨j1,j2,j3,j4⟩:=H7.1 hj
   rcases Nat.lt_or_ge k j with q|q
   ·have:=j4 k k1 q;rw[hm]at this;cases this
   ·exact q
 ·cases hk
set_option maxRecDepth 10000 in
set_option maxHeartbeats 4000000 in
theorem Vb:∀xs,likes Tryz.prog [25,28] xs→AQ (Ac MH) 6 xs ⟨[],0⟩ fun out _=>out=.ok (.bool true):=by
 intro xs h
 match xs,h with
 |[y,z],h=>
  obtain⟨h1,h2,_⟩:=h
  obtain⟨g,rfl,hg,hf⟩:=JQ h1
  obtain⟨x,rfl,i1,i2,i3,i4,i5,hT⟩:=PS h2
  have pf:=(AcX hg).up Le
  have hln:=hT
  unfold Ln at hln
  refine Ar rfl rfl ?_
  by_cases hfew:g.nodes.length≤40∧g.edges.length≤60
  case neg=>
   rw[decide_eq_false hfew]at pf
   (conv=>whnf);repeat' (first|((first|refine Aa pf ?_|refine Aa D6 ?_);rintro _ rfl;conv=>whnf)|(refine kA ?_;conv=>whnf)|(refine Br.mk (fun hc=>?_) fun hc=>?_<;>first|exact hc.elim|conv=>whnf)|(refine kB ?_))
   all_goals first|rfl|(exfalso;omega)
  rw[decide_eq_true hfew]at pf
  obtain⟨gN,gE⟩:=hfew
  by_cases h20:x.types.length>20
  ·(conv=>whnf);repeat' (first|((first|refine Aa pf ?_|refine Aa D6 ?_);rintro _ rfl;conv=>whnf)|(refine kA ?_;conv=>whnf)|(refine Br.mk (fun hc=>?_) fun hc=>?_<;>first|exact hc.elim|conv=>whnf)|(refine kB ?_))
   all_goals first|rfl|(exfalso;omega)
  have pc:=(Zl hg).up Le
  by_cases Ib:Ej g=0
  case neg=>
   (conv=>whnf);repeat' (first|((first|refine Aa pf ?_|refine Aa pc ?_|refine Aa D6 ?_);rintro _ rfl;conv=>whnf)|(refine kA ?_;conv=>whnf)|(refine Br.mk (fun hc=>?_) fun hc=>?_<;>first|exact hc.elim|conv=>whnf)|(refine kB ?_))
   all_goals first|rfl|(exfalso;omega)
  rw[Ib]at pc
  obtain⟨_,⟨n1,rfl⟩,q1⟩:=(TK (g:=g) (by omega) (id:=x.to)).Oj
  obtain⟨_,⟨n2,rfl⟩,q2⟩:=(TK (g:=g) (by omega) (id:=x.fr)).Oj
  by_cases hb:EH g x.to
  case neg=>
   rw[decide_eq_false hb]at q1
   have r1:=q1.up Le
   (conv=>whnf);repeat' (first|((first|refine Aa pf ?_|refine Aa pc ?_|refine Aa r1 ?_|refine Aa D6 ?_);rintro _ rfl;conv=>whnf)|(refine kA ?_;conv=>whnf)|(refine Br.mk (fun hc=>?_) fun hc=>?_<;>first|exact hc.elim|conv=>whnf)|(refine kB ?_))
   all_goals first|rfl|(exfalso;omega)
  rw[decide_eq_true hb]at q1
  have r1:=q1.up Le
  by_cases ha:EH g x.fr
  case neg=>
   rw[decide_eq_false ha]at q2
   have r2:=q2.up Le
   (conv=>whnf);repeat' (first|((first|refine Aa pf ?_|refine Aa pc ?_|refine Aa r1 ?_|refine Aa r2 ?_|refine Aa D6 ?_);rintro _ rfl;conv=>whnf)|(refine kA ?_;conv=>whnf)|(refine Br.mk (fun hc=>?_) fun hc=>?_<;>first|exact hc.elim|conv=>whnf)|(refine kB ?_))
   all_goals first|rfl|(exfalso;omega)
  rw[decide_eq_true ha]at q2
  have r2:=q2.up Le
  have d1:=(UF (g:=g) hg hf (by omega) (by omega) (types:=x.types) (tn:=x.tn) hln (dir:=1) (a:=x.fr) (b:=x.to) (lo:=x.lo) (hi:=x.hi)).up Le
  have d2:=(UF (g:=g) hg hf (by omega) (by omega) (types:=x.types) (tn:=x.tn) hln (dir:=2) (a:=x.to) (b:=x.fr) (lo:=x.lo) (hi:=x.hi)).up Le
  have d3:=(UF (g:=g) hg hf (by omega) (by omega) (types:=x.types) (tn:=x.tn) hln (dir:=3) (a:=x.fr) (b:=x.to) (lo:=x.lo) (hi:=x.hi)).up Le
  have d4:=(UF (g:=g) hg hf (by omega) (by omega) (types:=x.types) (tn:=x.tn) hln (dir:=3) (a:=x.to) (b:=x.fr) (lo:=x.lo) (hi:=x.hi)).up Le
  rw[← Rj (d:=1) (e:=2) (fun a x=>Zm a x) ha hb]at d2
  rw[← Rj (d:=3) (e:=3) (fun a x=>Zn a x) ha hb]at d4
  have hsub:∀k,FC g x.types 1 x.fr x.to x.lo x.hi=some k→∃j,FC g x.types 3 x.fr x.to x.lo x.hi=some j∧j≤k:=fun k hk=>Zj (d:=1) (e:=3) (fun a x h=>AaS a x h) hk
  cases hA:FC g x.types 1 x.fr x.to x.lo x.hi with
  |none=>
   rw[hA]at d1 d2
   cases hB:FC g x.types 3 x.fr x.to x.lo x.hi with
   |none=>
    rw[hB]at d3 d4
    unfold UG at d1 d2 d3 d4
    dsimp only at d1 d2 d3 d4
    (conv=>whnf);repeat' (first|((first|refine Aa pf ?_|refine Aa pc ?_|refine Aa r1 ?_|refine Aa r2 ?_|refine Aa d1 ?_|refine Aa d2 ?_|refine Aa d3 ?_|refine Aa d4 ?_|refine Aa D6 ?_);rintro _ rfl;conv=>whnf)|(refine kA ?_;conv=>whnf)|(refine Br.mk (fun hc=>?_) fun hc=>?_<;>first|exact hc.elim|conv=>whnf)|(refine kB ?_))
    all_goals first|rfl|(exfalso;omega)|exact absurd rfl (by assumption)
   |some k3=>
    rw[hB]at d3 d4
    unfold UG at d1 d2 d3 d4
    dsimp only at d1 d2 d3 d4
    (conv=>whnf);repeat' (first|((first|refine Aa pf ?_|refine Aa pc ?_|refine Aa r1 ?_|refine Aa r2 ?_|refine Aa d1 ?_|refine Aa d2 ?_|refine Aa d3 ?_|refine Aa d4 ?_|refine Aa D6 ?_);rintro _ rfl;conv=>whnf)|(refine kA ?_;conv=>whnf)|(refine Br.mk (fun hc=>?_) fun hc=>?_<;>first|exact hc.elim|conv=>whnf)|(refine kB ?_))
    all_goals first|rfl|(exfalso;omega)|exact absurd rfl (by assumption)
  |some k=>
   obtain⟨k3,hB,hle⟩:=hsub k hA
   rw[hA]at d1 d2
   rw[hB]at d3 d4
   unfold UG at d1 d2 d3 d4
   dsimp only at d1 d2 d3 d4
   (conv=>whnf);repeat' (first|((first|refine Aa pf ?_|refine Aa pc ?_|refine Aa r1 ?_|refine Aa r2 ?_|refine Aa d1 ?_|refine Aa d2 ?_|refine Aa d3 ?_|refine Aa d4 ?_|refine Aa D6 ?_);rintro _ rfl;conv=>whnf)|(refine kA ?_;conv=>whnf)|(refine Br.mk (fun hc=>?_) fun hc=>?_<;>first|exact hc.elim|conv=>whnf)|(refine kB ?_))
   all_goals first|rfl|(exfalso;omega)|exact absurd rfl (by assumption)
end AI
end Go.Proofs.YthjeehjphekjmaaGreatDoor
