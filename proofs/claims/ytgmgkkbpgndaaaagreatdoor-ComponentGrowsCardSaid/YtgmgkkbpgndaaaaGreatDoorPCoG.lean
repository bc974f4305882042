/- The law ComponentGrows, about the evaluator. -/
import Derived.Test.YtgmgkkbpgndaaaaGreatDoorPMao
set_option linter.unusedVariables false
set_option maxRecDepth 4000
namespace Go.Proofs.YtgmgkkbpgndaaaaGreatDoor
namespace AI
set_option maxHeartbeats 2000000 in
theorem Aaz:∀xs,likes Tryz.prog [30,3,3] xs→AQ (Ad tab) 6 xs ⟨[],0⟩ fun out _=>out=.ok (.bool true):=by
 intro xs h
 match xs,h with
 |[x,y,z],h=>
  obtain⟨h1,h2,h3,_⟩:=h
  obtain⟨g,rfl,hg⟩:=QD h1
  obtain⟨a,rfl,ha⟩:=Uh h2
  obtain⟨b,rfl,hb⟩:=Uh h3
  obtain⟨_,⟨bs,rfl,hs⟩,p0⟩:=(Ab1 hg).He
  refine Am rfl rfl ?_
  cases bs with
  |false=>
   (conv=>whnf);repeat' (first|((first|refine Aa OH ?_|refine Aa p0 ?_);rintro _ rfl;conv=>whnf)|(refine kA ?_;conv=>whnf)|(refine Br.mk (fun hc=>?_) fun hc=>?_<;>first|exact hc.elim|conv=>whnf)|(refine kB ?_))
   all_goals first|rfl
  |true=>
   obtain⟨hN,hE⟩:=hs rfl
   obtain⟨c,hcd⟩:∃c:GC,c=⟨6,g.Bq,a,b,[84],⟨0,0,0,[],false,[]⟩⟩:=⟨_,rfl⟩
   have hc:c.ok:=by
     subst hcd
     have hx:=hg.2.2.2.2.2.2.2
     have i0:I64 0:=by unfold I64;omega
     have i6:I64 6:=by unfold I64;omega
     exact⟨i6,hx,ha,hb,by unfold Ln;simp,i0,i0,i0,by unfold Ln;simp,by unfold Ln;simp,fun _=>rfl,fun x hx=>by cases hx⟩
   have hav:c.av=.agg [.int .i64 6,.int .i64 g.Bq,.int .i64 a,.int .i64 b,.str [84],.int .i64 0,.int .i64 0,.int .i64 0,.str [],.sl false []]:=by subst hcd;rfl
   have p1:=AbI hg hc
   rw[hav]at p1
   obtain⟨h,hh⟩:∃h,(BK g c).1=h:=⟨_,rfl⟩
   obtain⟨e,he⟩:∃e,(BK g c).2=e:=⟨_,rfl⟩
   rw[hh,he]at p1
   by_cases h0:e=0
   ·subst h0
    have hok:h.ok:=by rw[← hh];exact Ue hg hc he
    have hck:=(LP he).1
    have Yo:Ba h=0:=by rw[← hh];exact Ib he
    obtain⟨hnn,_,A,B,hA,hB⟩:=add_edge (c:=c) (by rw[hcd]) he
    rw[hh]at hnn hB
    have hEl:h.edges.length≤41:=by
     rw[hB]
     have:g.edges.length=A.length+B.length:=by rw[hA,List.length_append]
     simp
     omega
    have hNl:h.nodes.length≤20:=by rw[hnn];omega
    obtain⟨_,⟨b1,rfl,_⟩,p2⟩:=(Zh (types:=[]) (tn:=false) (by simp) hok (by omega) (by omega)).He
    obtain⟨_,⟨b2,rfl,hb2⟩,p3⟩:=(Zh (types:=[]) (tn:=false) (by simp) hg (by omega) (by omega)).He
    rw[if_pos Yo]at p2
    rw[if_pos hck]at p3 hb2
    have hll:=OG [] g
    have hwa:=WC (types:=[]) (c:=c) (by rw[hcd]) he (.inl rfl)
    rw[hh,show c.fr=a by rw[hcd],show c.to=b by rw[hcd]]at hwa
    obtain⟨_,⟨b3,rfl⟩,p4⟩:=(Ae7 (l:=FH [] g) (a:=a) (b:=b) (nn:=b2) (by omega) hb2).He
    rw[hwa]at p2
    have p5:=Abk (l:=Gn (FH [] g) a b) (m:=Gn (FH [] g) a b) (b1:=b1) (b2:=b3) (by rw[Ui];omega) (by rw[Ui];omega)
    rw[decide_eq_true rfl]at p5
    clear hA hB hwa hh he hnn hcd hav
    (conv=>whnf);repeat' (first|((first|refine Aa OH ?_|refine Aa p0 ?_|refine Aa p1 ?_|refine Aa p2 ?_|refine Aa p3 ?_|refine Aa p4 ?_|refine Aa p5 ?_);rintro _ rfl;conv=>whnf)|(refine kA ?_;conv=>whnf)|(refine Br.mk (fun hc=>?_) fun hc=>?_<;>first|exact hc.elim|conv=>whnf)|(refine kB ?_))
    all_goals first|rfl|(exfalso;omega)
   ·(conv=>whnf);repeat' (first|((first|refine Aa OH ?_|refine Aa p0 ?_|refine Aa p1 ?_);rintro _ rfl;conv=>whnf)|(refine kA ?_;conv=>whnf)|(refine Br.mk (fun hc=>?_) fun hc=>?_<;>first|exact hc.elim|conv=>whnf)|(refine kB ?_))
    all_goals first|rfl|(exfalso;omega)
end AI
end Go.Proofs.YtgmgkkbpgndaaaaGreatDoor
