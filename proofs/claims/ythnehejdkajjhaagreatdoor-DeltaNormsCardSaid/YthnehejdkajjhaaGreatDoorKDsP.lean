/- Runs of changes: valid, in good form, small; graphs but for flags: plain. -/
import Derived.Test.YthnehejdkajjhaaGreatDoorKMam
import Derived.Test.YthnehejdkajjhaaGreatDoorKMan
import Derived.Test.YthnehejdkajjhaaGreatDoorKRcL
set_option linter.unusedVariables false
set_option maxRecDepth 4000
namespace Go.Proofs.YthnehejdkajjhaaGreatDoor
namespace AI
theorem Ahd {L:List GC}:∀{g:GG} {i:Nat},(Jl g L i).2.2=0→FT g L=some (Jl g L i).1:=by
 induction L with
 |nil=>intro g i _;rfl
 |cons c L ih=>
  intro g i h
  rw[Jl]at h ⊢
  rw[FT]
  by_cases h0:(stepG g c).1=0
  ·rw[if_neg (not_not_intro h0)]at h ⊢
   rw[if_pos h0]
   exact ih h
  ·rw[if_pos h0]at h
   exact absurd h h0
theorem Aet {P:GG→Prop} {L:List GC} (hs:∀g c,c∈L→P g→P (stepG g c).2):∀{g h:GG},P g→FT g L=some h→P h:=by
 induction L with
 |nil=>intro g h k e;cases e;exact k
 |cons c L ih=>
  intro g h k e
  rw[FT]at e
  split at e
  ·exact ih (fun g c' hc'=>hs g c' (by simp[hc'])) (hs g c (by simp) k) e
  ·cases e
theorem Chk.run {L:List GC} {g h:GG} (k:Chk g) (e:FT g L=some h):Chk h:=Aet (P:=Chk) (fun g c _ k=>VK k) k e
theorem WQ {L:List GC} {g h:GG} (hg:g.ok) (k:Chk g) (hL:∀c∈L,c.ok) (e:FT g L=some h):h.ok:=(Aet (P:=fun g=>g.ok∧Chk g) (fun g c hc k=>⟨Aes k.1 k.2.vg.ask (hL c hc),VK k.2⟩) ⟨hg,k⟩ e).1
theorem Vo {L:List GC}:∀{g h:GG},FT g L=some h→h.nodes.length≤g.nodes.length+L.length∧h.edges.length≤g.edges.length+L.length:=by
 induction L with
 |nil=>intro g h e;cases e;exact⟨by simp,by simp⟩
 |cons c L ih=>
  intro g h e
  rw[FT]at e
  split at e
  ·have h1:=ih e
   have h2:=VP g c
   rw[List.length_cons]
   omega
  ·cases e
theorem RF {g:GG} (ho:g.ok) (hc:Chk g) (hv:QH Ld g) (hN:g.nodes.length≤100) (hE:g.edges.length≤100):CX g:=by
 refine⟨ho,hN,hE,fun n hn=>?_,fun n hn=>?_⟩
 ·have v:=hc.vg.n n hn
  have o:=ho.2.2.1 n hn
  exact⟨o,v.a.lL,v.a.lP,⟨by have:=v.a.lP;omega,fun p hp=>⟨o.2.2.2.2.2.2 p hp,(hv.1 n hn p hp).2⟩⟩,v.pl⟩
 ·have v:=hc.vg.e n hn
  have o:=ho.2.2.2.2.2.1 n hn
  exact⟨o,v.a.lP,⟨by have:=v.a.lP;omega,fun p hp=>⟨o.2.2.2.2.2.2 p hp,(hv.2 n hn p hp).2⟩⟩,v.pl⟩
theorem Aiq {α β:Type} {f:α→β} {l m:List α} (e:l.map f=m.map f) {k:Nat} (h:k<l.length) (h':k<m.length):f l[k]=f m[k]:=by
 have:=congrArg (fun z=>z[k]?) e
 simp only[List.getElem?_map,List.getElem?_eq_getElem h,List.getElem?_eq_getElem h',Option.map_some,Option.some.injEq]at this
 exact this
theorem AcE {k h h':GG} (e:BL h'=BL h) (s:SG k h):SG k h':=by
 have l:=JM e
 refine⟨⟨s.1.1.trans l.1.symm,fun i h1 h2=>?_⟩,s.2.1.trans l.2.symm,fun i h1 h2=>?_⟩
 ·have q:=Aiq (J6 e) h2 (by omega)
  have r:=s.1.2 i h1 (by omega)
  have q1:=congrArg GN.id q
  have q2:=congrArg GN.labels q
  have q3:=congrArg GN.props q
  simp only[ET]at q1 q2 q3
  exact⟨r.1.trans q1.symm,r.2.1.trans q2.symm,by rw[q3];exact r.2.2⟩
 ·have q:=Aiq (J7 e) h2 (by omega)
  have r:=s.2.2 i h1 (by omega)
  have q1:=congrArg GE.id q
  have q2:=congrArg GE.fr q
  have q3:=congrArg GE.to q
  have q4:=congrArg GE.ty q
  have q5:=congrArg GE.props q
  simp only[Gq]at q1 q2 q3 q4 q5
  exact⟨r.1.trans q1.symm,r.2.1.trans q2.symm,r.2.2.1.trans q3.symm,r.2.2.2.1.trans q4.symm,by rw[q5];exact r.2.2.2.2⟩
theorem IC {g h:GG} {L:List GC} (hc:AZ g=0) (e:FT g L=some h):AX g L=(h,L.length,0):=by
 unfold AX
 rw[if_neg (fun k=>k hc),Alz e,Nat.zero_add]
theorem Lc {g:GG} {L:List GC} (h:(AX g L).2.2=0):AZ g=0∧FT g L=some (AX g L).1:=by
 unfold AX at h ⊢
 by_cases h0:AZ g=0
 ·rw[if_neg (fun k=>k h0)]at h ⊢
  exact⟨h0,Ahd h⟩
 ·rw[if_pos h0]at h
  exact absurd h h0
end AI
end Go.Proofs.YthnehejdkajjhaaGreatDoor
