/- The reference's Check of a change. -/
import Derived.Test.YtgmgkkbpgndaaaaGreatDoorPMam
import Derived.Test.YtgmgkkbpgndaaaaGreatDoorPMah
import Derived.Test.YtgmgkkbpgndaaaaGreatDoorPMaj
set_option linter.unusedVariables false
set_option maxRecDepth 4000
namespace Go.Proofs.YtgmgkkbpgndaaaaGreatDoor
namespace AI
theorem idR {z:Int}:Af (Ad tab) 95 [.int .i64 z] (· =.bool (decide (KI z))):=by
 refine Ac rfl rfl ?_
 (conv=>whnf);repeat' (first  |(refine kA ?_;conv=>whnf)|(refine Br.mk (fun hc=>?_) fun hc=>?_<;>first|exact hc.elim|conv=>whnf)|(refine kB ?_))
 all_goals first|exact Bv (by unfold KI;omega)|exact AB (by unfold KI;omega)
theorem AgX {op:Int}:Af (Ad tab) 96 [.int .i64 op] (· =.bool (decide (P5 op))):=by
 refine Ac rfl rfl ?_
 (conv=>whnf);repeat' (first  |(refine kA ?_;conv=>whnf)|(refine Br.mk (fun hc=>?_) fun hc=>?_<;>first|exact hc.elim|conv=>whnf)|(refine kB ?_))
 all_goals first|exact Bv (by unfold P5;omega)|exact AB (by unfold P5;omega)
theorem AeS {op:Int}:Af (Ad tab) 97 [.int .i64 op] (· =.bool (decide (SV op))):=by
 refine Ac rfl rfl ?_
 (conv=>whnf);repeat' (first  |(refine kA ?_;conv=>whnf)|(refine Br.mk (fun hc=>?_) fun hc=>?_<;>first|exact hc.elim|conv=>whnf)|(refine kB ?_))
 all_goals first|exact Bv (by unfold SV;omega)|exact AB (by unfold SV;omega)
theorem EM {c:GC} (h:FP c):Iq c=1:=by unfold Iq;rw[if_pos h]
theorem Adq {c:GC} (h:¬FP c) (h2:P5 c.op∧¬isName c.name):Iq c=6:=by unfold Iq;rw[if_neg h,if_pos h2]
theorem AiH {c:GC} (h:¬FP c) (h2:¬(P5 c.op∧¬isName c.name)) (h3:SV c.op∧¬isNull c.v∧¬DX c.v):Iq c=8:=by unfold Iq;rw[if_neg h,if_neg h2,if_pos h3]
theorem XJ {c:GC} (h:¬FP c) (h2:¬(P5 c.op∧¬isName c.name)) (h3:¬(SV c.op∧¬isNull c.v∧¬DX c.v)):Iq c=0:=by unfold Iq;rw[if_neg h,if_neg h2,if_neg h3]
set_option maxHeartbeats 8000000 in
theorem AfP {c:GC} (h:c.ok):Af (Ad tab) 65 [c.av] (· =.int .i64 (Iq c)):=by
 obtain⟨op,z,fr,to,nm,v⟩:=c
 obtain⟨h1,h2,h3,h4,h5,h6⟩:=h
 have hn:=name2 (s:=nm) (by have:=h5;simp only[Ln]at this;omega)
 have hp:=AbC (v:=v) h6
 have hu:=Aco (g:=v) h6
 have hI:=idR (z:=z)
 have hF:=idR (z:=fr)
 have hT:=idR (z:=to)
 have hN:=AgX (op:=op)
 have hV:=AeS (op:=op)
 clear h1 h2 h3 h4 h5 h6
 have eS:True:=trivial
 by_cases e1:1≤op∧op≤8
 case neg=>
  have hr:Iq ⟨(op:Int),z,fr,to,nm,v⟩=1:=EM (by unfold FP;exact .inl e1)
  rw[hr]
  refine Ac rfl rfl ?_
  show vC _ _ [(0,.agg [.int .i64 (op:Int),.int .i64 z,.int .i64 fr,.int .i64 to,.str nm,.int .i64 v.k,.int .i64 v.n,.int .i64 v.d,.str v.s,.sl v.nn v.l])] _ _
  (conv=>whnf);repeat' (first|((first|refine Aa hI ?_|refine Aa hF ?_|refine Aa hT ?_|refine Aa hN ?_|refine Aa hV ?_|refine Aa hu ?_|refine Aa hn ?_|refine Aa hp ?_);rintro _ rfl;conv=>whnf)|(refine kA ?_;conv=>whnf)|(refine Br.mk (fun hc=>?_) fun hc=>?_<;>first|exact hc.elim|conv=>whnf)|(refine kB ?_))
  all_goals first|rfl|(exfalso;omega)|exact absurd rfl (by assumption)|exact absurd (by assumption) eS|(exfalso;simp_all;done)
 by_cases e2:KI z
 case neg=>
  rw[decide_eq_false e2]at hI
  have hr:Iq ⟨(op:Int),z,fr,to,nm,v⟩=1:=EM (by unfold FP;exact .inr (.inl e2))
  rw[hr]
  refine Ac rfl rfl ?_
  show vC _ _ [(0,.agg [.int .i64 (op:Int),.int .i64 z,.int .i64 fr,.int .i64 to,.str nm,.int .i64 v.k,.int .i64 v.n,.int .i64 v.d,.str v.s,.sl v.nn v.l])] _ _
  (conv=>whnf);repeat' (first|((first|refine Aa hI ?_|refine Aa hF ?_|refine Aa hT ?_|refine Aa hN ?_|refine Aa hV ?_|refine Aa hu ?_|refine Aa hn ?_|refine Aa hp ?_);rintro _ rfl;conv=>whnf)|(refine kA ?_;conv=>whnf)|(refine Br.mk (fun hc=>?_) fun hc=>?_<;>first|exact hc.elim|conv=>whnf)|(refine kB ?_))
  all_goals first|rfl|(exfalso;omega)|exact absurd rfl (by assumption)|exact absurd (by assumption) eS|(exfalso;simp_all;done)
 rw[decide_eq_true e2]at hI
 have hd:op=6∨(op=5∨op=8)∨(op=3∨op=4)∨(op=1∨op=2∨op=7):=by omega
 rcases hd with rfl|hd|hd|hd
 ·have eN:P5 6:=by unfold P5;omega
  have eV:¬SV 6:=by unfold SV;omega
  rw[decide_eq_true eN]at hN
  rw[decide_eq_false eV]at hV
  by_cases e4:isNull v
  case neg=>
   rw[decide_eq_false e4]at hu
   have hr:Iq ⟨(6:Int),z,fr,to,nm,v⟩=1:=EM (by unfold FP;exact .inr (.inr (.inr (.inl ⟨eV,e4⟩))))
   rw[hr]
   refine Ac rfl rfl ?_
   show vC _ _ [(0,.agg [.int .i64 (6:Int),.int .i64 z,.int .i64 fr,.int .i64 to,.str nm,.int .i64 v.k,.int .i64 v.n,.int .i64 v.d,.str v.s,.sl v.nn v.l])] _ _
   (conv=>whnf);repeat' (first|((first|refine Aa hI ?_|refine Aa hF ?_|refine Aa hT ?_|refine Aa hN ?_|refine Aa hV ?_|refine Aa hu ?_|refine Aa hn ?_|refine Aa hp ?_);rintro _ rfl;conv=>whnf)|(refine kA ?_;conv=>whnf)|(refine Br.mk (fun hc=>?_) fun hc=>?_<;>first|exact hc.elim|conv=>whnf)|(refine kB ?_))
   all_goals first|rfl|(exfalso;omega)|exact absurd rfl (by assumption)|exact absurd (by assumption) eS|(exfalso;simp_all;done)
  rw[decide_eq_true e4]at hu
  by_cases e5:KI fr
  case neg=>
   rw[decide_eq_false e5]at hF
   have hr:Iq ⟨(6:Int),z,fr,to,nm,v⟩=1:=EM (by unfold FP;exact .inr (.inr (.inr (.inr (.inl ⟨rfl,.inl e5⟩)))))
   rw[hr]
   refine Ac rfl rfl ?_
   show vC _ _ [(0,.agg [.int .i64 (6:Int),.int .i64 z,.int .i64 fr,.int .i64 to,.str nm,.int .i64 v.k,.int .i64 v.n,.int .i64 v.d,.str v.s,.sl v.nn v.l])] _ _
   (conv=>whnf);repeat' (first|((first|refine Aa hI ?_|refine Aa hF ?_|refine Aa hT ?_|refine Aa hN ?_|refine Aa hV ?_|refine Aa hu ?_|refine Aa hn ?_|refine Aa hp ?_);rintro _ rfl;conv=>whnf)|(refine kA ?_;conv=>whnf)|(refine Br.mk (fun hc=>?_) fun hc=>?_<;>first|exact hc.elim|conv=>whnf)|(refine kB ?_))
   all_goals first|rfl|(exfalso;omega)|exact absurd rfl (by assumption)|exact absurd (by assumption) eS|(exfalso;simp_all;done)
  rw[decide_eq_true e5]at hF
  by_cases e6:KI to
  case neg=>
   rw[decide_eq_false e6]at hT
   have hr:Iq ⟨(6:Int),z,fr,to,nm,v⟩=1:=EM (by unfold FP;exact .inr (.inr (.inr (.inr (.inl ⟨rfl,.inr e6⟩)))))
   rw[hr]
   refine Ac rfl rfl ?_
   show vC _ _ [(0,.agg [.int .i64 (6:Int),.int .i64 z,.int .i64 fr,.int .i64 to,.str nm,.int .i64 v.k,.int .i64 v.n,.int .i64 v.d,.str v.s,.sl v.nn v.l])] _ _
   (conv=>whnf);repeat' (first|((first|refine Aa hI ?_|refine Aa hF ?_|refine Aa hT ?_|refine Aa hN ?_|refine Aa hV ?_|refine Aa hu ?_|refine Aa hn ?_|refine Aa hp ?_);rintro _ rfl;conv=>whnf)|(refine kA ?_;conv=>whnf)|(refine Br.mk (fun hc=>?_) fun hc=>?_<;>first|exact hc.elim|conv=>whnf)|(refine kB ?_))
   all_goals first|rfl|(exfalso;omega)|exact absurd rfl (by assumption)|exact absurd (by assumption) eS|(exfalso;simp_all;done)
  rw[decide_eq_true e6]at hT
  by_cases e7:isName nm
  case neg=>
   rw[decide_eq_false e7]at hn
   have hr:Iq ⟨(6:Int),z,fr,to,nm,v⟩=6:=Adq (by unfold FP;rintro(h|h|h|h|h|h);exact h e1;exact h e2;exact h.1 eN;exact h.2 e4;exact h.2.elim (· e5) (· e6);exact h.1 rfl) ⟨eN,e7⟩
   rw[hr]
   refine Ac rfl rfl ?_
   show vC _ _ [(0,.agg [.int .i64 (6:Int),.int .i64 z,.int .i64 fr,.int .i64 to,.str nm,.int .i64 v.k,.int .i64 v.n,.int .i64 v.d,.str v.s,.sl v.nn v.l])] _ _
   (conv=>whnf);repeat' (first|((first|refine Aa hI ?_|refine Aa hF ?_|refine Aa hT ?_|refine Aa hN ?_|refine Aa hV ?_|refine Aa hu ?_|refine Aa hn ?_|refine Aa hp ?_);rintro _ rfl;conv=>whnf)|(refine kA ?_;conv=>whnf)|(refine Br.mk (fun hc=>?_) fun hc=>?_<;>first|exact hc.elim|conv=>whnf)|(refine kB ?_))
   all_goals first|rfl|(exfalso;omega)|exact absurd rfl (by assumption)|exact absurd (by assumption) eS|(exfalso;simp_all;done)
  rw[decide_eq_true e7]at hn
  have hr:Iq ⟨(6:Int),z,fr,to,nm,v⟩=0:=XJ (by unfold FP;rintro(h|h|h|h|h|h);exact h e1;exact h e2;exact h.1 eN;exact h.2 e4;exact h.2.elim (· e5) (· e6);exact h.1 rfl) (fun h=>h.2 e7) (fun h=>eV h.1)
  rw[hr]
  refine Ac rfl rfl ?_
  show vC _ _ [(0,.agg [.int .i64 (6:Int),.int .i64 z,.int .i64 fr,.int .i64 to,.str nm,.int .i64 v.k,.int .i64 v.n,.int .i64 v.d,.str v.s,.sl v.nn v.l])] _ _
  (conv=>whnf);repeat' (first|((first|refine Aa hI ?_|refine Aa hF ?_|refine Aa hT ?_|refine Aa hN ?_|refine Aa hV ?_|refine Aa hu ?_|refine Aa hn ?_|refine Aa hp ?_);rintro _ rfl;conv=>whnf)|(refine kA ?_;conv=>whnf)|(refine Br.mk (fun hc=>?_) fun hc=>?_<;>first|exact hc.elim|conv=>whnf)|(refine kB ?_))
  all_goals first|rfl|(exfalso;omega)|exact absurd rfl (by assumption)|exact absurd (by assumption) eS|(exfalso;simp_all;done)
 ·have eO:op≠6:=by omega
  have eN:P5 op:=by unfold P5;omega
  have eV:SV op:=by unfold SV;omega
  rw[decide_eq_true eN]at hN
  rw[decide_eq_true eV]at hV
  by_cases e5:fr=0
  case neg=>
   have hr:Iq ⟨(op:Int),z,fr,to,nm,v⟩=1:=EM (by unfold FP;exact .inr (.inr (.inr (.inr (.inr ⟨eO,.inl e5⟩)))))
   rw[hr]
   refine Ac rfl rfl ?_
   show vC _ _ [(0,.agg [.int .i64 (op:Int),.int .i64 z,.int .i64 fr,.int .i64 to,.str nm,.int .i64 v.k,.int .i64 v.n,.int .i64 v.d,.str v.s,.sl v.nn v.l])] _ _
   (conv=>whnf);repeat' (first|((first|refine Aa hI ?_|refine Aa hF ?_|refine Aa hT ?_|refine Aa hN ?_|refine Aa hV ?_|refine Aa hu ?_|refine Aa hn ?_|refine Aa hp ?_);rintro _ rfl;conv=>whnf)|(refine kA ?_;conv=>whnf)|(refine Br.mk (fun hc=>?_) fun hc=>?_<;>first|exact hc.elim|conv=>whnf)|(refine kB ?_))
   all_goals first|rfl|(exfalso;omega)|exact absurd rfl (by assumption)|exact absurd (by assumption) eS|(exfalso;simp_all;done)
  by_cases e6:to=0
  case neg=>
   have hr:Iq ⟨(op:Int),z,fr,to,nm,v⟩=1:=EM (by unfold FP;exact .inr (.inr (.inr (.inr (.inr ⟨eO,.inr e6⟩)))))
   rw[hr]
   refine Ac rfl rfl ?_
   show vC _ _ [(0,.agg [.int .i64 (op:Int),.int .i64 z,.int .i64 fr,.int .i64 to,.str nm,.int .i64 v.k,.int .i64 v.n,.int .i64 v.d,.str v.s,.sl v.nn v.l])] _ _
   (conv=>whnf);repeat' (first|((first|refine Aa hI ?_|refine Aa hF ?_|refine Aa hT ?_|refine Aa hN ?_|refine Aa hV ?_|refine Aa hu ?_|refine Aa hn ?_|refine Aa hp ?_);rintro _ rfl;conv=>whnf)|(refine kA ?_;conv=>whnf)|(refine Br.mk (fun hc=>?_) fun hc=>?_<;>first|exact hc.elim|conv=>whnf)|(refine kB ?_))
   all_goals first|rfl|(exfalso;omega)|exact absurd rfl (by assumption)|exact absurd (by assumption) eS|(exfalso;simp_all;done)
  by_cases e7:isName nm
  case neg=>
   rw[decide_eq_false e7]at hn
   have hr:Iq ⟨(op:Int),z,fr,to,nm,v⟩=6:=Adq (by unfold FP;rintro(h|h|h|h|h|h);exact h e1;exact h e2;exact h.1 eN;exact h.1 eV;exact eO h.1;exact h.2.elim (· e5) (· e6)) ⟨eN,e7⟩
   rw[hr]
   refine Ac rfl rfl ?_
   show vC _ _ [(0,.agg [.int .i64 (op:Int),.int .i64 z,.int .i64 fr,.int .i64 to,.str nm,.int .i64 v.k,.int .i64 v.n,.int .i64 v.d,.str v.s,.sl v.nn v.l])] _ _
   (conv=>whnf);repeat' (first|((first|refine Aa hI ?_|refine Aa hF ?_|refine Aa hT ?_|refine Aa hN ?_|refine Aa hV ?_|refine Aa hu ?_|refine Aa hn ?_|refine Aa hp ?_);rintro _ rfl;conv=>whnf)|(refine kA ?_;conv=>whnf)|(refine Br.mk (fun hc=>?_) fun hc=>?_<;>first|exact hc.elim|conv=>whnf)|(refine kB ?_))
   all_goals first|rfl|(exfalso;omega)|exact absurd rfl (by assumption)|exact absurd (by assumption) eS|(exfalso;simp_all;done)
  rw[decide_eq_true e7]at hn
  by_cases e8:isNull v
  case pos=>
   rw[decide_eq_true e8]at hu
   have hr:Iq ⟨(op:Int),z,fr,to,nm,v⟩=0:=XJ (by unfold FP;rintro(h|h|h|h|h|h);exact h e1;exact h e2;exact h.1 eN;exact h.1 eV;exact eO h.1;exact h.2.elim (· e5) (· e6)) (fun h=>h.2 e7) (fun h=>h.2.1 e8)
   rw[hr]
   refine Ac rfl rfl ?_
   show vC _ _ [(0,.agg [.int .i64 (op:Int),.int .i64 z,.int .i64 fr,.int .i64 to,.str nm,.int .i64 v.k,.int .i64 v.n,.int .i64 v.d,.str v.s,.sl v.nn v.l])] _ _
   (conv=>whnf);repeat' (first|((first|refine Aa hI ?_|refine Aa hF ?_|refine Aa hT ?_|refine Aa hN ?_|refine Aa hV ?_|refine Aa hu ?_|refine Aa hn ?_|refine Aa hp ?_);rintro _ rfl;conv=>whnf)|(refine kA ?_;conv=>whnf)|(refine Br.mk (fun hc=>?_) fun hc=>?_<;>first|exact hc.elim|conv=>whnf)|(refine kB ?_))
   all_goals first|rfl|(exfalso;omega)|exact absurd rfl (by assumption)|exact absurd (by assumption) eS|(exfalso;simp_all;done)
  rw[decide_eq_false e8]at hu
  by_cases e9:DX v
  case neg=>
   rw[decide_eq_false e9]at hp
   have hr:Iq ⟨(op:Int),z,fr,to,nm,v⟩=8:=AiH (by unfold FP;rintro(h|h|h|h|h|h);exact h e1;exact h e2;exact h.1 eN;exact h.1 eV;exact eO h.1;exact h.2.elim (· e5) (· e6)) (fun h=>h.2 e7) ⟨eV,e8,e9⟩
   rw[hr]
   refine Ac rfl rfl ?_
   show vC _ _ [(0,.agg [.int .i64 (op:Int),.int .i64 z,.int .i64 fr,.int .i64 to,.str nm,.int .i64 v.k,.int .i64 v.n,.int .i64 v.d,.str v.s,.sl v.nn v.l])] _ _
   (conv=>whnf);repeat' (first|((first|refine Aa hI ?_|refine Aa hF ?_|refine Aa hT ?_|refine Aa hN ?_|refine Aa hV ?_|refine Aa hu ?_|refine Aa hn ?_|refine Aa hp ?_);rintro _ rfl;conv=>whnf)|(refine kA ?_;conv=>whnf)|(refine Br.mk (fun hc=>?_) fun hc=>?_<;>first|exact hc.elim|conv=>whnf)|(refine kB ?_))
   all_goals first|rfl|(exfalso;omega)|exact absurd rfl (by assumption)|exact absurd (by assumption) eS|(exfalso;simp_all;done)
  rw[decide_eq_true e9]at hp
  have hr:Iq ⟨(op:Int),z,fr,to,nm,v⟩=0:=XJ (by unfold FP;rintro(h|h|h|h|h|h);exact h e1;exact h e2;exact h.1 eN;exact h.1 eV;exact eO h.1;exact h.2.elim (· e5) (· e6)) (fun h=>h.2 e7) (fun h=>h.2.2 e9)
  rw[hr]
  refine Ac rfl rfl ?_
  show vC _ _ [(0,.agg [.int .i64 (op:Int),.int .i64 z,.int .i64 fr,.int .i64 to,.str nm,.int .i64 v.k,.int .i64 v.n,.int .i64 v.d,.str v.s,.sl v.nn v.l])] _ _
  (conv=>whnf);repeat' (first|((first|refine Aa hI ?_|refine Aa hF ?_|refine Aa hT ?_|refine Aa hN ?_|refine Aa hV ?_|refine Aa hu ?_|refine Aa hn ?_|refine Aa hp ?_);rintro _ rfl;conv=>whnf)|(refine kA ?_;conv=>whnf)|(refine Br.mk (fun hc=>?_) fun hc=>?_<;>first|exact hc.elim|conv=>whnf)|(refine kB ?_))
  all_goals first|rfl|(exfalso;omega)|exact absurd rfl (by assumption)|exact absurd (by assumption) eS|(exfalso;simp_all;done)
 ·have eO:op≠6:=by omega
  have eN:P5 op:=by unfold P5;omega
  have eV:¬SV op:=by unfold SV;omega
  rw[decide_eq_true eN]at hN
  rw[decide_eq_false eV]at hV
  by_cases e4:isNull v
  case neg=>
   rw[decide_eq_false e4]at hu
   have hr:Iq ⟨(op:Int),z,fr,to,nm,v⟩=1:=EM (by unfold FP;exact .inr (.inr (.inr (.inl ⟨eV,e4⟩))))
   rw[hr]
   refine Ac rfl rfl ?_
   show vC _ _ [(0,.agg [.int .i64 (op:Int),.int .i64 z,.int .i64 fr,.int .i64 to,.str nm,.int .i64 v.k,.int .i64 v.n,.int .i64 v.d,.str v.s,.sl v.nn v.l])] _ _
   (conv=>whnf);repeat' (first|((first|refine Aa hI ?_|refine Aa hF ?_|refine Aa hT ?_|refine Aa hN ?_|refine Aa hV ?_|refine Aa hu ?_|refine Aa hn ?_|refine Aa hp ?_);rintro _ rfl;conv=>whnf)|(refine kA ?_;conv=>whnf)|(refine Br.mk (fun hc=>?_) fun hc=>?_<;>first|exact hc.elim|conv=>whnf)|(refine kB ?_))
   all_goals first|rfl|(exfalso;omega)|exact absurd rfl (by assumption)|exact absurd (by assumption) eS|(exfalso;simp_all;done)
  rw[decide_eq_true e4]at hu
  by_cases e5:fr=0
  case neg=>
   have hr:Iq ⟨(op:Int),z,fr,to,nm,v⟩=1:=EM (by unfold FP;exact .inr (.inr (.inr (.inr (.inr ⟨eO,.inl e5⟩)))))
   rw[hr]
   refine Ac rfl rfl ?_
   show vC _ _ [(0,.agg [.int .i64 (op:Int),.int .i64 z,.int .i64 fr,.int .i64 to,.str nm,.int .i64 v.k,.int .i64 v.n,.int .i64 v.d,.str v.s,.sl v.nn v.l])] _ _
   (conv=>whnf);repeat' (first|((first|refine Aa hI ?_|refine Aa hF ?_|refine Aa hT ?_|refine Aa hN ?_|refine Aa hV ?_|refine Aa hu ?_|refine Aa hn ?_|refine Aa hp ?_);rintro _ rfl;conv=>whnf)|(refine kA ?_;conv=>whnf)|(refine Br.mk (fun hc=>?_) fun hc=>?_<;>first|exact hc.elim|conv=>whnf)|(refine kB ?_))
   all_goals first|rfl|(exfalso;omega)|exact absurd rfl (by assumption)|exact absurd (by assumption) eS|(exfalso;simp_all;done)
  by_cases e6:to=0
  case neg=>
   have hr:Iq ⟨(op:Int),z,fr,to,nm,v⟩=1:=EM (by unfold FP;exact .inr (.inr (.inr (.inr (.inr ⟨eO,.inr e6⟩)))))
   rw[hr]
   refine Ac rfl rfl ?_
   show vC _ _ [(0,.agg [.int .i64 (op:Int),.int .i64 z,.int .i64 fr,.int .i64 to,.str nm,.int .i64 v.k,.int .i64 v.n,.int .i64 v.d,.str v.s,.sl v.nn v.l])] _ _
   (conv=>whnf);repeat' (first|((first|refine Aa hI ?_|refine Aa hF ?_|refine Aa hT ?_|refine Aa hN ?_|refine Aa hV ?_|refine Aa hu ?_|refine Aa hn ?_|refine Aa hp ?_);rintro _ rfl;conv=>whnf)|(refine kA ?_;conv=>whnf)|(refine Br.mk (fun hc=>?_) fun hc=>?_<;>first|exact hc.elim|conv=>whnf)|(refine kB ?_))
   all_goals first|rfl|(exfalso;omega)|exact absurd rfl (by assumption)|exact absurd (by assumption) eS|(exfalso;simp_all;done)
  by_cases e7:isName nm
  case neg=>
   rw[decide_eq_false e7]at hn
   have hr:Iq ⟨(op:Int),z,fr,to,nm,v⟩=6:=Adq (by unfold FP;rintro(h|h|h|h|h|h);exact h e1;exact h e2;exact h.1 eN;exact h.2 e4;exact eO h.1;exact h.2.elim (· e5) (· e6)) ⟨eN,e7⟩
   rw[hr]
   refine Ac rfl rfl ?_
   show vC _ _ [(0,.agg [.int .i64 (op:Int),.int .i64 z,.int .i64 fr,.int .i64 to,.str nm,.int .i64 v.k,.int .i64 v.n,.int .i64 v.d,.str v.s,.sl v.nn v.l])] _ _
   (conv=>whnf);repeat' (first|((first|refine Aa hI ?_|refine Aa hF ?_|refine Aa hT ?_|refine Aa hN ?_|refine Aa hV ?_|refine Aa hu ?_|refine Aa hn ?_|refine Aa hp ?_);rintro _ rfl;conv=>whnf)|(refine kA ?_;conv=>whnf)|(refine Br.mk (fun hc=>?_) fun hc=>?_<;>first|exact hc.elim|conv=>whnf)|(refine kB ?_))
   all_goals first|rfl|(exfalso;omega)|exact absurd rfl (by assumption)|exact absurd (by assumption) eS|(exfalso;simp_all;done)
  rw[decide_eq_true e7]at hn
  have hr:Iq ⟨(op:Int),z,fr,to,nm,v⟩=0:=XJ (by unfold FP;rintro(h|h|h|h|h|h);exact h e1;exact h e2;exact h.1 eN;exact h.2 e4;exact eO h.1;exact h.2.elim (· e5) (· e6)) (fun h=>h.2 e7) (fun h=>eV h.1)
  rw[hr]
  refine Ac rfl rfl ?_
  show vC _ _ [(0,.agg [.int .i64 (op:Int),.int .i64 z,.int .i64 fr,.int .i64 to,.str nm,.int .i64 v.k,.int .i64 v.n,.int .i64 v.d,.str v.s,.sl v.nn v.l])] _ _
  (conv=>whnf);repeat' (first|((first|refine Aa hI ?_|refine Aa hF ?_|refine Aa hT ?_|refine Aa hN ?_|refine Aa hV ?_|refine Aa hu ?_|refine Aa hn ?_|refine Aa hp ?_);rintro _ rfl;conv=>whnf)|(refine kA ?_;conv=>whnf)|(refine Br.mk (fun hc=>?_) fun hc=>?_<;>first|exact hc.elim|conv=>whnf)|(refine kB ?_))
  all_goals first|rfl|(exfalso;omega)|exact absurd rfl (by assumption)|exact absurd (by assumption) eS|(exfalso;simp_all;done)
 ·have eO:op≠6:=by omega
  have eN:¬P5 op:=by unfold P5;omega
  have eV:¬SV op:=by unfold SV;omega
  rw[decide_eq_false eN]at hN
  rw[decide_eq_false eV]at hV
  by_cases e3:nm=[]
  case neg=>
   have eS:=e3
   have hr:Iq ⟨(op:Int),z,fr,to,nm,v⟩=1:=EM (by unfold FP;exact .inr (.inr (.inl ⟨eN,e3⟩)))
   rw[hr]
   refine Ac rfl rfl ?_
   show vC _ _ [(0,.agg [.int .i64 (op:Int),.int .i64 z,.int .i64 fr,.int .i64 to,.str nm,.int .i64 v.k,.int .i64 v.n,.int .i64 v.d,.str v.s,.sl v.nn v.l])] _ _
   (conv=>whnf);repeat' (first|((first|refine Aa hI ?_|refine Aa hF ?_|refine Aa hT ?_|refine Aa hN ?_|refine Aa hV ?_|refine Aa hu ?_|refine Aa hn ?_|refine Aa hp ?_);rintro _ rfl;conv=>whnf)|(refine kA ?_;conv=>whnf)|(refine Br.mk (fun hc=>?_) fun hc=>?_<;>first|exact hc.elim|conv=>whnf)|(refine kB ?_))
   all_goals first|rfl|(exfalso;omega)|exact absurd rfl (by assumption)|exact absurd (by assumption) eS|(exfalso;simp_all;done)
  by_cases e4:isNull v
  case neg=>
   rw[decide_eq_false e4]at hu
   have hr:Iq ⟨(op:Int),z,fr,to,nm,v⟩=1:=EM (by unfold FP;exact .inr (.inr (.inr (.inl ⟨eV,e4⟩))))
   rw[hr]
   refine Ac rfl rfl ?_
   show vC _ _ [(0,.agg [.int .i64 (op:Int),.int .i64 z,.int .i64 fr,.int .i64 to,.str nm,.int .i64 v.k,.int .i64 v.n,.int .i64 v.d,.str v.s,.sl v.nn v.l])] _ _
   (conv=>whnf);repeat' (first|((first|refine Aa hI ?_|refine Aa hF ?_|refine Aa hT ?_|refine Aa hN ?_|refine Aa hV ?_|refine Aa hu ?_|refine Aa hn ?_|refine Aa hp ?_);rintro _ rfl;conv=>whnf)|(refine kA ?_;conv=>whnf)|(refine Br.mk (fun hc=>?_) fun hc=>?_<;>first|exact hc.elim|conv=>whnf)|(refine kB ?_))
   all_goals first|rfl|(exfalso;omega)|exact absurd rfl (by assumption)|exact absurd (by assumption) eS|(exfalso;simp_all;done)
  rw[decide_eq_true e4]at hu
  by_cases e5:fr=0
  case neg=>
   have hr:Iq ⟨(op:Int),z,fr,to,nm,v⟩=1:=EM (by unfold FP;exact .inr (.inr (.inr (.inr (.inr ⟨eO,.inl e5⟩)))))
   rw[hr]
   refine Ac rfl rfl ?_
   show vC _ _ [(0,.agg [.int .i64 (op:Int),.int .i64 z,.int .i64 fr,.int .i64 to,.str nm,.int .i64 v.k,.int .i64 v.n,.int .i64 v.d,.str v.s,.sl v.nn v.l])] _ _
   (conv=>whnf);repeat' (first|((first|refine Aa hI ?_|refine Aa hF ?_|refine Aa hT ?_|refine Aa hN ?_|refine Aa hV ?_|refine Aa hu ?_|refine Aa hn ?_|refine Aa hp ?_);rintro _ rfl;conv=>whnf)|(refine kA ?_;conv=>whnf)|(refine Br.mk (fun hc=>?_) fun hc=>?_<;>first|exact hc.elim|conv=>whnf)|(refine kB ?_))
   all_goals first|rfl|(exfalso;omega)|exact absurd rfl (by assumption)|exact absurd (by assumption) eS|(exfalso;simp_all;done)
  by_cases e6:to=0
  case neg=>
   have hr:Iq ⟨(op:Int),z,fr,to,nm,v⟩=1:=EM (by unfold FP;exact .inr (.inr (.inr (.inr (.inr ⟨eO,.inr e6⟩)))))
   rw[hr]
   refine Ac rfl rfl ?_
   show vC _ _ [(0,.agg [.int .i64 (op:Int),.int .i64 z,.int .i64 fr,.int .i64 to,.str nm,.int .i64 v.k,.int .i64 v.n,.int .i64 v.d,.str v.s,.sl v.nn v.l])] _ _
   (conv=>whnf);repeat' (first|((first|refine Aa hI ?_|refine Aa hF ?_|refine Aa hT ?_|refine Aa hN ?_|refine Aa hV ?_|refine Aa hu ?_|refine Aa hn ?_|refine Aa hp ?_);rintro _ rfl;conv=>whnf)|(refine kA ?_;conv=>whnf)|(refine Br.mk (fun hc=>?_) fun hc=>?_<;>first|exact hc.elim|conv=>whnf)|(refine kB ?_))
   all_goals first|rfl|(exfalso;omega)|exact absurd rfl (by assumption)|exact absurd (by assumption) eS|(exfalso;simp_all;done)
  have hr:Iq ⟨(op:Int),z,fr,to,nm,v⟩=0:=XJ (by unfold FP;rintro(h|h|h|h|h|h);exact h e1;exact h e2;exact h.2 e3;exact h.2 e4;exact eO h.1;exact h.2.elim (· e5) (· e6)) (fun h=>eN h.1) (fun h=>eV h.1)
  rw[hr]
  refine Ac rfl rfl ?_
  show vC _ _ [(0,.agg [.int .i64 (op:Int),.int .i64 z,.int .i64 fr,.int .i64 to,.str nm,.int .i64 v.k,.int .i64 v.n,.int .i64 v.d,.str v.s,.sl v.nn v.l])] _ _
  (conv=>whnf);repeat' (first|((first|refine Aa hI ?_|refine Aa hF ?_|refine Aa hT ?_|refine Aa hN ?_|refine Aa hV ?_|refine Aa hu ?_|refine Aa hn ?_|refine Aa hp ?_);rintro _ rfl;conv=>whnf)|(refine kA ?_;conv=>whnf)|(refine Br.mk (fun hc=>?_) fun hc=>?_<;>first|exact hc.elim|conv=>whnf)|(refine kB ?_))
  all_goals first|rfl|(exfalso;omega)|exact absurd rfl (by assumption)|exact absurd (by assumption) eS|(exfalso;simp_all;done)
end AI
end Go.Proofs.YtgmgkkbpgndaaaaGreatDoor
