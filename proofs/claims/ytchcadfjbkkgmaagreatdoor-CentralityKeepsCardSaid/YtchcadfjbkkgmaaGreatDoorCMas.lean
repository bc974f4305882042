/- The reference's Check of a change. The reference: a change of an edge, a step, exactly. -/
import Derived.Test.YtchcadfjbkkgmaaGreatDoorCMaq
import Derived.Test.YtchcadfjbkkgmaaGreatDoorCMai
import Derived.Test.YtchcadfjbkkgmaaGreatDoorCMal
import Derived.Test.YtchcadfjbkkgmaaGreatDoorCMar
import Derived.Test.YtchcadfjbkkgmaaGreatDoorCMaj
set_option linter.unusedVariables false
set_option maxRecDepth 4000
namespace Go.Proofs.YtchcadfjbkkgmaaGreatDoor
namespace AI
theorem idR {z:Int}:Af (Ad tab) 123 [.int .i64 z] (· =.bool (decide (Md z))):=by
 refine Ac rfl rfl ?_
 (conv=>whnf);repeat' (first  |(refine kA ?_;conv=>whnf)|(refine Br.mk (fun hc=>?_) fun hc=>?_<;>first|exact hc.elim|conv=>whnf)|(refine kB ?_))
 all_goals first|exact BD (by unfold Md;omega)|exact AY (by unfold Md;omega)
theorem Ajj {op:Int}:Af (Ad tab) 124 [.int .i64 op] (· =.bool (decide (Ri op))):=by
 refine Ac rfl rfl ?_
 (conv=>whnf);repeat' (first  |(refine kA ?_;conv=>whnf)|(refine Br.mk (fun hc=>?_) fun hc=>?_<;>first|exact hc.elim|conv=>whnf)|(refine kB ?_))
 all_goals first|exact BD (by unfold Ri;omega)|exact AY (by unfold Ri;omega)
theorem Agy {op:Int}:Af (Ad tab) 125 [.int .i64 op] (· =.bool (decide (Ve op))):=by
 refine Ac rfl rfl ?_
 (conv=>whnf);repeat' (first  |(refine kA ?_;conv=>whnf)|(refine Br.mk (fun hc=>?_) fun hc=>?_<;>first|exact hc.elim|conv=>whnf)|(refine kB ?_))
 all_goals first|exact BD (by unfold Ve;omega)|exact AY (by unfold Ve;omega)
theorem Fe {c:GC} (h:Gl c):IC c=1:=by unfold IC;rw[if_pos h]
theorem Ad0 {c:GC} (h:¬Gl c) (h2:Ri c.op∧¬isName c.name):IC c=6:=by unfold IC;rw[if_neg h,if_pos h2]
theorem Ald {c:GC} (h:¬Gl c) (h2:¬(Ri c.op∧¬isName c.name)) (h3:Ve c.op∧¬isNull c.v∧¬D9 c.v):IC c=8:=by unfold IC;rw[if_neg h,if_neg h2,if_pos h3]
theorem Ya {c:GC} (h:¬Gl c) (h2:¬(Ri c.op∧¬isName c.name)) (h3:¬(Ve c.op∧¬isNull c.v∧¬D9 c.v)):IC c=0:=by unfold IC;rw[if_neg h,if_neg h2,if_neg h3]
set_option maxHeartbeats 8000000 in
theorem Ajk {c:GC} (h:c.ok):Af (Ad tab) 89 [c.av] (· =.int .i64 (IC c)):=by
 obtain⟨op,z,fr,to,nm,v⟩:=c
 obtain⟨h1,h2,h3,h4,h5,h6⟩:=h
 have hn:=name2 (s:=nm) (by have:=h5;simp only[Ln]at this;omega)
 have hp:=AdW (v:=v) h6
 have hu:=AdU (g:=v) h6
 have hI:=idR (z:=z)
 have hF:=idR (z:=fr)
 have hT:=idR (z:=to)
 have hN:=Ajj (op:=op)
 have hV:=Agy (op:=op)
 clear h1 h2 h3 h4 h5 h6
 have eS:True:=trivial
 by_cases e1:1≤op∧op≤8
 case neg=>
  have hr:IC ⟨(op:Int),z,fr,to,nm,v⟩=1:=Fe (by unfold Gl;exact .inl e1)
  rw[hr]
  refine Ac rfl rfl ?_
  show vC _ _ [(0,.agg [.int .i64 (op:Int),.int .i64 z,.int .i64 fr,.int .i64 to,.str nm,.int .i64 v.k,.int .i64 v.n,.int .i64 v.d,.str v.s,.sl v.nn v.l])] _ _
  (conv=>whnf);repeat' (first|((first|refine Aa hI ?_|refine Aa hF ?_|refine Aa hT ?_|refine Aa hN ?_|refine Aa hV ?_|refine Aa hu ?_|refine Aa hn ?_|refine Aa hp ?_);rintro _ rfl;conv=>whnf)|(refine kA ?_;conv=>whnf)|(refine Br.mk (fun hc=>?_) fun hc=>?_<;>first|exact hc.elim|conv=>whnf)|(refine kB ?_))
  all_goals first|rfl|(exfalso;omega)|exact absurd rfl (by assumption)|exact absurd (by assumption) eS|(exfalso;simp_all;done)
 by_cases e2:Md z
 case neg=>
  rw[decide_eq_false e2]at hI
  have hr:IC ⟨(op:Int),z,fr,to,nm,v⟩=1:=Fe (by unfold Gl;exact .inr (.inl e2))
  rw[hr]
  refine Ac rfl rfl ?_
  show vC _ _ [(0,.agg [.int .i64 (op:Int),.int .i64 z,.int .i64 fr,.int .i64 to,.str nm,.int .i64 v.k,.int .i64 v.n,.int .i64 v.d,.str v.s,.sl v.nn v.l])] _ _
  (conv=>whnf);repeat' (first|((first|refine Aa hI ?_|refine Aa hF ?_|refine Aa hT ?_|refine Aa hN ?_|refine Aa hV ?_|refine Aa hu ?_|refine Aa hn ?_|refine Aa hp ?_);rintro _ rfl;conv=>whnf)|(refine kA ?_;conv=>whnf)|(refine Br.mk (fun hc=>?_) fun hc=>?_<;>first|exact hc.elim|conv=>whnf)|(refine kB ?_))
  all_goals first|rfl|(exfalso;omega)|exact absurd rfl (by assumption)|exact absurd (by assumption) eS|(exfalso;simp_all;done)
 rw[decide_eq_true e2]at hI
 have hd:op=6∨(op=5∨op=8)∨(op=3∨op=4)∨(op=1∨op=2∨op=7):=by omega
 rcases hd with rfl|hd|hd|hd
 ·have eN:Ri 6:=by unfold Ri;omega
  have eV:¬Ve 6:=by unfold Ve;omega
  rw[decide_eq_true eN]at hN
  rw[decide_eq_false eV]at hV
  by_cases e4:isNull v
  case neg=>
   rw[decide_eq_false e4]at hu
   have hr:IC ⟨(6:Int),z,fr,to,nm,v⟩=1:=Fe (by unfold Gl;exact .inr (.inr (.inr (.inl ⟨eV,e4⟩))))
   rw[hr]
   refine Ac rfl rfl ?_
   show vC _ _ [(0,.agg [.int .i64 (6:Int),.int .i64 z,.int .i64 fr,.int .i64 to,.str nm,.int .i64 v.k,.int .i64 v.n,.int .i64 v.d,.str v.s,.sl v.nn v.l])] _ _
   (conv=>whnf);repeat' (first|((first|refine Aa hI ?_|refine Aa hF ?_|refine Aa hT ?_|refine Aa hN ?_|refine Aa hV ?_|refine Aa hu ?_|refine Aa hn ?_|refine Aa hp ?_);rintro _ rfl;conv=>whnf)|(refine kA ?_;conv=>whnf)|(refine Br.mk (fun hc=>?_) fun hc=>?_<;>first|exact hc.elim|conv=>whnf)|(refine kB ?_))
   all_goals first|rfl|(exfalso;omega)|exact absurd rfl (by assumption)|exact absurd (by assumption) eS|(exfalso;simp_all;done)
  rw[decide_eq_true e4]at hu
  by_cases e5:Md fr
  case neg=>
   rw[decide_eq_false e5]at hF
   have hr:IC ⟨(6:Int),z,fr,to,nm,v⟩=1:=Fe (by unfold Gl;exact .inr (.inr (.inr (.inr (.inl ⟨rfl,.inl e5⟩)))))
   rw[hr]
   refine Ac rfl rfl ?_
   show vC _ _ [(0,.agg [.int .i64 (6:Int),.int .i64 z,.int .i64 fr,.int .i64 to,.str nm,.int .i64 v.k,.int .i64 v.n,.int .i64 v.d,.str v.s,.sl v.nn v.l])] _ _
   (conv=>whnf);repeat' (first|((first|refine Aa hI ?_|refine Aa hF ?_|refine Aa hT ?_|refine Aa hN ?_|refine Aa hV ?_|refine Aa hu ?_|refine Aa hn ?_|refine Aa hp ?_);rintro _ rfl;conv=>whnf)|(refine kA ?_;conv=>whnf)|(refine Br.mk (fun hc=>?_) fun hc=>?_<;>first|exact hc.elim|conv=>whnf)|(refine kB ?_))
   all_goals first|rfl|(exfalso;omega)|exact absurd rfl (by assumption)|exact absurd (by assumption) eS|(exfalso;simp_all;done)
  rw[decide_eq_true e5]at hF
  by_cases e6:Md to
  case neg=>
   rw[decide_eq_false e6]at hT
   have hr:IC ⟨(6:Int),z,fr,to,nm,v⟩=1:=Fe (by unfold Gl;exact .inr (.inr (.inr (.inr (.inl ⟨rfl,.inr e6⟩)))))
   rw[hr]
   refine Ac rfl rfl ?_
   show vC _ _ [(0,.agg [.int .i64 (6:Int),.int .i64 z,.int .i64 fr,.int .i64 to,.str nm,.int .i64 v.k,.int .i64 v.n,.int .i64 v.d,.str v.s,.sl v.nn v.l])] _ _
   (conv=>whnf);repeat' (first|((first|refine Aa hI ?_|refine Aa hF ?_|refine Aa hT ?_|refine Aa hN ?_|refine Aa hV ?_|refine Aa hu ?_|refine Aa hn ?_|refine Aa hp ?_);rintro _ rfl;conv=>whnf)|(refine kA ?_;conv=>whnf)|(refine Br.mk (fun hc=>?_) fun hc=>?_<;>first|exact hc.elim|conv=>whnf)|(refine kB ?_))
   all_goals first|rfl|(exfalso;omega)|exact absurd rfl (by assumption)|exact absurd (by assumption) eS|(exfalso;simp_all;done)
  rw[decide_eq_true e6]at hT
  by_cases e7:isName nm
  case neg=>
   rw[decide_eq_false e7]at hn
   have hr:IC ⟨(6:Int),z,fr,to,nm,v⟩=6:=Ad0 (by unfold Gl;rintro(h|h|h|h|h|h);exact h e1;exact h e2;exact h.1 eN;exact h.2 e4;exact h.2.elim (· e5) (· e6);exact h.1 rfl) ⟨eN,e7⟩
   rw[hr]
   refine Ac rfl rfl ?_
   show vC _ _ [(0,.agg [.int .i64 (6:Int),.int .i64 z,.int .i64 fr,.int .i64 to,.str nm,.int .i64 v.k,.int .i64 v.n,.int .i64 v.d,.str v.s,.sl v.nn v.l])] _ _
   (conv=>whnf);repeat' (first|((first|refine Aa hI ?_|refine Aa hF ?_|refine Aa hT ?_|refine Aa hN ?_|refine Aa hV ?_|refine Aa hu ?_|refine Aa hn ?_|refine Aa hp ?_);rintro _ rfl;conv=>whnf)|(refine kA ?_;conv=>whnf)|(refine Br.mk (fun hc=>?_) fun hc=>?_<;>first|exact hc.elim|conv=>whnf)|(refine kB ?_))
   all_goals first|rfl|(exfalso;omega)|exact absurd rfl (by assumption)|exact absurd (by assumption) eS|(exfalso;simp_all;done)
  rw[decide_eq_true e7]at hn
  have hr:IC ⟨(6:Int),z,fr,to,nm,v⟩=0:=Ya (by unfold Gl;rintro(h|h|h|h|h|h);exact h e1;exact h e2;exact h.1 eN;exact h.2 e4;exact h.2.elim (· e5) (· e6);exact h.1 rfl) (fun h=>h.2 e7) (fun h=>eV h.1)
  rw[hr]
  refine Ac rfl rfl ?_
  show vC _ _ [(0,.agg [.int .i64 (6:Int),.int .i64 z,.int .i64 fr,.int .i64 to,.str nm,.int .i64 v.k,.int .i64 v.n,.int .i64 v.d,.str v.s,.sl v.nn v.l])] _ _
  (conv=>whnf);repeat' (first|((first|refine Aa hI ?_|refine Aa hF ?_|refine Aa hT ?_|refine Aa hN ?_|refine Aa hV ?_|refine Aa hu ?_|refine Aa hn ?_|refine Aa hp ?_);rintro _ rfl;conv=>whnf)|(refine kA ?_;conv=>whnf)|(refine Br.mk (fun hc=>?_) fun hc=>?_<;>first|exact hc.elim|conv=>whnf)|(refine kB ?_))
  all_goals first|rfl|(exfalso;omega)|exact absurd rfl (by assumption)|exact absurd (by assumption) eS|(exfalso;simp_all;done)
 ·have eO:op≠6:=by omega
  have eN:Ri op:=by unfold Ri;omega
  have eV:Ve op:=by unfold Ve;omega
  rw[decide_eq_true eN]at hN
  rw[decide_eq_true eV]at hV
  by_cases e5:fr=0
  case neg=>
   have hr:IC ⟨(op:Int),z,fr,to,nm,v⟩=1:=Fe (by unfold Gl;exact .inr (.inr (.inr (.inr (.inr ⟨eO,.inl e5⟩)))))
   rw[hr]
   refine Ac rfl rfl ?_
   show vC _ _ [(0,.agg [.int .i64 (op:Int),.int .i64 z,.int .i64 fr,.int .i64 to,.str nm,.int .i64 v.k,.int .i64 v.n,.int .i64 v.d,.str v.s,.sl v.nn v.l])] _ _
   (conv=>whnf);repeat' (first|((first|refine Aa hI ?_|refine Aa hF ?_|refine Aa hT ?_|refine Aa hN ?_|refine Aa hV ?_|refine Aa hu ?_|refine Aa hn ?_|refine Aa hp ?_);rintro _ rfl;conv=>whnf)|(refine kA ?_;conv=>whnf)|(refine Br.mk (fun hc=>?_) fun hc=>?_<;>first|exact hc.elim|conv=>whnf)|(refine kB ?_))
   all_goals first|rfl|(exfalso;omega)|exact absurd rfl (by assumption)|exact absurd (by assumption) eS|(exfalso;simp_all;done)
  by_cases e6:to=0
  case neg=>
   have hr:IC ⟨(op:Int),z,fr,to,nm,v⟩=1:=Fe (by unfold Gl;exact .inr (.inr (.inr (.inr (.inr ⟨eO,.inr e6⟩)))))
   rw[hr]
   refine Ac rfl rfl ?_
   show vC _ _ [(0,.agg [.int .i64 (op:Int),.int .i64 z,.int .i64 fr,.int .i64 to,.str nm,.int .i64 v.k,.int .i64 v.n,.int .i64 v.d,.str v.s,.sl v.nn v.l])] _ _
   (conv=>whnf);repeat' (first|((first|refine Aa hI ?_|refine Aa hF ?_|refine Aa hT ?_|refine Aa hN ?_|refine Aa hV ?_|refine Aa hu ?_|refine Aa hn ?_|refine Aa hp ?_);rintro _ rfl;conv=>whnf)|(refine kA ?_;conv=>whnf)|(refine Br.mk (fun hc=>?_) fun hc=>?_<;>first|exact hc.elim|conv=>whnf)|(refine kB ?_))
   all_goals first|rfl|(exfalso;omega)|exact absurd rfl (by assumption)|exact absurd (by assumption) eS|(exfalso;simp_all;done)
  by_cases e7:isName nm
  case neg=>
   rw[decide_eq_false e7]at hn
   have hr:IC ⟨(op:Int),z,fr,to,nm,v⟩=6:=Ad0 (by unfold Gl;rintro(h|h|h|h|h|h);exact h e1;exact h e2;exact h.1 eN;exact h.1 eV;exact eO h.1;exact h.2.elim (· e5) (· e6)) ⟨eN,e7⟩
   rw[hr]
   refine Ac rfl rfl ?_
   show vC _ _ [(0,.agg [.int .i64 (op:Int),.int .i64 z,.int .i64 fr,.int .i64 to,.str nm,.int .i64 v.k,.int .i64 v.n,.int .i64 v.d,.str v.s,.sl v.nn v.l])] _ _
   (conv=>whnf);repeat' (first|((first|refine Aa hI ?_|refine Aa hF ?_|refine Aa hT ?_|refine Aa hN ?_|refine Aa hV ?_|refine Aa hu ?_|refine Aa hn ?_|refine Aa hp ?_);rintro _ rfl;conv=>whnf)|(refine kA ?_;conv=>whnf)|(refine Br.mk (fun hc=>?_) fun hc=>?_<;>first|exact hc.elim|conv=>whnf)|(refine kB ?_))
   all_goals first|rfl|(exfalso;omega)|exact absurd rfl (by assumption)|exact absurd (by assumption) eS|(exfalso;simp_all;done)
  rw[decide_eq_true e7]at hn
  by_cases e8:isNull v
  case pos=>
   rw[decide_eq_true e8]at hu
   have hr:IC ⟨(op:Int),z,fr,to,nm,v⟩=0:=Ya (by unfold Gl;rintro(h|h|h|h|h|h);exact h e1;exact h e2;exact h.1 eN;exact h.1 eV;exact eO h.1;exact h.2.elim (· e5) (· e6)) (fun h=>h.2 e7) (fun h=>h.2.1 e8)
   rw[hr]
   refine Ac rfl rfl ?_
   show vC _ _ [(0,.agg [.int .i64 (op:Int),.int .i64 z,.int .i64 fr,.int .i64 to,.str nm,.int .i64 v.k,.int .i64 v.n,.int .i64 v.d,.str v.s,.sl v.nn v.l])] _ _
   (conv=>whnf);repeat' (first|((first|refine Aa hI ?_|refine Aa hF ?_|refine Aa hT ?_|refine Aa hN ?_|refine Aa hV ?_|refine Aa hu ?_|refine Aa hn ?_|refine Aa hp ?_);rintro _ rfl;conv=>whnf)|(refine kA ?_;conv=>whnf)|(refine Br.mk (fun hc=>?_) fun hc=>?_<;>first|exact hc.elim|conv=>whnf)|(refine kB ?_))
   all_goals first|rfl|(exfalso;omega)|exact absurd rfl (by assumption)|exact absurd (by assumption) eS|(exfalso;simp_all;done)
  rw[decide_eq_false e8]at hu
  by_cases e9:D9 v
  case neg=>
   rw[decide_eq_false e9]at hp
   have hr:IC ⟨(op:Int),z,fr,to,nm,v⟩=8:=Ald (by unfold Gl;rintro(h|h|h|h|h|h);exact h e1;exact h e2;exact h.1 eN;exact h.1 eV;exact eO h.1;exact h.2.elim (· e5) (· e6)) (fun h=>h.2 e7) ⟨eV,e8,e9⟩
   rw[hr]
   refine Ac rfl rfl ?_
   show vC _ _ [(0,.agg [.int .i64 (op:Int),.int .i64 z,.int .i64 fr,.int .i64 to,.str nm,.int .i64 v.k,.int .i64 v.n,.int .i64 v.d,.str v.s,.sl v.nn v.l])] _ _
   (conv=>whnf);repeat' (first|((first|refine Aa hI ?_|refine Aa hF ?_|refine Aa hT ?_|refine Aa hN ?_|refine Aa hV ?_|refine Aa hu ?_|refine Aa hn ?_|refine Aa hp ?_);rintro _ rfl;conv=>whnf)|(refine kA ?_;conv=>whnf)|(refine Br.mk (fun hc=>?_) fun hc=>?_<;>first|exact hc.elim|conv=>whnf)|(refine kB ?_))
   all_goals first|rfl|(exfalso;omega)|exact absurd rfl (by assumption)|exact absurd (by assumption) eS|(exfalso;simp_all;done)
  rw[decide_eq_true e9]at hp
  have hr:IC ⟨(op:Int),z,fr,to,nm,v⟩=0:=Ya (by unfold Gl;rintro(h|h|h|h|h|h);exact h e1;exact h e2;exact h.1 eN;exact h.1 eV;exact eO h.1;exact h.2.elim (· e5) (· e6)) (fun h=>h.2 e7) (fun h=>h.2.2 e9)
  rw[hr]
  refine Ac rfl rfl ?_
  show vC _ _ [(0,.agg [.int .i64 (op:Int),.int .i64 z,.int .i64 fr,.int .i64 to,.str nm,.int .i64 v.k,.int .i64 v.n,.int .i64 v.d,.str v.s,.sl v.nn v.l])] _ _
  (conv=>whnf);repeat' (first|((first|refine Aa hI ?_|refine Aa hF ?_|refine Aa hT ?_|refine Aa hN ?_|refine Aa hV ?_|refine Aa hu ?_|refine Aa hn ?_|refine Aa hp ?_);rintro _ rfl;conv=>whnf)|(refine kA ?_;conv=>whnf)|(refine Br.mk (fun hc=>?_) fun hc=>?_<;>first|exact hc.elim|conv=>whnf)|(refine kB ?_))
  all_goals first|rfl|(exfalso;omega)|exact absurd rfl (by assumption)|exact absurd (by assumption) eS|(exfalso;simp_all;done)
 ·have eO:op≠6:=by omega
  have eN:Ri op:=by unfold Ri;omega
  have eV:¬Ve op:=by unfold Ve;omega
  rw[decide_eq_true eN]at hN
  rw[decide_eq_false eV]at hV
  by_cases e4:isNull v
  case neg=>
   rw[decide_eq_false e4]at hu
   have hr:IC ⟨(op:Int),z,fr,to,nm,v⟩=1:=Fe (by unfold Gl;exact .inr (.inr (.inr (.inl ⟨eV,e4⟩))))
   rw[hr]
   refine Ac rfl rfl ?_
   show vC _ _ [(0,.agg [.int .i64 (op:Int),.int .i64 z,.int .i64 fr,.int .i64 to,.str nm,.int .i64 v.k,.int .i64 v.n,.int .i64 v.d,.str v.s,.sl v.nn v.l])] _ _
   (conv=>whnf);repeat' (first|((first|refine Aa hI ?_|refine Aa hF ?_|refine Aa hT ?_|refine Aa hN ?_|refine Aa hV ?_|refine Aa hu ?_|refine Aa hn ?_|refine Aa hp ?_);rintro _ rfl;conv=>whnf)|(refine kA ?_;conv=>whnf)|(refine Br.mk (fun hc=>?_) fun hc=>?_<;>first|exact hc.elim|conv=>whnf)|(refine kB ?_))
   all_goals first|rfl|(exfalso;omega)|exact absurd rfl (by assumption)|exact absurd (by assumption) eS|(exfalso;simp_all;done)
  rw[decide_eq_true e4]at hu
  by_cases e5:fr=0
  case neg=>
   have hr:IC ⟨(op:Int),z,fr,to,nm,v⟩=1:=Fe (by unfold Gl;exact .inr (.inr (.inr (.inr (.inr ⟨eO,.inl e5⟩)))))
   rw[hr]
   refine Ac rfl rfl ?_
   show vC _ _ [(0,.agg [.int .i64 (op:Int),.int .i64 z,.int .i64 fr,.int .i64 to,.str nm,.int .i64 v.k,.int .i64 v.n,.int .i64 v.d,.str v.s,.sl v.nn v.l])] _ _
   (conv=>whnf);repeat' (first|((first|refine Aa hI ?_|refine Aa hF ?_|refine Aa hT ?_|refine Aa hN ?_|refine Aa hV ?_|refine Aa hu ?_|refine Aa hn ?_|refine Aa hp ?_);rintro _ rfl;conv=>whnf)|(refine kA ?_;conv=>whnf)|(refine Br.mk (fun hc=>?_) fun hc=>?_<;>first|exact hc.elim|conv=>whnf)|(refine kB ?_))
   all_goals first|rfl|(exfalso;omega)|exact absurd rfl (by assumption)|exact absurd (by assumption) eS|(exfalso;simp_all;done)
  by_cases e6:to=0
  case neg=>
   have hr:IC ⟨(op:Int),z,fr,to,nm,v⟩=1:=Fe (by unfold Gl;exact .inr (.inr (.inr (.inr (.inr ⟨eO,.inr e6⟩)))))
   rw[hr]
   refine Ac rfl rfl ?_
   show vC _ _ [(0,.agg [.int .i64 (op:Int),.int .i64 z,.int .i64 fr,.int .i64 to,.str nm,.int .i64 v.k,.int .i64 v.n,.int .i64 v.d,.str v.s,.sl v.nn v.l])] _ _
   (conv=>whnf);repeat' (first|((first|refine Aa hI ?_|refine Aa hF ?_|refine Aa hT ?_|refine Aa hN ?_|refine Aa hV ?_|refine Aa hu ?_|refine Aa hn ?_|refine Aa hp ?_);rintro _ rfl;conv=>whnf)|(refine kA ?_;conv=>whnf)|(refine Br.mk (fun hc=>?_) fun hc=>?_<;>first|exact hc.elim|conv=>whnf)|(refine kB ?_))
   all_goals first|rfl|(exfalso;omega)|exact absurd rfl (by assumption)|exact absurd (by assumption) eS|(exfalso;simp_all;done)
  by_cases e7:isName nm
  case neg=>
   rw[decide_eq_false e7]at hn
   have hr:IC ⟨(op:Int),z,fr,to,nm,v⟩=6:=Ad0 (by unfold Gl;rintro(h|h|h|h|h|h);exact h e1;exact h e2;exact h.1 eN;exact h.2 e4;exact eO h.1;exact h.2.elim (· e5) (· e6)) ⟨eN,e7⟩
   rw[hr]
   refine Ac rfl rfl ?_
   show vC _ _ [(0,.agg [.int .i64 (op:Int),.int .i64 z,.int .i64 fr,.int .i64 to,.str nm,.int .i64 v.k,.int .i64 v.n,.int .i64 v.d,.str v.s,.sl v.nn v.l])] _ _
   (conv=>whnf);repeat' (first|((first|refine Aa hI ?_|refine Aa hF ?_|refine Aa hT ?_|refine Aa hN ?_|refine Aa hV ?_|refine Aa hu ?_|refine Aa hn ?_|refine Aa hp ?_);rintro _ rfl;conv=>whnf)|(refine kA ?_;conv=>whnf)|(refine Br.mk (fun hc=>?_) fun hc=>?_<;>first|exact hc.elim|conv=>whnf)|(refine kB ?_))
   all_goals first|rfl|(exfalso;omega)|exact absurd rfl (by assumption)|exact absurd (by assumption) eS|(exfalso;simp_all;done)
  rw[decide_eq_true e7]at hn
  have hr:IC ⟨(op:Int),z,fr,to,nm,v⟩=0:=Ya (by unfold Gl;rintro(h|h|h|h|h|h);exact h e1;exact h e2;exact h.1 eN;exact h.2 e4;exact eO h.1;exact h.2.elim (· e5) (· e6)) (fun h=>h.2 e7) (fun h=>eV h.1)
  rw[hr]
  refine Ac rfl rfl ?_
  show vC _ _ [(0,.agg [.int .i64 (op:Int),.int .i64 z,.int .i64 fr,.int .i64 to,.str nm,.int .i64 v.k,.int .i64 v.n,.int .i64 v.d,.str v.s,.sl v.nn v.l])] _ _
  (conv=>whnf);repeat' (first|((first|refine Aa hI ?_|refine Aa hF ?_|refine Aa hT ?_|refine Aa hN ?_|refine Aa hV ?_|refine Aa hu ?_|refine Aa hn ?_|refine Aa hp ?_);rintro _ rfl;conv=>whnf)|(refine kA ?_;conv=>whnf)|(refine Br.mk (fun hc=>?_) fun hc=>?_<;>first|exact hc.elim|conv=>whnf)|(refine kB ?_))
  all_goals first|rfl|(exfalso;omega)|exact absurd rfl (by assumption)|exact absurd (by assumption) eS|(exfalso;simp_all;done)
 ·have eO:op≠6:=by omega
  have eN:¬Ri op:=by unfold Ri;omega
  have eV:¬Ve op:=by unfold Ve;omega
  rw[decide_eq_false eN]at hN
  rw[decide_eq_false eV]at hV
  by_cases e3:nm=[]
  case neg=>
   have eS:=e3
   have hr:IC ⟨(op:Int),z,fr,to,nm,v⟩=1:=Fe (by unfold Gl;exact .inr (.inr (.inl ⟨eN,e3⟩)))
   rw[hr]
   refine Ac rfl rfl ?_
   show vC _ _ [(0,.agg [.int .i64 (op:Int),.int .i64 z,.int .i64 fr,.int .i64 to,.str nm,.int .i64 v.k,.int .i64 v.n,.int .i64 v.d,.str v.s,.sl v.nn v.l])] _ _
   (conv=>whnf);repeat' (first|((first|refine Aa hI ?_|refine Aa hF ?_|refine Aa hT ?_|refine Aa hN ?_|refine Aa hV ?_|refine Aa hu ?_|refine Aa hn ?_|refine Aa hp ?_);rintro _ rfl;conv=>whnf)|(refine kA ?_;conv=>whnf)|(refine Br.mk (fun hc=>?_) fun hc=>?_<;>first|exact hc.elim|conv=>whnf)|(refine kB ?_))
   all_goals first|rfl|(exfalso;omega)|exact absurd rfl (by assumption)|exact absurd (by assumption) eS|(exfalso;simp_all;done)
  by_cases e4:isNull v
  case neg=>
   rw[decide_eq_false e4]at hu
   have hr:IC ⟨(op:Int),z,fr,to,nm,v⟩=1:=Fe (by unfold Gl;exact .inr (.inr (.inr (.inl ⟨eV,e4⟩))))
   rw[hr]
   refine Ac rfl rfl ?_
   show vC _ _ [(0,.agg [.int .i64 (op:Int),.int .i64 z,.int .i64 fr,.int .i64 to,.str nm,.int .i64 v.k,.int .i64 v.n,.int .i64 v.d,.str v.s,.sl v.nn v.l])] _ _
   (conv=>whnf);repeat' (first|((first|refine Aa hI ?_|refine Aa hF ?_|refine Aa hT ?_|refine Aa hN ?_|refine Aa hV ?_|refine Aa hu ?_|refine Aa hn ?_|refine Aa hp ?_);rintro _ rfl;conv=>whnf)|(refine kA ?_;conv=>whnf)|(refine Br.mk (fun hc=>?_) fun hc=>?_<;>first|exact hc.elim|conv=>whnf)|(refine kB ?_))
   all_goals first|rfl|(exfalso;omega)|exact absurd rfl (by assumption)|exact absurd (by assumption) eS|(exfalso;simp_all;done)
  rw[decide_eq_true e4]at hu
  by_cases e5:fr=0
  case neg=>
   have hr:IC ⟨(op:Int),z,fr,to,nm,v⟩=1:=Fe (by unfold Gl;exact .inr (.inr (.inr (.inr (.inr ⟨eO,.inl e5⟩)))))
   rw[hr]
   refine Ac rfl rfl ?_
   show vC _ _ [(0,.agg [.int .i64 (op:Int),.int .i64 z,.int .i64 fr,.int .i64 to,.str nm,.int .i64 v.k,.int .i64 v.n,.int .i64 v.d,.str v.s,.sl v.nn v.l])] _ _
   (conv=>whnf);repeat' (first|((first|refine Aa hI ?_|refine Aa hF ?_|refine Aa hT ?_|refine Aa hN ?_|refine Aa hV ?_|refine Aa hu ?_|refine Aa hn ?_|refine Aa hp ?_);rintro _ rfl;conv=>whnf)|(refine kA ?_;conv=>whnf)|(refine Br.mk (fun hc=>?_) fun hc=>?_<;>first|exact hc.elim|conv=>whnf)|(refine kB ?_))
   all_goals first|rfl|(exfalso;omega)|exact absurd rfl (by assumption)|exact absurd (by assumption) eS|(exfalso;simp_all;done)
  by_cases e6:to=0
  case neg=>
   have hr:IC ⟨(op:Int),z,fr,to,nm,v⟩=1:=Fe (by unfold Gl;exact .inr (.inr (.inr (.inr (.inr ⟨eO,.inr e6⟩)))))
   rw[hr]
   refine Ac rfl rfl ?_
   show vC _ _ [(0,.agg [.int .i64 (op:Int),.int .i64 z,.int .i64 fr,.int .i64 to,.str nm,.int .i64 v.k,.int .i64 v.n,.int .i64 v.d,.str v.s,.sl v.nn v.l])] _ _
   (conv=>whnf);repeat' (first|((first|refine Aa hI ?_|refine Aa hF ?_|refine Aa hT ?_|refine Aa hN ?_|refine Aa hV ?_|refine Aa hu ?_|refine Aa hn ?_|refine Aa hp ?_);rintro _ rfl;conv=>whnf)|(refine kA ?_;conv=>whnf)|(refine Br.mk (fun hc=>?_) fun hc=>?_<;>first|exact hc.elim|conv=>whnf)|(refine kB ?_))
   all_goals first|rfl|(exfalso;omega)|exact absurd rfl (by assumption)|exact absurd (by assumption) eS|(exfalso;simp_all;done)
  have hr:IC ⟨(op:Int),z,fr,to,nm,v⟩=0:=Ya (by unfold Gl;rintro(h|h|h|h|h|h);exact h e1;exact h e2;exact h.2 e3;exact h.2 e4;exact eO h.1;exact h.2.elim (· e5) (· e6)) (fun h=>eN h.1) (fun h=>eV h.1)
  rw[hr]
  refine Ac rfl rfl ?_
  show vC _ _ [(0,.agg [.int .i64 (op:Int),.int .i64 z,.int .i64 fr,.int .i64 to,.str nm,.int .i64 v.k,.int .i64 v.n,.int .i64 v.d,.str v.s,.sl v.nn v.l])] _ _
  (conv=>whnf);repeat' (first|((first|refine Aa hI ?_|refine Aa hF ?_|refine Aa hT ?_|refine Aa hN ?_|refine Aa hV ?_|refine Aa hu ?_|refine Aa hn ?_|refine Aa hp ?_);rintro _ rfl;conv=>whnf)|(refine kA ?_;conv=>whnf)|(refine Br.mk (fun hc=>?_) fun hc=>?_<;>first|exact hc.elim|conv=>whnf)|(refine kB ?_))
  all_goals first|rfl|(exfalso;omega)|exact absurd rfl (by assumption)|exact absurd (by assumption) eS|(exfalso;simp_all;done)
section
variable {g:GG} {n:GE} {z fr to:Int} {nm:List UInt8} {v:GV}
set_option maxHeartbeats 2000000 in
theorem AhZ (hg:g.ok) (hN:g.edges.length≤2900) (ha:Gu g) (hx:TB g) (hz:Md z) (hnm:Ln nm) (hv:v.ok) (hf:g.edges.find? (fun n=>decide (n.id=z))=some n):
 Af (Ad tab) 93 [g.av,(⟨8,z,fr,to,nm,v⟩:GC).av,n.av] (Dn (Bz g ⟨8,z,fr,to,nm,v⟩)):=by
 obtain⟨hm,hid⟩:=DX hf
 have hid:=of_decide_eq_true hid
 have hn:=ha.aE n hm
 have hno:=hg.2.2.2.2.2.1 n hm
 have hlP:=hn.lP
 have hG:Bz g ⟨8,z,fr,to,nm,v⟩=if isNull v then(0,{g with edges:=Ba Cc GE.id {n with props:=CP Op.bytesLess GP.key nm n.props} g.edges})else if(∃ p∈n.props,GP.key p=nm)∨n.props.length<16 then(0,{g with edges:=Ba Cc GE.id {n with pn:=true,props:=Ba Op.bytesLess GP.key ⟨nm,v⟩ n.props} g.edges})else(20,g):=by
  unfold Bz;dsimp only;rw[if_neg (by decide),hf];rfl
 rw[hG]
 have hz1:1≤n.id∧n.id≤1000000:=by unfold Md at hz;omega
 by_cases hc1:isNull v
 ·rw[if_pos hc1]
  obtain⟨_,⟨b,hb,rfl⟩,hw⟩:=(Za (P:=n.props) (nn:=n.pn) (key:=nm) (by omega) hn.iP hv hc1).JF
  have hle:(CP Op.bytesLess GP.key nm n.props).length≤16:=Nat.le_trans (Ea Aq) hlP
  rw[decide_eq_true hle]at hw
  have hpn:=AfI (g:=g) (n:=⟨n.id,n.fr,n.to,n.ty,b,CP Op.bytesLess GP.key nm n.props⟩) hg (by omega) ha.iE hz1.1 hz1.2
  refine Ac rfl rfl ?_
  show vC _ _ [(0,g.av),(1,.agg [.int .i64 8,.int .i64 z,.int .i64 fr,.int .i64 to,.str nm,.int .i64 v.k,.int .i64 v.n,.int .i64 v.d,.str v.s,.sl v.nn v.l]),(2,n.av)] _ _
  (conv=>whnf);repeat' (first|((first|refine Aa hw ?_|refine Aa hpn ?_);rintro _ rfl;conv=>whnf)|(refine kA ?_;conv=>whnf)|(refine Br.mk (fun hc=>?_) fun hc=>?_<;>first|exact hc.elim|conv=>whnf)|(refine kB ?_))
  all_goals first
   |exact Zb (m:=⟨n.id,n.fr,n.to,n.ty,b,CP Op.bytesLess GP.key nm n.props⟩) hg hN hx ⟨n,hm,rfl⟩ (XI (x:=⟨nm,v⟩) hno ⟨hnm,hv⟩ (N9 (by omega)) hb (fun y hy=>.inr (Cj hy))) rfl rfl
 ·rw[if_neg hc1]
  have hw:=X9 (P:=n.props) (nn:=n.pn) (key:=nm) (by omega) hn.iP hv hc1
  have h16:=Ai5 (key:=nm) (v:=v) hlP
  by_cases h5:(∃ p∈n.props,GP.key p=nm)∨n.props.length<16
  ·rw[if_pos h5]
   rw[decide_eq_true (h16.2 h5)]at hw
   have hpn:=AfI (g:=g) (n:=⟨n.id,n.fr,n.to,n.ty,true,Ba Op.bytesLess GP.key ⟨nm,v⟩ n.props⟩) hg (by omega) ha.iE hz1.1 hz1.2
   refine Ac rfl rfl ?_
   show vC _ _ [(0,g.av),(1,.agg [.int .i64 8,.int .i64 z,.int .i64 fr,.int .i64 to,.str nm,.int .i64 v.k,.int .i64 v.n,.int .i64 v.d,.str v.s,.sl v.nn v.l]),(2,n.av)] _ _
   (conv=>whnf);repeat' (first|((first|refine Aa hw ?_|refine Aa hpn ?_);rintro _ rfl;conv=>whnf)|(refine kA ?_;conv=>whnf)|(refine Br.mk (fun hc=>?_) fun hc=>?_<;>first|exact hc.elim|conv=>whnf)|(refine kB ?_))
   all_goals first
     |exact Zb (m:=⟨n.id,n.fr,n.to,n.ty,true,Ba Op.bytesLess GP.key ⟨nm,v⟩ n.props⟩) hg hN hx ⟨n,hm,rfl⟩ (XI (x:=⟨nm,v⟩) hno ⟨hnm,hv⟩ (Oa (by omega)) (fun h=>Bool.noConfusion h) (fun y hy=>Bg Aq hy)) rfl rfl
  ·rw[if_neg h5]
   rw[decide_eq_false (fun h=>h5 (h16.1 h))]at hw
   refine Ac rfl rfl ?_
   show vC _ _ [(0,g.av),(1,.agg [.int .i64 8,.int .i64 z,.int .i64 fr,.int .i64 to,.str nm,.int .i64 v.k,.int .i64 v.n,.int .i64 v.d,.str v.s,.sl v.nn v.l]),(2,n.av)] _ _
   (conv=>whnf);repeat' (first|(refine Aa hw ?_;rintro _ rfl;conv=>whnf)|(refine kA ?_;conv=>whnf)|(refine Br.mk (fun hc=>?_) fun hc=>?_<;>first|exact hc.elim|conv=>whnf)|(refine kB ?_))
   all_goals first
     |exact Dn.no rfl (by decide)
set_option maxHeartbeats 2000000 in
theorem Ah0 (hg:g.ok) (hE:g.edges.length≤2900) (ha:Gu g) (hf:g.edges.find? (fun n=>decide (n.id=z))=some n):
 Af (Ad tab) 93 [g.av,(⟨7,z,fr,to,nm,v⟩:GC).av,n.av] (Dn (Bz g ⟨7,z,fr,to,nm,v⟩)):=by
 have hG:Bz g ⟨7,z,fr,to,nm,v⟩=(0,{g with edges:=CP Cc GE.id z g.edges}):=by
  unfold Bz;dsimp only;rw[if_neg (by decide),hf];rfl
 rw[hG,JC Ag ha.iE]
 refine Ac rfl rfl ?_
 show vC _ _ [(0,g.av),(1,.agg [.int .i64 7,.int .i64 z,.int .i64 fr,.int .i64 to,.str nm,.int .i64 v.k,.int .i64 v.n,.int .i64 v.d,.str v.s,.sl v.nn v.l]),(2,n.av)] _ _
 (conv=>whnf);repeat' (first  |(refine kA ?_;conv=>whnf)|(refine Br.mk (fun hc=>?_) fun hc=>?_<;>first|exact hc.elim|conv=>whnf)|(refine kB ?_))
 refine Ap (fun m env s=>∃(i c' go k:Nat) (f:Bool) (l:List GE),m=g.edges.length-i∧i≤g.edges.length∧k=l.length∧l.length≤i∧(f=false→l=[])∧l=(g.edges.take i).filter (fun a=>decide (GE.id a≠z))∧env=[(3,.ref 0 0 0 0),(4,.ref 1 1 0 0),(6,.ref 3 3 0 0),(10,.own 4 go 0 k),(11,.int .i64 i)]∧s=⟨[.arr 0 4 true true [g.av],.arr 1 10 true true [(⟨7,z,fr,to,nm,v⟩:GC).av],.arr 2 5 true true [n.av],.arr 3 4 true true [.agg [.sl false [],.sl false [],.int .i64 0,.int .i64 0]],.arr go 5 f true (vs GE.av l)],c'⟩) ?_ _ _ _ ⟨0,_,_,0,_,[],rfl,by omega,rfl,by simp,fun _=>rfl,by simp,rfl,rfl⟩
 rintro _ _ _ ⟨i,c',go,k,f,l,rfl,hi,hk,hl,hff,hx,rfl,rfl⟩
 refine⟨rfl,?_⟩
 subst hk
 by_cases hlt:i<g.edges.length
 ·have hs:=List.take_succ_eq_append_getElem hlt
  (conv=>whnf);repeat' (first|(refine Ij (x:=g.edges[i]) cellsE rfl (by omega) ?_;conv=>whnf)|(refine kA ?_;conv=>whnf)|(refine Br.mk (fun hc=>?_) fun hc=>?_<;>first|exact hc.elim|conv=>whnf)|(refine kB ?_))
  all_goals first
   |exact again.mk ⟨_,by omega,i+1,_,_,_,_,l++[g.edges[i]],rfl,by omega,by simp,by simp;omega,fun h=>Bool.noConfusion h,by rw[hs,List.filter_append,←hx,List.filter_cons_of_pos (by simp;omega),List.filter_nil],rfl,rfl⟩
   |exact again.mk ⟨_,by omega,i+1,_,_,_,_,l,rfl,by omega,rfl,by omega,hff,by rw[hs,List.filter_append,←hx,List.filter_cons_of_neg (by simp;omega),List.filter_nil,List.append_nil],rfl,rfl⟩
 ·rw[show i=g.edges.length by omega,List.take_length]at hx
  (conv=>whnf);repeat' (first  |(refine kA ?_;conv=>whnf)|(refine Br.mk (fun hc=>?_) fun hc=>?_<;>first|exact hc.elim|conv=>whnf)|(refine kB ?_))
  refine AL (x:=GG.av ⟨g.nn,g.nodes,f,l,g.BA,g.BJ⟩) ?_ ?_
  ·exact Aeg (m:=999978) (a:=.sl g.nn (vs GN.av g.nodes)) (b:=.own 4 go 0 l.length) (N:=g.BA) (E:=g.BJ) (fun _=>rfl) (fun _=>Aef rfl rfl)
  (conv=>whnf);repeat' (first  |(refine kA ?_;conv=>whnf)|(refine Br.mk (fun hc=>?_) fun hc=>?_<;>first|exact hc.elim|conv=>whnf)|(refine kB ?_))
  subst hx
  obtain⟨g1,g2,g3,g4,g5,g6,g7,g8⟩:=hg
  exact Dn.yes (h:=⟨g.nn,g.nodes,f,_,g.BA,g.BJ⟩) rfl rfl ⟨g1,g2,g3,by unfold Ln;dsimp only;omega,hff,fun x hx=>g6 x ((List.mem_filter.1 hx).1),g7,g8⟩
end
theorem Zc {α:Type} {p:α→Bool} {l:List α} (h:l.find? p=none):¬∃n∈l,p n=true:=by
 rw[List.find?_eq_none]at h
 rintro⟨n,hn,e⟩
 exact h n hn e
theorem Oz (l:List GN) (z:Int):(∃ n,l.find? (fun n=>decide (n.id=z))=some n∧VI l z=.Cb [n.av,.bool true]∧∃n∈l,n.id=z)∨(l.find? (fun n=>decide (n.id=z))=none∧VI l z=.Cb [N0.av,.bool false]∧¬∃n∈l,n.id=z):=by
 unfold VI isN
 cases h:l.find? (fun n=>decide (n.id=z))with
 |none=>exact .inr ⟨rfl,rfl,fun⟨n,hn,e⟩=>Zc h ⟨n,hn,decide_eq_true e⟩⟩
 |some n=>exact .inl ⟨n,rfl,rfl,n,(DX h).1,of_decide_eq_true (DX h).2⟩
theorem RP (l:List GE) (z:Int):(∃ n,l.find? (fun n=>decide (n.id=z))=some n∧MJ l z=.Cb [n.av,.bool true]∧∃n∈l,n.id=z)∨(l.find? (fun n=>decide (n.id=z))=none∧MJ l z=.Cb [E0.av,.bool false]∧¬∃n∈l,n.id=z):=by
 unfold MJ isE
 cases h:l.find? (fun n=>decide (n.id=z))with
 |none=>exact .inr ⟨rfl,rfl,fun⟨n,hn,e⟩=>Zc h ⟨n,hn,decide_eq_true e⟩⟩
 |some n=>exact .inl ⟨n,rfl,rfl,n,(DX h).1,of_decide_eq_true (DX h).2⟩
theorem no1 {g:GG} {c:GC} (h:c.op=1) (hx:∃n∈g.nodes,n.id=c.id):Bc g c=(7,g):=by unfold Bc;rw[if_pos h,if_pos hx]
theorem Ao3 {g:GG} {c:GC} (h:c.op=1) (hx:¬∃n∈g.nodes,n.id=c.id) (hl:¬g.nodes.length<2000):Bc g c=(20,g):=by unfold Bc;rw[if_pos h,if_neg hx,if_neg hl]
theorem Ao4 {g:GG} {c:GC} (h:c.op=1) (hx:¬∃n∈g.nodes,n.id=c.id) (hl:g.nodes.length<2000):Bc g c=(0,{g with nn:=true,nodes:=Ba Cc GN.id ⟨c.id,false,[],false,[]⟩ g.nodes,BA:=if c.id+1>g.BA then c.id+1 else g.BA}):=by unfold Bc;rw[if_pos h,if_neg hx,if_pos hl]
theorem Ah1 {g:GG} {c:GC} (h:c.op≠1) (hx:g.nodes.find? (fun n=>decide (n.id=c.id))=none):Bc g c=(10,g):=by unfold Bc;rw[if_neg h,hx]
theorem no6 {g:GG} {c:GC} (h:c.op=6) (hx:∃n∈g.edges,n.id=c.id):Bz g c=(7,g):=by unfold Bz;rw[if_pos h,if_pos hx]
theorem Amz {g:GG} {c:GC} (h:c.op=6) (hx:¬∃n∈g.edges,n.id=c.id) (hn:¬((∃ n∈g.nodes,n.id=c.fr)∧(∃ n∈g.nodes,n.id=c.to))):Bz g c=(10,g):=by unfold Bz;rw[if_pos h,if_neg hx,if_neg hn]
theorem Ao5 {g:GG} {c:GC} (h:c.op=6) (hx:¬∃n∈g.edges,n.id=c.id) (hn:(∃ n∈g.nodes,n.id=c.fr)∧(∃ n∈g.nodes,n.id=c.to)) (hl:g.edges.length<4000):Bz g c=(0,{g with en:=true,edges:=Ba Cc GE.id ⟨c.id,c.fr,c.to,c.name,false,[]⟩ g.edges,BJ:=if c.id+1>g.BJ then c.id+1 else g.BJ}):=by unfold Bz;rw[if_pos h,if_neg hx,if_pos hn,if_pos hl]
theorem AmA {g:GG} {c:GC} (h:c.op≠6) (hx:g.edges.find? (fun n=>decide (n.id=c.id))=none):Bz g c=(11,g):=by unfold Bz;rw[if_neg h,hx]
set_option maxHeartbeats 8000000 in
theorem AmB {g:GG} {c:GC} (hg:g.ok) (hN:g.nodes.length≤2900) (hE:g.edges.length≤2900) (ha:Gu g) (hx:TB g) (hc:c.ok):
 Af (Ad tab) 59 [g.av,c.av] (Dn (stepG g c)):=by
 have hck:=Ajk hc
 by_cases h0:IC c=0
 rotate_left
 ·have hG:stepG g c=(IC c,g):=by unfold stepG;rw[if_pos h0]
  rw[hG]
  generalize IC c=e at hck h0 ⊢
  refine Ac rfl rfl ?_
  (conv=>whnf);repeat' (first|(refine Aa hck ?_;rintro _ rfl;conv=>whnf)|(refine kA ?_;conv=>whnf)|(refine Br.mk (fun hc=>?_) fun hc=>?_<;>first|exact hc.elim|conv=>whnf)|(refine kB ?_))
  all_goals first|exact Dn.no rfl h0|(exfalso;omega)
 rw[h0]at hck
 obtain⟨hop,hid,_,h6,_⟩:=AeF h0
 obtain⟨c1,c2,c3,c4,c5,c6⟩:=hc
 have hG:stepG g c=if c.op≤5 then Bc g c else Bz g c:=by unfold stepG;rw[if_neg (fun k=>k h0)]
 rw[hG]
 clear hG h0
 have hn:=Aee (g:=g) (id:=c.id) (by omega)
 have he:=Alq (g:=g) (id:=c.id) (by omega)
 have hf:=Aee (g:=g) (id:=c.fr) (by omega)
 have ht:=Aee (g:=g) (id:=c.to) (by omega)
 obtain⟨op,z,fr,to,nm,v⟩:=c
 dsimp only at hop hid h6 hn he hf ht c1 c2 c3 c4 c5 c6 ⊢
 have hz1:1≤z∧z≤1000000:=hid
 have hpn:=Zd (g:=g) (n:=⟨z,false,[],false,[]⟩) hg (by omega) ha.iN hz1.1 hz1.2
 have hpe:=AfI (g:=g) (n:=⟨z,fr,to,nm,false,[]⟩) hg (by omega) ha.iE hz1.1 hz1.2
 have hg7:=hg.2.2.2.2.2.2.1
 have hg8:=hg.2.2.2.2.2.2.2
 have hI7:I64 (if z+1>g.BA then z+1 else g.BA):=by unfold I64 at *;split<;>omega
 have hI8:I64 (if z+1>g.BJ then z+1 else g.BJ):=by unfold I64 at *;split<;>omega
 have hd:op=1∨op=2∨op=3∨op=4∨op=5∨op=6∨op=7∨op=8:=by omega
 rcases hd with rfl|rfl|rfl|rfl|rfl|rfl|rfl|rfl
 ·rw[if_pos (by decide)]
  obtain⟨_,⟨e,be,rfl⟩,he⟩:=(Af.mono (R':=fun w=>∃(e:GE) (b:Bool),w=.Cb [e.av,.bool b]) he (fun w h=>by rcases RP g.edges z with⟨e,_,ee,_⟩|⟨_,ee,_⟩<;>rw[ee]at h<;>exact⟨_,_,h⟩)).JF
  rcases Oz g.nodes z with⟨n,fn,en,xn⟩|⟨fn,en,xn⟩<;>rw[en]at hn
  ·refine Ac rfl rfl ?_
   show vC _ _ [(0,g.av),(1,.agg [.int .i64 1,.int .i64 z,.int .i64 fr,.int .i64 to,.str nm,.int .i64 v.k,.int .i64 v.n,.int .i64 v.d,.str v.s,.sl v.nn v.l])] _ _
   (conv=>whnf);repeat' (first|((first|refine Aa hck ?_|refine Aa hn ?_|refine Aa he ?_);rintro _ rfl;conv=>whnf)|(refine kA ?_;conv=>whnf)|(refine Br.mk (fun hc=>?_) fun hc=>?_<;>first|exact hc.elim|conv=>whnf)|(refine kB ?_))
   all_goals first|exact Dn.no (no1 rfl xn) (by decide)|(exfalso;omega)
  ·refine Ac rfl rfl ?_
   show vC _ _ [(0,g.av),(1,.agg [.int .i64 1,.int .i64 z,.int .i64 fr,.int .i64 to,.str nm,.int .i64 v.k,.int .i64 v.n,.int .i64 v.d,.str v.s,.sl v.nn v.l])] _ _
   (conv=>whnf);repeat' (first|((first|refine Aa hck ?_|refine Aa hn ?_|refine Aa he ?_|refine Aa hpn ?_);rintro _ rfl;conv=>whnf)|(refine kA ?_;conv=>whnf)|(refine Br.mk (fun hc=>?_) fun hc=>?_<;>first|exact hc.elim|conv=>whnf)|(refine kB ?_))
   all_goals first
     |exact Dn.no (Ao3 rfl xn (by omega)) (by decide)
     |exact Dn.yes (h:=⟨true,_,g.en,g.edges,_,g.BJ⟩) (Ao4 rfl xn (by omega)) rfl (Td hg (Ab6 c2) (Nv Ag (by omega)) (fun x hx=>Bg Ag hx) hI7)
     |(exfalso;omega)
 ·rw[if_pos (by decide)]
  obtain⟨_,⟨e,be,rfl⟩,he⟩:=(Af.mono (R':=fun w=>∃(e:GE) (b:Bool),w=.Cb [e.av,.bool b]) he (fun w h=>by rcases RP g.edges z with⟨e,_,ee,_⟩|⟨_,ee,_⟩<;>rw[ee]at h<;>exact⟨_,_,h⟩)).JF
  rcases Oz g.nodes z with⟨n,fn,en,xn⟩|⟨fn,en,xn⟩<;>rw[en]at hn
  ·refine Ac rfl rfl ?_
   show vC _ _ [(0,g.av),(1,.agg [.int .i64 2,.int .i64 z,.int .i64 fr,.int .i64 to,.str nm,.int .i64 v.k,.int .i64 v.n,.int .i64 v.d,.str v.s,.sl v.nn v.l])] _ _
   (conv=>whnf);repeat' (first|((first|refine Aa hck ?_|refine Aa hn ?_|refine Aa he ?_);rintro _ rfl;conv=>whnf)|(refine Aa (AgK hg hN hE ha c5 fn) ?_;rintro _ ⟨h,rfl,q1,q2⟩;conv=>whnf)|(refine kA ?_;conv=>whnf)|(refine Br.mk (fun hc=>?_) fun hc=>?_<;>first|exact hc.elim|conv=>whnf)|(refine kB ?_))
   all_goals first|exact⟨h,rfl,q1,q2⟩
  ·refine Ac rfl rfl ?_
   show vC _ _ [(0,g.av),(1,.agg [.int .i64 2,.int .i64 z,.int .i64 fr,.int .i64 to,.str nm,.int .i64 v.k,.int .i64 v.n,.int .i64 v.d,.str v.s,.sl v.nn v.l])] _ _
   (conv=>whnf);repeat' (first|((first|refine Aa hck ?_|refine Aa hn ?_|refine Aa he ?_);rintro _ rfl;conv=>whnf)|(refine kA ?_;conv=>whnf)|(refine Br.mk (fun hc=>?_) fun hc=>?_<;>first|exact hc.elim|conv=>whnf)|(refine kB ?_))
   all_goals first|exact Dn.no (Ah1 (show (2:Int)≠1 by decide) fn) (by decide)
 ·rw[if_pos (by decide)]
  obtain⟨_,⟨e,be,rfl⟩,he⟩:=(Af.mono (R':=fun w=>∃(e:GE) (b:Bool),w=.Cb [e.av,.bool b]) he (fun w h=>by rcases RP g.edges z with⟨e,_,ee,_⟩|⟨_,ee,_⟩<;>rw[ee]at h<;>exact⟨_,_,h⟩)).JF
  rcases Oz g.nodes z with⟨n,fn,en,xn⟩|⟨fn,en,xn⟩<;>rw[en]at hn
  ·refine Ac rfl rfl ?_
   show vC _ _ [(0,g.av),(1,.agg [.int .i64 3,.int .i64 z,.int .i64 fr,.int .i64 to,.str nm,.int .i64 v.k,.int .i64 v.n,.int .i64 v.d,.str v.s,.sl v.nn v.l])] _ _
   (conv=>whnf);repeat' (first|((first|refine Aa hck ?_|refine Aa hn ?_|refine Aa he ?_);rintro _ rfl;conv=>whnf)|(refine Aa (Ah2 hg hN ha hx hid c5 fn) ?_;rintro _ ⟨h,rfl,q1,q2⟩;conv=>whnf)|(refine kA ?_;conv=>whnf)|(refine Br.mk (fun hc=>?_) fun hc=>?_<;>first|exact hc.elim|conv=>whnf)|(refine kB ?_))
   all_goals first|exact⟨h,rfl,q1,q2⟩
  ·refine Ac rfl rfl ?_
   show vC _ _ [(0,g.av),(1,.agg [.int .i64 3,.int .i64 z,.int .i64 fr,.int .i64 to,.str nm,.int .i64 v.k,.int .i64 v.n,.int .i64 v.d,.str v.s,.sl v.nn v.l])] _ _
   (conv=>whnf);repeat' (first|((first|refine Aa hck ?_|refine Aa hn ?_|refine Aa he ?_);rintro _ rfl;conv=>whnf)|(refine kA ?_;conv=>whnf)|(refine Br.mk (fun hc=>?_) fun hc=>?_<;>first|exact hc.elim|conv=>whnf)|(refine kB ?_))
   all_goals first|exact Dn.no (Ah1 (show (3:Int)≠1 by decide) fn) (by decide)
 ·rw[if_pos (by decide)]
  obtain⟨_,⟨e,be,rfl⟩,he⟩:=(Af.mono (R':=fun w=>∃(e:GE) (b:Bool),w=.Cb [e.av,.bool b]) he (fun w h=>by rcases RP g.edges z with⟨e,_,ee,_⟩|⟨_,ee,_⟩<;>rw[ee]at h<;>exact⟨_,_,h⟩)).JF
  rcases Oz g.nodes z with⟨n,fn,en,xn⟩|⟨fn,en,xn⟩<;>rw[en]at hn
  ·refine Ac rfl rfl ?_
   show vC _ _ [(0,g.av),(1,.agg [.int .i64 4,.int .i64 z,.int .i64 fr,.int .i64 to,.str nm,.int .i64 v.k,.int .i64 v.n,.int .i64 v.d,.str v.s,.sl v.nn v.l])] _ _
   (conv=>whnf);repeat' (first|((first|refine Aa hck ?_|refine Aa hn ?_|refine Aa he ?_);rintro _ rfl;conv=>whnf)|(refine Aa (Ah3 hg hN ha hx hid c5 fn) ?_;rintro _ ⟨h,rfl,q1,q2⟩;conv=>whnf)|(refine kA ?_;conv=>whnf)|(refine Br.mk (fun hc=>?_) fun hc=>?_<;>first|exact hc.elim|conv=>whnf)|(refine kB ?_))
   all_goals first|exact⟨h,rfl,q1,q2⟩
  ·refine Ac rfl rfl ?_
   show vC _ _ [(0,g.av),(1,.agg [.int .i64 4,.int .i64 z,.int .i64 fr,.int .i64 to,.str nm,.int .i64 v.k,.int .i64 v.n,.int .i64 v.d,.str v.s,.sl v.nn v.l])] _ _
   (conv=>whnf);repeat' (first|((first|refine Aa hck ?_|refine Aa hn ?_|refine Aa he ?_);rintro _ rfl;conv=>whnf)|(refine kA ?_;conv=>whnf)|(refine Br.mk (fun hc=>?_) fun hc=>?_<;>first|exact hc.elim|conv=>whnf)|(refine kB ?_))
   all_goals first|exact Dn.no (Ah1 (show (4:Int)≠1 by decide) fn) (by decide)
 ·rw[if_pos (by decide)]
  obtain⟨_,⟨e,be,rfl⟩,he⟩:=(Af.mono (R':=fun w=>∃(e:GE) (b:Bool),w=.Cb [e.av,.bool b]) he (fun w h=>by rcases RP g.edges z with⟨e,_,ee,_⟩|⟨_,ee,_⟩<;>rw[ee]at h<;>exact⟨_,_,h⟩)).JF
  rcases Oz g.nodes z with⟨n,fn,en,xn⟩|⟨fn,en,xn⟩<;>rw[en]at hn
  ·refine Ac rfl rfl ?_
   show vC _ _ [(0,g.av),(1,.agg [.int .i64 5,.int .i64 z,.int .i64 fr,.int .i64 to,.str nm,.int .i64 v.k,.int .i64 v.n,.int .i64 v.d,.str v.s,.sl v.nn v.l])] _ _
   (conv=>whnf);repeat' (first|((first|refine Aa hck ?_|refine Aa hn ?_|refine Aa he ?_);rintro _ rfl;conv=>whnf)|(refine Aa (Ah4 hg hN ha hx hid c5 c6 fn) ?_;rintro _ ⟨h,rfl,q1,q2⟩;conv=>whnf)|(refine kA ?_;conv=>whnf)|(refine Br.mk (fun hc=>?_) fun hc=>?_<;>first|exact hc.elim|conv=>whnf)|(refine kB ?_))
   all_goals first|exact⟨h,rfl,q1,q2⟩
  ·refine Ac rfl rfl ?_
   show vC _ _ [(0,g.av),(1,.agg [.int .i64 5,.int .i64 z,.int .i64 fr,.int .i64 to,.str nm,.int .i64 v.k,.int .i64 v.n,.int .i64 v.d,.str v.s,.sl v.nn v.l])] _ _
   (conv=>whnf);repeat' (first|((first|refine Aa hck ?_|refine Aa hn ?_|refine Aa he ?_);rintro _ rfl;conv=>whnf)|(refine kA ?_;conv=>whnf)|(refine Br.mk (fun hc=>?_) fun hc=>?_<;>first|exact hc.elim|conv=>whnf)|(refine kB ?_))
   all_goals first|exact Dn.no (Ah1 (show (5:Int)≠1 by decide) fn) (by decide)
 ·rw[if_neg (by decide)]
  obtain⟨_,⟨e,be,rfl⟩,hn⟩:=(Af.mono (R':=fun w=>∃(e:GN) (b:Bool),w=.Cb [e.av,.bool b]) hn (fun w h=>by rcases Oz g.nodes z with⟨e,_,ee,_⟩|⟨_,ee,_⟩<;>rw[ee]at h<;>exact⟨_,_,h⟩)).JF
  rcases RP g.edges z with⟨n,fn,en,xn⟩|⟨fn,en,xn⟩<;>rw[en]at he<;>rcases Oz g.nodes fr with⟨nf,ff,ef,xf⟩|⟨ff,ef,xf⟩<;>rw[ef]at hf<;>rcases Oz g.nodes to with⟨nt,ft,et,xt⟩|⟨ft,et,xt⟩<;>rw[et]at ht
  all_goals
   refine Ac rfl rfl ?_
   show vC _ _ [(0,g.av),(1,.agg [.int .i64 6,.int .i64 z,.int .i64 fr,.int .i64 to,.str nm,.int .i64 v.k,.int .i64 v.n,.int .i64 v.d,.str v.s,.sl v.nn v.l])] _ _
   (conv=>whnf);repeat' (first|((first|refine Aa hck ?_|refine Aa hn ?_|refine Aa he ?_|refine Aa hf ?_|refine Aa ht ?_|refine Aa hpe ?_);rintro _ rfl;conv=>whnf)|(refine kA ?_;conv=>whnf)|(refine Br.mk (fun hc=>?_) fun hc=>?_<;>first|exact hc.elim|conv=>whnf)|(refine kB ?_))
   all_goals first
     |exact Dn.no (no6 rfl xn) (by decide)
     |exact Dn.no (Amz rfl xn (fun h=>xf h.1)) (by decide)
     |exact Dn.no (Amz rfl xn (fun h=>xt h.2)) (by decide)
     |exact Dn.yes (h:=⟨g.nn,g.nodes,true,_,g.BA,_⟩) (Ao5 rfl xn ⟨xf,xt⟩ (by omega)) rfl (Tf hg (Ab7 c2 c3 c4 c5) (Nv Ag (by omega)) (fun x hx=>Bg Ag hx) hI8)
     |(exfalso;omega)
 ·rw[if_neg (by decide)]
  obtain⟨_,⟨e,be,rfl⟩,hn⟩:=(Af.mono (R':=fun w=>∃(e:GN) (b:Bool),w=.Cb [e.av,.bool b]) hn (fun w h=>by rcases Oz g.nodes z with⟨e,_,ee,_⟩|⟨_,ee,_⟩<;>rw[ee]at h<;>exact⟨_,_,h⟩)).JF
  rcases RP g.edges z with⟨n,fn,en,xn⟩|⟨fn,en,xn⟩<;>rw[en]at he
  ·refine Ac rfl rfl ?_
   show vC _ _ [(0,g.av),(1,.agg [.int .i64 7,.int .i64 z,.int .i64 fr,.int .i64 to,.str nm,.int .i64 v.k,.int .i64 v.n,.int .i64 v.d,.str v.s,.sl v.nn v.l])] _ _
   (conv=>whnf);repeat' (first|((first|refine Aa hck ?_|refine Aa hn ?_|refine Aa he ?_);rintro _ rfl;conv=>whnf)|(refine Aa (Ah0 hg hE ha fn) ?_;rintro _ ⟨h,rfl,q1,q2⟩;conv=>whnf)|(refine kA ?_;conv=>whnf)|(refine Br.mk (fun hc=>?_) fun hc=>?_<;>first|exact hc.elim|conv=>whnf)|(refine kB ?_))
   all_goals first|exact⟨h,rfl,q1,q2⟩
  ·refine Ac rfl rfl ?_
   show vC _ _ [(0,g.av),(1,.agg [.int .i64 7,.int .i64 z,.int .i64 fr,.int .i64 to,.str nm,.int .i64 v.k,.int .i64 v.n,.int .i64 v.d,.str v.s,.sl v.nn v.l])] _ _
   (conv=>whnf);repeat' (first|((first|refine Aa hck ?_|refine Aa hn ?_|refine Aa he ?_);rintro _ rfl;conv=>whnf)|(refine kA ?_;conv=>whnf)|(refine Br.mk (fun hc=>?_) fun hc=>?_<;>first|exact hc.elim|conv=>whnf)|(refine kB ?_))
   all_goals first|exact Dn.no (AmA (show (7:Int)≠6 by decide) fn) (by decide)
 ·rw[if_neg (by decide)]
  obtain⟨_,⟨e,be,rfl⟩,hn⟩:=(Af.mono (R':=fun w=>∃(e:GN) (b:Bool),w=.Cb [e.av,.bool b]) hn (fun w h=>by rcases Oz g.nodes z with⟨e,_,ee,_⟩|⟨_,ee,_⟩<;>rw[ee]at h<;>exact⟨_,_,h⟩)).JF
  rcases RP g.edges z with⟨n,fn,en,xn⟩|⟨fn,en,xn⟩<;>rw[en]at he
  ·refine Ac rfl rfl ?_
   show vC _ _ [(0,g.av),(1,.agg [.int .i64 8,.int .i64 z,.int .i64 fr,.int .i64 to,.str nm,.int .i64 v.k,.int .i64 v.n,.int .i64 v.d,.str v.s,.sl v.nn v.l])] _ _
   (conv=>whnf);repeat' (first|((first|refine Aa hck ?_|refine Aa hn ?_|refine Aa he ?_);rintro _ rfl;conv=>whnf)|(refine Aa (AhZ hg hE ha hx hid c5 c6 fn) ?_;rintro _ ⟨h,rfl,q1,q2⟩;conv=>whnf)|(refine kA ?_;conv=>whnf)|(refine Br.mk (fun hc=>?_) fun hc=>?_<;>first|exact hc.elim|conv=>whnf)|(refine kB ?_))
   all_goals first|exact⟨h,rfl,q1,q2⟩
  ·refine Ac rfl rfl ?_
   show vC _ _ [(0,g.av),(1,.agg [.int .i64 8,.int .i64 z,.int .i64 fr,.int .i64 to,.str nm,.int .i64 v.k,.int .i64 v.n,.int .i64 v.d,.str v.s,.sl v.nn v.l])] _ _
   (conv=>whnf);repeat' (first|((first|refine Aa hck ?_|refine Aa hn ?_|refine Aa he ?_);rintro _ rfl;conv=>whnf)|(refine kA ?_;conv=>whnf)|(refine Br.mk (fun hc=>?_) fun hc=>?_<;>first|exact hc.elim|conv=>whnf)|(refine kB ?_))
   all_goals first|exact Dn.no (AmA (show (8:Int)≠6 by decide) fn) (by decide)
end AI
end Go.Proofs.YtchcadfjbkkgmaaGreatDoor
