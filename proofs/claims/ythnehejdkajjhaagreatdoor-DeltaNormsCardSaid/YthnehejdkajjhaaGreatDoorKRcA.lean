/- The reference's Check of a change. -/
import Derived.Test.YthnehejdkajjhaaGreatDoorKMan
import Derived.Test.YthnehejdkajjhaaGreatDoorKCk7
import Derived.Test.YthnehejdkajjhaaGreatDoorKMai
set_option linter.unusedVariables false
set_option maxRecDepth 4000
namespace Go.Proofs.YthnehejdkajjhaaGreatDoor
namespace AI
theorem idR {z:Int}:Ag (Ac tab) 119 [.int .i64 z] (· =.bool (decide (Jw z))):=by
 refine Ad rfl rfl ?_
 (conv=>whnf);repeat' (first  |refine kA ?_;conv=>whnf|(apply Br.mk<;>intro hc<;>first|exact hc.elim|conv=>whnf)|refine kB ?_)
 all_goals first|exact Bh (by unfold Jw;omega)|exact Ar (by unfold Jw;omega)
theorem Anp {op:Int}:Ag (Ac tab) 120 [.int .i64 op] (· =.bool (decide (Oi op))):=by
 refine Ad rfl rfl ?_
 (conv=>whnf);repeat' (first  |refine kA ?_;conv=>whnf|(apply Br.mk<;>intro hc<;>first|exact hc.elim|conv=>whnf)|refine kB ?_)
 all_goals first|exact Bh (by unfold Oi;omega)|exact Ar (by unfold Oi;omega)
theorem Aj8 {op:Int}:Ag (Ac tab) 121 [.int .i64 op] (· =.bool (decide (Un op))):=by
 refine Ad rfl rfl ?_
 (conv=>whnf);repeat' (first  |refine kA ?_;conv=>whnf|(apply Br.mk<;>intro hc<;>first|exact hc.elim|conv=>whnf)|refine kB ?_)
 all_goals first|exact Bh (by unfold Un;omega)|exact Ar (by unfold Un;omega)
theorem Gf {c:GC} (h:G7 c):Il c=1:=by unfold Il;rw[if_pos h]
theorem AgC {c:GC} (h:¬G7 c) (h2:Oi c.op∧¬isName c.name):Il c=6:=by unfold Il;rw[if_neg h,if_pos h2]
theorem Aqy {c:GC} (h:¬G7 c) (h2:¬(Oi c.op∧¬isName c.name)) (h3:Un c.op∧¬isNull c.v∧¬DW c.v):Il c=8:=by unfold Il;rw[if_neg h,if_neg h2,if_pos h3]
theorem AaJ {c:GC} (h:¬G7 c) (h2:¬(Oi c.op∧¬isName c.name)) (h3:¬(Un c.op∧¬isNull c.v∧¬DW c.v)):Il c=0:=by unfold Il;rw[if_neg h,if_neg h2,if_neg h3]
set_option maxHeartbeats 8000000 in
theorem Anq {c:GC} (h:c.ok):Ag (Ac tab) 69 [c.av] (· =.int .i64 (Il c)):=by
 obtain⟨op,z,fr,to,nm,v⟩:=c
 obtain⟨h1,h2,h3,h4,h5,h6⟩:=h
 have hn:=name2 (s:=nm) (by have:=h5;simp only[Ln]at this;omega)
 have hp:=AgD (v:=v) h6
 have hu:=AgE (g:=v) h6
 have hI:=idR (z:=z)
 have hF:=idR (z:=fr)
 have hT:=idR (z:=to)
 have hN:=Anp (op:=op)
 have hV:=Aj8 (op:=op)
 clear h1 h2 h3 h4 h5 h6
 have eS:True:=trivial
 by_cases e1:1≤op∧op≤8
 case neg=>
  have hr:Il ⟨(op:Int),z,fr,to,nm,v⟩=1:=Gf (by unfold G7;exact .inl e1)
  rw[hr]
  refine Ad rfl rfl ?_
  show vC _ _ [(0,.agg [.int .i64 (op:Int),.int .i64 z,.int .i64 fr,.int .i64 to,.str nm,.int .i64 v.k,.int .i64 v.n,.int .i64 v.d,.str v.s,.sl v.nn v.l])] _ _
  (conv=>whnf);repeat' (first|((first|refine Aa hI ?_|refine Aa hF ?_|refine Aa hT ?_|refine Aa hN ?_|refine Aa hV ?_|refine Aa hu ?_|refine Aa hn ?_|refine Aa hp ?_);rintro _ rfl;conv=>whnf)|refine kA ?_;conv=>whnf|(apply Br.mk<;>intro hc<;>first|exact hc.elim|conv=>whnf)|refine kB ?_)
  all_goals first|rfl|(exfalso;omega)|exact absurd rfl (by assumption)|exact absurd (by assumption) eS|(exfalso;simp_all;done)
 by_cases e2:Jw z
 case neg=>
  rw[decide_eq_false e2]at hI
  have hr:Il ⟨(op:Int),z,fr,to,nm,v⟩=1:=Gf (by unfold G7;exact .inr (.inl e2))
  rw[hr]
  refine Ad rfl rfl ?_
  show vC _ _ [(0,.agg [.int .i64 (op:Int),.int .i64 z,.int .i64 fr,.int .i64 to,.str nm,.int .i64 v.k,.int .i64 v.n,.int .i64 v.d,.str v.s,.sl v.nn v.l])] _ _
  (conv=>whnf);repeat' (first|((first|refine Aa hI ?_|refine Aa hF ?_|refine Aa hT ?_|refine Aa hN ?_|refine Aa hV ?_|refine Aa hu ?_|refine Aa hn ?_|refine Aa hp ?_);rintro _ rfl;conv=>whnf)|refine kA ?_;conv=>whnf|(apply Br.mk<;>intro hc<;>first|exact hc.elim|conv=>whnf)|refine kB ?_)
  all_goals first|rfl|(exfalso;omega)|exact absurd rfl (by assumption)|exact absurd (by assumption) eS|(exfalso;simp_all;done)
 rw[decide_eq_true e2]at hI
 have hd:op=6∨(op=5∨op=8)∨(op=3∨op=4)∨(op=1∨op=2∨op=7):=by omega
 rcases hd with rfl|hd|hd|hd
 ·have eN:Oi 6:=by unfold Oi;omega
  have eV:¬Un 6:=by unfold Un;omega
  rw[decide_eq_true eN]at hN
  rw[decide_eq_false eV]at hV
  by_cases e4:isNull v
  case neg=>
   rw[decide_eq_false e4]at hu
   have hr:Il ⟨(6:Int),z,fr,to,nm,v⟩=1:=Gf (by unfold G7;exact .inr (.inr (.inr (.inl ⟨eV,e4⟩))))
   rw[hr]
   refine Ad rfl rfl ?_
   show vC _ _ [(0,.agg [.int .i64 (6:Int),.int .i64 z,.int .i64 fr,.int .i64 to,.str nm,.int .i64 v.k,.int .i64 v.n,.int .i64 v.d,.str v.s,.sl v.nn v.l])] _ _
   (conv=>whnf);repeat' (first|((first|refine Aa hI ?_|refine Aa hF ?_|refine Aa hT ?_|refine Aa hN ?_|refine Aa hV ?_|refine Aa hu ?_|refine Aa hn ?_|refine Aa hp ?_);rintro _ rfl;conv=>whnf)|refine kA ?_;conv=>whnf|(apply Br.mk<;>intro hc<;>first|exact hc.elim|conv=>whnf)|refine kB ?_)
   all_goals first|rfl|(exfalso;omega)|exact absurd rfl (by assumption)|exact absurd (by assumption) eS|(exfalso;simp_all;done)
  rw[decide_eq_true e4]at hu
  by_cases e5:Jw fr
  case neg=>
   rw[decide_eq_false e5]at hF
   have hr:Il ⟨(6:Int),z,fr,to,nm,v⟩=1:=Gf (by unfold G7;exact .inr (.inr (.inr (.inr (.inl ⟨rfl,.inl e5⟩)))))
   rw[hr]
   refine Ad rfl rfl ?_
   show vC _ _ [(0,.agg [.int .i64 (6:Int),.int .i64 z,.int .i64 fr,.int .i64 to,.str nm,.int .i64 v.k,.int .i64 v.n,.int .i64 v.d,.str v.s,.sl v.nn v.l])] _ _
   (conv=>whnf);repeat' (first|((first|refine Aa hI ?_|refine Aa hF ?_|refine Aa hT ?_|refine Aa hN ?_|refine Aa hV ?_|refine Aa hu ?_|refine Aa hn ?_|refine Aa hp ?_);rintro _ rfl;conv=>whnf)|refine kA ?_;conv=>whnf|(apply Br.mk<;>intro hc<;>first|exact hc.elim|conv=>whnf)|refine kB ?_)
   all_goals first|rfl|(exfalso;omega)|exact absurd rfl (by assumption)|exact absurd (by assumption) eS|(exfalso;simp_all;done)
  rw[decide_eq_true e5]at hF
  by_cases e6:Jw to
  case neg=>
   rw[decide_eq_false e6]at hT
   have hr:Il ⟨(6:Int),z,fr,to,nm,v⟩=1:=Gf (by unfold G7;exact .inr (.inr (.inr (.inr (.inl ⟨rfl,.inr e6⟩)))))
   rw[hr]
   refine Ad rfl rfl ?_
   show vC _ _ [(0,.agg [.int .i64 (6:Int),.int .i64 z,.int .i64 fr,.int .i64 to,.str nm,.int .i64 v.k,.int .i64 v.n,.int .i64 v.d,.str v.s,.sl v.nn v.l])] _ _
   (conv=>whnf);repeat' (first|((first|refine Aa hI ?_|refine Aa hF ?_|refine Aa hT ?_|refine Aa hN ?_|refine Aa hV ?_|refine Aa hu ?_|refine Aa hn ?_|refine Aa hp ?_);rintro _ rfl;conv=>whnf)|refine kA ?_;conv=>whnf|(apply Br.mk<;>intro hc<;>first|exact hc.elim|conv=>whnf)|refine kB ?_)
   all_goals first|rfl|(exfalso;omega)|exact absurd rfl (by assumption)|exact absurd (by assumption) eS|(exfalso;simp_all;done)
  rw[decide_eq_true e6]at hT
  by_cases e7:isName nm
  case neg=>
   rw[decide_eq_false e7]at hn
   have hr:Il ⟨(6:Int),z,fr,to,nm,v⟩=6:=AgC (by unfold G7;rintro(h|h|h|h|h|h);exact h e1;exact h e2;exact h.1 eN;exact h.2 e4;exact h.2.elim (· e5) (· e6);exact h.1 rfl) ⟨eN,e7⟩
   rw[hr]
   refine Ad rfl rfl ?_
   show vC _ _ [(0,.agg [.int .i64 (6:Int),.int .i64 z,.int .i64 fr,.int .i64 to,.str nm,.int .i64 v.k,.int .i64 v.n,.int .i64 v.d,.str v.s,.sl v.nn v.l])] _ _
   (conv=>whnf);repeat' (first|((first|refine Aa hI ?_|refine Aa hF ?_|refine Aa hT ?_|refine Aa hN ?_|refine Aa hV ?_|refine Aa hu ?_|refine Aa hn ?_|refine Aa hp ?_);rintro _ rfl;conv=>whnf)|refine kA ?_;conv=>whnf|(apply Br.mk<;>intro hc<;>first|exact hc.elim|conv=>whnf)|refine kB ?_)
   all_goals first|rfl|(exfalso;omega)|exact absurd rfl (by assumption)|exact absurd (by assumption) eS|(exfalso;simp_all;done)
  rw[decide_eq_true e7]at hn
  have hr:Il ⟨(6:Int),z,fr,to,nm,v⟩=0:=AaJ (by unfold G7;rintro(h|h|h|h|h|h);exact h e1;exact h e2;exact h.1 eN;exact h.2 e4;exact h.2.elim (· e5) (· e6);exact h.1 rfl) (fun h=>h.2 e7) (fun h=>eV h.1)
  rw[hr]
  refine Ad rfl rfl ?_
  show vC _ _ [(0,.agg [.int .i64 (6:Int),.int .i64 z,.int .i64 fr,.int .i64 to,.str nm,.int .i64 v.k,.int .i64 v.n,.int .i64 v.d,.str v.s,.sl v.nn v.l])] _ _
  (conv=>whnf);repeat' (first|((first|refine Aa hI ?_|refine Aa hF ?_|refine Aa hT ?_|refine Aa hN ?_|refine Aa hV ?_|refine Aa hu ?_|refine Aa hn ?_|refine Aa hp ?_);rintro _ rfl;conv=>whnf)|refine kA ?_;conv=>whnf|(apply Br.mk<;>intro hc<;>first|exact hc.elim|conv=>whnf)|refine kB ?_)
  all_goals first|rfl|(exfalso;omega)|exact absurd rfl (by assumption)|exact absurd (by assumption) eS|(exfalso;simp_all;done)
 ·have eO:op≠6:=by omega
  have eN:Oi op:=by unfold Oi;omega
  have eV:Un op:=by unfold Un;omega
  rw[decide_eq_true eN]at hN
  rw[decide_eq_true eV]at hV
  by_cases e5:fr=0
  case neg=>
   have hr:Il ⟨(op:Int),z,fr,to,nm,v⟩=1:=Gf (by unfold G7;exact .inr (.inr (.inr (.inr (.inr ⟨eO,.inl e5⟩)))))
   rw[hr]
   refine Ad rfl rfl ?_
   show vC _ _ [(0,.agg [.int .i64 (op:Int),.int .i64 z,.int .i64 fr,.int .i64 to,.str nm,.int .i64 v.k,.int .i64 v.n,.int .i64 v.d,.str v.s,.sl v.nn v.l])] _ _
   (conv=>whnf);repeat' (first|((first|refine Aa hI ?_|refine Aa hF ?_|refine Aa hT ?_|refine Aa hN ?_|refine Aa hV ?_|refine Aa hu ?_|refine Aa hn ?_|refine Aa hp ?_);rintro _ rfl;conv=>whnf)|refine kA ?_;conv=>whnf|(apply Br.mk<;>intro hc<;>first|exact hc.elim|conv=>whnf)|refine kB ?_)
   all_goals first|rfl|(exfalso;omega)|exact absurd rfl (by assumption)|exact absurd (by assumption) eS|(exfalso;simp_all;done)
  by_cases e6:to=0
  case neg=>
   have hr:Il ⟨(op:Int),z,fr,to,nm,v⟩=1:=Gf (by unfold G7;exact .inr (.inr (.inr (.inr (.inr ⟨eO,.inr e6⟩)))))
   rw[hr]
   refine Ad rfl rfl ?_
   show vC _ _ [(0,.agg [.int .i64 (op:Int),.int .i64 z,.int .i64 fr,.int .i64 to,.str nm,.int .i64 v.k,.int .i64 v.n,.int .i64 v.d,.str v.s,.sl v.nn v.l])] _ _
   (conv=>whnf);repeat' (first|((first|refine Aa hI ?_|refine Aa hF ?_|refine Aa hT ?_|refine Aa hN ?_|refine Aa hV ?_|refine Aa hu ?_|refine Aa hn ?_|refine Aa hp ?_);rintro _ rfl;conv=>whnf)|refine kA ?_;conv=>whnf|(apply Br.mk<;>intro hc<;>first|exact hc.elim|conv=>whnf)|refine kB ?_)
   all_goals first|rfl|(exfalso;omega)|exact absurd rfl (by assumption)|exact absurd (by assumption) eS|(exfalso;simp_all;done)
  by_cases e7:isName nm
  case neg=>
   rw[decide_eq_false e7]at hn
   have hr:Il ⟨(op:Int),z,fr,to,nm,v⟩=6:=AgC (by unfold G7;rintro(h|h|h|h|h|h);exact h e1;exact h e2;exact h.1 eN;exact h.1 eV;exact eO h.1;exact h.2.elim (· e5) (· e6)) ⟨eN,e7⟩
   rw[hr]
   refine Ad rfl rfl ?_
   show vC _ _ [(0,.agg [.int .i64 (op:Int),.int .i64 z,.int .i64 fr,.int .i64 to,.str nm,.int .i64 v.k,.int .i64 v.n,.int .i64 v.d,.str v.s,.sl v.nn v.l])] _ _
   (conv=>whnf);repeat' (first|((first|refine Aa hI ?_|refine Aa hF ?_|refine Aa hT ?_|refine Aa hN ?_|refine Aa hV ?_|refine Aa hu ?_|refine Aa hn ?_|refine Aa hp ?_);rintro _ rfl;conv=>whnf)|refine kA ?_;conv=>whnf|(apply Br.mk<;>intro hc<;>first|exact hc.elim|conv=>whnf)|refine kB ?_)
   all_goals first|rfl|(exfalso;omega)|exact absurd rfl (by assumption)|exact absurd (by assumption) eS|(exfalso;simp_all;done)
  rw[decide_eq_true e7]at hn
  by_cases e8:isNull v
  case pos=>
   rw[decide_eq_true e8]at hu
   have hr:Il ⟨(op:Int),z,fr,to,nm,v⟩=0:=AaJ (by unfold G7;rintro(h|h|h|h|h|h);exact h e1;exact h e2;exact h.1 eN;exact h.1 eV;exact eO h.1;exact h.2.elim (· e5) (· e6)) (fun h=>h.2 e7) (fun h=>h.2.1 e8)
   rw[hr]
   refine Ad rfl rfl ?_
   show vC _ _ [(0,.agg [.int .i64 (op:Int),.int .i64 z,.int .i64 fr,.int .i64 to,.str nm,.int .i64 v.k,.int .i64 v.n,.int .i64 v.d,.str v.s,.sl v.nn v.l])] _ _
   (conv=>whnf);repeat' (first|((first|refine Aa hI ?_|refine Aa hF ?_|refine Aa hT ?_|refine Aa hN ?_|refine Aa hV ?_|refine Aa hu ?_|refine Aa hn ?_|refine Aa hp ?_);rintro _ rfl;conv=>whnf)|refine kA ?_;conv=>whnf|(apply Br.mk<;>intro hc<;>first|exact hc.elim|conv=>whnf)|refine kB ?_)
   all_goals first|rfl|(exfalso;omega)|exact absurd rfl (by assumption)|exact absurd (by assumption) eS|(exfalso;simp_all;done)
  rw[decide_eq_false e8]at hu
  by_cases e9:DW v
  case neg=>
   rw[decide_eq_false e9]at hp
   have hr:Il ⟨(op:Int),z,fr,to,nm,v⟩=8:=Aqy (by unfold G7;rintro(h|h|h|h|h|h);exact h e1;exact h e2;exact h.1 eN;exact h.1 eV;exact eO h.1;exact h.2.elim (· e5) (· e6)) (fun h=>h.2 e7) ⟨eV,e8,e9⟩
   rw[hr]
   refine Ad rfl rfl ?_
   show vC _ _ [(0,.agg [.int .i64 (op:Int),.int .i64 z,.int .i64 fr,.int .i64 to,.str nm,.int .i64 v.k,.int .i64 v.n,.int .i64 v.d,.str v.s,.sl v.nn v.l])] _ _
   (conv=>whnf);repeat' (first|((first|refine Aa hI ?_|refine Aa hF ?_|refine Aa hT ?_|refine Aa hN ?_|refine Aa hV ?_|refine Aa hu ?_|refine Aa hn ?_|refine Aa hp ?_);rintro _ rfl;conv=>whnf)|refine kA ?_;conv=>whnf|(apply Br.mk<;>intro hc<;>first|exact hc.elim|conv=>whnf)|refine kB ?_)
   all_goals first|rfl|(exfalso;omega)|exact absurd rfl (by assumption)|exact absurd (by assumption) eS|(exfalso;simp_all;done)
  rw[decide_eq_true e9]at hp
  have hr:Il ⟨(op:Int),z,fr,to,nm,v⟩=0:=AaJ (by unfold G7;rintro(h|h|h|h|h|h);exact h e1;exact h e2;exact h.1 eN;exact h.1 eV;exact eO h.1;exact h.2.elim (· e5) (· e6)) (fun h=>h.2 e7) (fun h=>h.2.2 e9)
  rw[hr]
  refine Ad rfl rfl ?_
  show vC _ _ [(0,.agg [.int .i64 (op:Int),.int .i64 z,.int .i64 fr,.int .i64 to,.str nm,.int .i64 v.k,.int .i64 v.n,.int .i64 v.d,.str v.s,.sl v.nn v.l])] _ _
  (conv=>whnf);repeat' (first|((first|refine Aa hI ?_|refine Aa hF ?_|refine Aa hT ?_|refine Aa hN ?_|refine Aa hV ?_|refine Aa hu ?_|refine Aa hn ?_|refine Aa hp ?_);rintro _ rfl;conv=>whnf)|refine kA ?_;conv=>whnf|(apply Br.mk<;>intro hc<;>first|exact hc.elim|conv=>whnf)|refine kB ?_)
  all_goals first|rfl|(exfalso;omega)|exact absurd rfl (by assumption)|exact absurd (by assumption) eS|(exfalso;simp_all;done)
 ·have eO:op≠6:=by omega
  have eN:Oi op:=by unfold Oi;omega
  have eV:¬Un op:=by unfold Un;omega
  rw[decide_eq_true eN]at hN
  rw[decide_eq_false eV]at hV
  by_cases e4:isNull v
  case neg=>
   rw[decide_eq_false e4]at hu
   have hr:Il ⟨(op:Int),z,fr,to,nm,v⟩=1:=Gf (by unfold G7;exact .inr (.inr (.inr (.inl ⟨eV,e4⟩))))
   rw[hr]
   refine Ad rfl rfl ?_
   show vC _ _ [(0,.agg [.int .i64 (op:Int),.int .i64 z,.int .i64 fr,.int .i64 to,.str nm,.int .i64 v.k,.int .i64 v.n,.int .i64 v.d,.str v.s,.sl v.nn v.l])] _ _
   (conv=>whnf);repeat' (first|((first|refine Aa hI ?_|refine Aa hF ?_|refine Aa hT ?_|refine Aa hN ?_|refine Aa hV ?_|refine Aa hu ?_|refine Aa hn ?_|refine Aa hp ?_);rintro _ rfl;conv=>whnf)|refine kA ?_;conv=>whnf|(apply Br.mk<;>intro hc<;>first|exact hc.elim|conv=>whnf)|refine kB ?_)
   all_goals first|rfl|(exfalso;omega)|exact absurd rfl (by assumption)|exact absurd (by assumption) eS|(exfalso;simp_all;done)
  rw[decide_eq_true e4]at hu
  by_cases e5:fr=0
  case neg=>
   have hr:Il ⟨(op:Int),z,fr,to,nm,v⟩=1:=Gf (by unfold G7;exact .inr (.inr (.inr (.inr (.inr ⟨eO,.inl e5⟩)))))
   rw[hr]
   refine Ad rfl rfl ?_
   show vC _ _ [(0,.agg [.int .i64 (op:Int),.int .i64 z,.int .i64 fr,.int .i64 to,.str nm,.int .i64 v.k,.int .i64 v.n,.int .i64 v.d,.str v.s,.sl v.nn v.l])] _ _
   (conv=>whnf);repeat' (first|((first|refine Aa hI ?_|refine Aa hF ?_|refine Aa hT ?_|refine Aa hN ?_|refine Aa hV ?_|refine Aa hu ?_|refine Aa hn ?_|refine Aa hp ?_);rintro _ rfl;conv=>whnf)|refine kA ?_;conv=>whnf|(apply Br.mk<;>intro hc<;>first|exact hc.elim|conv=>whnf)|refine kB ?_)
   all_goals first|rfl|(exfalso;omega)|exact absurd rfl (by assumption)|exact absurd (by assumption) eS|(exfalso;simp_all;done)
  by_cases e6:to=0
  case neg=>
   have hr:Il ⟨(op:Int),z,fr,to,nm,v⟩=1:=Gf (by unfold G7;exact .inr (.inr (.inr (.inr (.inr ⟨eO,.inr e6⟩)))))
   rw[hr]
   refine Ad rfl rfl ?_
   show vC _ _ [(0,.agg [.int .i64 (op:Int),.int .i64 z,.int .i64 fr,.int .i64 to,.str nm,.int .i64 v.k,.int .i64 v.n,.int .i64 v.d,.str v.s,.sl v.nn v.l])] _ _
   (conv=>whnf);repeat' (first|((first|refine Aa hI ?_|refine Aa hF ?_|refine Aa hT ?_|refine Aa hN ?_|refine Aa hV ?_|refine Aa hu ?_|refine Aa hn ?_|refine Aa hp ?_);rintro _ rfl;conv=>whnf)|refine kA ?_;conv=>whnf|(apply Br.mk<;>intro hc<;>first|exact hc.elim|conv=>whnf)|refine kB ?_)
   all_goals first|rfl|(exfalso;omega)|exact absurd rfl (by assumption)|exact absurd (by assumption) eS|(exfalso;simp_all;done)
  by_cases e7:isName nm
  case neg=>
   rw[decide_eq_false e7]at hn
   have hr:Il ⟨(op:Int),z,fr,to,nm,v⟩=6:=AgC (by unfold G7;rintro(h|h|h|h|h|h);exact h e1;exact h e2;exact h.1 eN;exact h.2 e4;exact eO h.1;exact h.2.elim (· e5) (· e6)) ⟨eN,e7⟩
   rw[hr]
   refine Ad rfl rfl ?_
   show vC _ _ [(0,.agg [.int .i64 (op:Int),.int .i64 z,.int .i64 fr,.int .i64 to,.str nm,.int .i64 v.k,.int .i64 v.n,.int .i64 v.d,.str v.s,.sl v.nn v.l])] _ _
   (conv=>whnf);repeat' (first|((first|refine Aa hI ?_|refine Aa hF ?_|refine Aa hT ?_|refine Aa hN ?_|refine Aa hV ?_|refine Aa hu ?_|refine Aa hn ?_|refine Aa hp ?_);rintro _ rfl;conv=>whnf)|refine kA ?_;conv=>whnf|(apply Br.mk<;>intro hc<;>first|exact hc.elim|conv=>whnf)|refine kB ?_)
   all_goals first|rfl|(exfalso;omega)|exact absurd rfl (by assumption)|exact absurd (by assumption) eS|(exfalso;simp_all;done)
  rw[decide_eq_true e7]at hn
  have hr:Il ⟨(op:Int),z,fr,to,nm,v⟩=0:=AaJ (by unfold G7;rintro(h|h|h|h|h|h);exact h e1;exact h e2;exact h.1 eN;exact h.2 e4;exact eO h.1;exact h.2.elim (· e5) (· e6)) (fun h=>h.2 e7) (fun h=>eV h.1)
  rw[hr]
  refine Ad rfl rfl ?_
  show vC _ _ [(0,.agg [.int .i64 (op:Int),.int .i64 z,.int .i64 fr,.int .i64 to,.str nm,.int .i64 v.k,.int .i64 v.n,.int .i64 v.d,.str v.s,.sl v.nn v.l])] _ _
  (conv=>whnf);repeat' (first|((first|refine Aa hI ?_|refine Aa hF ?_|refine Aa hT ?_|refine Aa hN ?_|refine Aa hV ?_|refine Aa hu ?_|refine Aa hn ?_|refine Aa hp ?_);rintro _ rfl;conv=>whnf)|refine kA ?_;conv=>whnf|(apply Br.mk<;>intro hc<;>first|exact hc.elim|conv=>whnf)|refine kB ?_)
  all_goals first|rfl|(exfalso;omega)|exact absurd rfl (by assumption)|exact absurd (by assumption) eS|(exfalso;simp_all;done)
 ·have eO:op≠6:=by omega
  have eN:¬Oi op:=by unfold Oi;omega
  have eV:¬Un op:=by unfold Un;omega
  rw[decide_eq_false eN]at hN
  rw[decide_eq_false eV]at hV
  by_cases e3:nm=[]
  case neg=>
   have eS:=e3
   have hr:Il ⟨(op:Int),z,fr,to,nm,v⟩=1:=Gf (by unfold G7;exact .inr (.inr (.inl ⟨eN,e3⟩)))
   rw[hr]
   refine Ad rfl rfl ?_
   show vC _ _ [(0,.agg [.int .i64 (op:Int),.int .i64 z,.int .i64 fr,.int .i64 to,.str nm,.int .i64 v.k,.int .i64 v.n,.int .i64 v.d,.str v.s,.sl v.nn v.l])] _ _
   (conv=>whnf);repeat' (first|((first|refine Aa hI ?_|refine Aa hF ?_|refine Aa hT ?_|refine Aa hN ?_|refine Aa hV ?_|refine Aa hu ?_|refine Aa hn ?_|refine Aa hp ?_);rintro _ rfl;conv=>whnf)|refine kA ?_;conv=>whnf|(apply Br.mk<;>intro hc<;>first|exact hc.elim|conv=>whnf)|refine kB ?_)
   all_goals first|rfl|(exfalso;omega)|exact absurd rfl (by assumption)|exact absurd (by assumption) eS|(exfalso;simp_all;done)
  by_cases e4:isNull v
  case neg=>
   rw[decide_eq_false e4]at hu
   have hr:Il ⟨(op:Int),z,fr,to,nm,v⟩=1:=Gf (by unfold G7;exact .inr (.inr (.inr (.inl ⟨eV,e4⟩))))
   rw[hr]
   refine Ad rfl rfl ?_
   show vC _ _ [(0,.agg [.int .i64 (op:Int),.int .i64 z,.int .i64 fr,.int .i64 to,.str nm,.int .i64 v.k,.int .i64 v.n,.int .i64 v.d,.str v.s,.sl v.nn v.l])] _ _
   (conv=>whnf);repeat' (first|((first|refine Aa hI ?_|refine Aa hF ?_|refine Aa hT ?_|refine Aa hN ?_|refine Aa hV ?_|refine Aa hu ?_|refine Aa hn ?_|refine Aa hp ?_);rintro _ rfl;conv=>whnf)|refine kA ?_;conv=>whnf|(apply Br.mk<;>intro hc<;>first|exact hc.elim|conv=>whnf)|refine kB ?_)
   all_goals first|rfl|(exfalso;omega)|exact absurd rfl (by assumption)|exact absurd (by assumption) eS|(exfalso;simp_all;done)
  rw[decide_eq_true e4]at hu
  by_cases e5:fr=0
  case neg=>
   have hr:Il ⟨(op:Int),z,fr,to,nm,v⟩=1:=Gf (by unfold G7;exact .inr (.inr (.inr (.inr (.inr ⟨eO,.inl e5⟩)))))
   rw[hr]
   refine Ad rfl rfl ?_
   show vC _ _ [(0,.agg [.int .i64 (op:Int),.int .i64 z,.int .i64 fr,.int .i64 to,.str nm,.int .i64 v.k,.int .i64 v.n,.int .i64 v.d,.str v.s,.sl v.nn v.l])] _ _
   (conv=>whnf);repeat' (first|((first|refine Aa hI ?_|refine Aa hF ?_|refine Aa hT ?_|refine Aa hN ?_|refine Aa hV ?_|refine Aa hu ?_|refine Aa hn ?_|refine Aa hp ?_);rintro _ rfl;conv=>whnf)|refine kA ?_;conv=>whnf|(apply Br.mk<;>intro hc<;>first|exact hc.elim|conv=>whnf)|refine kB ?_)
   all_goals first|rfl|(exfalso;omega)|exact absurd rfl (by assumption)|exact absurd (by assumption) eS|(exfalso;simp_all;done)
  by_cases e6:to=0
  case neg=>
   have hr:Il ⟨(op:Int),z,fr,to,nm,v⟩=1:=Gf (by unfold G7;exact .inr (.inr (.inr (.inr (.inr ⟨eO,.inr e6⟩)))))
   rw[hr]
   refine Ad rfl rfl ?_
   show vC _ _ [(0,.agg [.int .i64 (op:Int),.int .i64 z,.int .i64 fr,.int .i64 to,.str nm,.int .i64 v.k,.int .i64 v.n,.int .i64 v.d,.str v.s,.sl v.nn v.l])] _ _
   (conv=>whnf);repeat' (first|((first|refine Aa hI ?_|refine Aa hF ?_|refine Aa hT ?_|refine Aa hN ?_|refine Aa hV ?_|refine Aa hu ?_|refine Aa hn ?_|refine Aa hp ?_);rintro _ rfl;conv=>whnf)|refine kA ?_;conv=>whnf|(apply Br.mk<;>intro hc<;>first|exact hc.elim|conv=>whnf)|refine kB ?_)
   all_goals first|rfl|(exfalso;omega)|exact absurd rfl (by assumption)|exact absurd (by assumption) eS|(exfalso;simp_all;done)
  have hr:Il ⟨(op:Int),z,fr,to,nm,v⟩=0:=AaJ (by unfold G7;rintro(h|h|h|h|h|h);exact h e1;exact h e2;exact h.2 e3;exact h.2 e4;exact eO h.1;exact h.2.elim (· e5) (· e6)) (fun h=>eN h.1) (fun h=>eV h.1)
  rw[hr]
  refine Ad rfl rfl ?_
  show vC _ _ [(0,.agg [.int .i64 (op:Int),.int .i64 z,.int .i64 fr,.int .i64 to,.str nm,.int .i64 v.k,.int .i64 v.n,.int .i64 v.d,.str v.s,.sl v.nn v.l])] _ _
  (conv=>whnf);repeat' (first|((first|refine Aa hI ?_|refine Aa hF ?_|refine Aa hT ?_|refine Aa hN ?_|refine Aa hV ?_|refine Aa hu ?_|refine Aa hn ?_|refine Aa hp ?_);rintro _ rfl;conv=>whnf)|refine kA ?_;conv=>whnf|(apply Br.mk<;>intro hc<;>first|exact hc.elim|conv=>whnf)|refine kB ?_)
  all_goals first|rfl|(exfalso;omega)|exact absurd rfl (by assumption)|exact absurd (by assumption) eS|(exfalso;simp_all;done)
end AI
end Go.Proofs.YthnehejdkajjhaaGreatDoor
