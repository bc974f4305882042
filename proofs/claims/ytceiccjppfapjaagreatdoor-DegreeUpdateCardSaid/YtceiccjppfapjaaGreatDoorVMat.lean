/- The reference's Check of a change. Looking for the first. The reference looks up nodes and edges. -/
import Derived.Test.YtceiccjppfapjaaGreatDoorVMam
import Derived.Test.YtceiccjppfapjaaGreatDoorVCk7
import Derived.Test.YtceiccjppfapjaaGreatDoorVMao
import Derived.Test.YtceiccjppfapjaaGreatDoorVMag
set_option linter.unusedVariables false
set_option maxRecDepth 4000
namespace Go.Proofs.YtceiccjppfapjaaGreatDoor
namespace AI
theorem idR {z:Int}:Af (Ad tab) 165 [.int .i64 z] (· =.bool (decide (Jg z))):=by
 refine Ac rfl rfl ?_
 (conv=>whnf);repeat' (first  |(refine kA ?_;conv=>whnf)|(refine Br.mk (fun hc=>?_) fun hc=>?_<;>first|exact hc.elim|conv=>whnf)|(refine kB ?_))
 all_goals first|exact Bc (by unfold Jg;omega)|exact Am (by unfold Jg;omega)
theorem AlX {op:Int}:Af (Ad tab) 166 [.int .i64 op] (· =.bool (decide (NK op))):=by
 refine Ac rfl rfl ?_
 (conv=>whnf);repeat' (first  |(refine kA ?_;conv=>whnf)|(refine Br.mk (fun hc=>?_) fun hc=>?_<;>first|exact hc.elim|conv=>whnf)|(refine kB ?_))
 all_goals first|exact Bc (by unfold NK;omega)|exact Am (by unfold NK;omega)
theorem Ai9 {op:Int}:Af (Ad tab) 167 [.int .i64 op] (· =.bool (decide (Tq op))):=by
 refine Ac rfl rfl ?_
 (conv=>whnf);repeat' (first  |(refine kA ?_;conv=>whnf)|(refine Br.mk (fun hc=>?_) fun hc=>?_<;>first|exact hc.elim|conv=>whnf)|(refine kB ?_))
 all_goals first|exact Bc (by unfold Tq;omega)|exact Am (by unfold Tq;omega)
theorem FX {c:GC} (h:GI c):Ig c=1:=by unfold Ig;rw[if_pos h]
theorem Agg {c:GC} (h:¬GI c) (h2:NK c.op∧¬isName c.name):Ig c=6:=by unfold Ig;rw[if_neg h,if_pos h2]
theorem AoN {c:GC} (h:¬GI c) (h2:¬(NK c.op∧¬isName c.name)) (h3:Tq c.op∧¬isNull c.v∧¬Dz c.v):Ig c=8:=by unfold Ig;rw[if_neg h,if_neg h2,if_pos h3]
theorem ZP {c:GC} (h:¬GI c) (h2:¬(NK c.op∧¬isName c.name)) (h3:¬(Tq c.op∧¬isNull c.v∧¬Dz c.v)):Ig c=0:=by unfold Ig;rw[if_neg h,if_neg h2,if_neg h3]
set_option maxHeartbeats 8000000 in
theorem AlY {c:GC} (h:c.ok):Af (Ad tab) 96 [c.av] (· =.int .i64 (Ig c)):=by
 obtain⟨op,z,fr,to,nm,v⟩:=c
 obtain⟨h1,h2,h3,h4,h5,h6⟩:=h
 have hn:=name2 (s:=nm) (by have:=h5;simp only[Ln]at this;omega)
 have hp:=Agh (v:=v) h6
 have hu:=Agi (g:=v) h6
 have hI:=idR (z:=z)
 have hF:=idR (z:=fr)
 have hT:=idR (z:=to)
 have hN:=AlX (op:=op)
 have hV:=Ai9 (op:=op)
 clear h1 h2 h3 h4 h5 h6
 have eS:True:=trivial
 by_cases e1:1≤op∧op≤8
 case neg=>
  have hr:Ig ⟨(op:Int),z,fr,to,nm,v⟩=1:=FX (by unfold GI;exact .inl e1)
  rw[hr]
  refine Ac rfl rfl ?_
  show vC _ _ [(0,.agg [.int .i64 (op:Int),.int .i64 z,.int .i64 fr,.int .i64 to,.str nm,.int .i64 v.k,.int .i64 v.n,.int .i64 v.d,.str v.s,.sl v.nn v.l])] _ _
  (conv=>whnf);repeat' (first|((first|refine Aa hI ?_|refine Aa hF ?_|refine Aa hT ?_|refine Aa hN ?_|refine Aa hV ?_|refine Aa hu ?_|refine Aa hn ?_|refine Aa hp ?_);rintro _ rfl;conv=>whnf)|(refine kA ?_;conv=>whnf)|(refine Br.mk (fun hc=>?_) fun hc=>?_<;>first|exact hc.elim|conv=>whnf)|(refine kB ?_))
  all_goals first|rfl|(exfalso;omega)|exact absurd rfl (by assumption)|exact absurd (by assumption) eS|(exfalso;simp_all;done)
 by_cases e2:Jg z
 case neg=>
  rw[decide_eq_false e2]at hI
  have hr:Ig ⟨(op:Int),z,fr,to,nm,v⟩=1:=FX (by unfold GI;exact .inr (.inl e2))
  rw[hr]
  refine Ac rfl rfl ?_
  show vC _ _ [(0,.agg [.int .i64 (op:Int),.int .i64 z,.int .i64 fr,.int .i64 to,.str nm,.int .i64 v.k,.int .i64 v.n,.int .i64 v.d,.str v.s,.sl v.nn v.l])] _ _
  (conv=>whnf);repeat' (first|((first|refine Aa hI ?_|refine Aa hF ?_|refine Aa hT ?_|refine Aa hN ?_|refine Aa hV ?_|refine Aa hu ?_|refine Aa hn ?_|refine Aa hp ?_);rintro _ rfl;conv=>whnf)|(refine kA ?_;conv=>whnf)|(refine Br.mk (fun hc=>?_) fun hc=>?_<;>first|exact hc.elim|conv=>whnf)|(refine kB ?_))
  all_goals first|rfl|(exfalso;omega)|exact absurd rfl (by assumption)|exact absurd (by assumption) eS|(exfalso;simp_all;done)
 rw[decide_eq_true e2]at hI
 have hd:op=6∨(op=5∨op=8)∨(op=3∨op=4)∨(op=1∨op=2∨op=7):=by omega
 rcases hd with rfl|hd|hd|hd
 ·have eN:NK 6:=by unfold NK;omega
  have eV:¬Tq 6:=by unfold Tq;omega
  rw[decide_eq_true eN]at hN
  rw[decide_eq_false eV]at hV
  by_cases e4:isNull v
  case neg=>
   rw[decide_eq_false e4]at hu
   have hr:Ig ⟨(6:Int),z,fr,to,nm,v⟩=1:=FX (by unfold GI;exact .inr (.inr (.inr (.inl ⟨eV,e4⟩))))
   rw[hr]
   refine Ac rfl rfl ?_
   show vC _ _ [(0,.agg [.int .i64 (6:Int),.int .i64 z,.int .i64 fr,.int .i64 to,.str nm,.int .i64 v.k,.int .i64 v.n,.int .i64 v.d,.str v.s,.sl v.nn v.l])] _ _
   (conv=>whnf);repeat' (first|((first|refine Aa hI ?_|refine Aa hF ?_|refine Aa hT ?_|refine Aa hN ?_|refine Aa hV ?_|refine Aa hu ?_|refine Aa hn ?_|refine Aa hp ?_);rintro _ rfl;conv=>whnf)|(refine kA ?_;conv=>whnf)|(refine Br.mk (fun hc=>?_) fun hc=>?_<;>first|exact hc.elim|conv=>whnf)|(refine kB ?_))
   all_goals first|rfl|(exfalso;omega)|exact absurd rfl (by assumption)|exact absurd (by assumption) eS|(exfalso;simp_all;done)
  rw[decide_eq_true e4]at hu
  by_cases e5:Jg fr
  case neg=>
   rw[decide_eq_false e5]at hF
   have hr:Ig ⟨(6:Int),z,fr,to,nm,v⟩=1:=FX (by unfold GI;exact .inr (.inr (.inr (.inr (.inl ⟨rfl,.inl e5⟩)))))
   rw[hr]
   refine Ac rfl rfl ?_
   show vC _ _ [(0,.agg [.int .i64 (6:Int),.int .i64 z,.int .i64 fr,.int .i64 to,.str nm,.int .i64 v.k,.int .i64 v.n,.int .i64 v.d,.str v.s,.sl v.nn v.l])] _ _
   (conv=>whnf);repeat' (first|((first|refine Aa hI ?_|refine Aa hF ?_|refine Aa hT ?_|refine Aa hN ?_|refine Aa hV ?_|refine Aa hu ?_|refine Aa hn ?_|refine Aa hp ?_);rintro _ rfl;conv=>whnf)|(refine kA ?_;conv=>whnf)|(refine Br.mk (fun hc=>?_) fun hc=>?_<;>first|exact hc.elim|conv=>whnf)|(refine kB ?_))
   all_goals first|rfl|(exfalso;omega)|exact absurd rfl (by assumption)|exact absurd (by assumption) eS|(exfalso;simp_all;done)
  rw[decide_eq_true e5]at hF
  by_cases e6:Jg to
  case neg=>
   rw[decide_eq_false e6]at hT
   have hr:Ig ⟨(6:Int),z,fr,to,nm,v⟩=1:=FX (by unfold GI;exact .inr (.inr (.inr (.inr (.inl ⟨rfl,.inr e6⟩)))))
   rw[hr]
   refine Ac rfl rfl ?_
   show vC _ _ [(0,.agg [.int .i64 (6:Int),.int .i64 z,.int .i64 fr,.int .i64 to,.str nm,.int .i64 v.k,.int .i64 v.n,.int .i64 v.d,.str v.s,.sl v.nn v.l])] _ _
   (conv=>whnf);repeat' (first|((first|refine Aa hI ?_|refine Aa hF ?_|refine Aa hT ?_|refine Aa hN ?_|refine Aa hV ?_|refine Aa hu ?_|refine Aa hn ?_|refine Aa hp ?_);rintro _ rfl;conv=>whnf)|(refine kA ?_;conv=>whnf)|(refine Br.mk (fun hc=>?_) fun hc=>?_<;>first|exact hc.elim|conv=>whnf)|(refine kB ?_))
   all_goals first|rfl|(exfalso;omega)|exact absurd rfl (by assumption)|exact absurd (by assumption) eS|(exfalso;simp_all;done)
  rw[decide_eq_true e6]at hT
  by_cases e7:isName nm
  case neg=>
   rw[decide_eq_false e7]at hn
   have hr:Ig ⟨(6:Int),z,fr,to,nm,v⟩=6:=Agg (by unfold GI;rintro(h|h|h|h|h|h);exact h e1;exact h e2;exact h.1 eN;exact h.2 e4;exact h.2.elim (· e5) (· e6);exact h.1 rfl) ⟨eN,e7⟩
   rw[hr]
   refine Ac rfl rfl ?_
   show vC _ _ [(0,.agg [.int .i64 (6:Int),.int .i64 z,.int .i64 fr,.int .i64 to,.str nm,.int .i64 v.k,.int .i64 v.n,.int .i64 v.d,.str v.s,.sl v.nn v.l])] _ _
   (conv=>whnf);repeat' (first|((first|refine Aa hI ?_|refine Aa hF ?_|refine Aa hT ?_|refine Aa hN ?_|refine Aa hV ?_|refine Aa hu ?_|refine Aa hn ?_|refine Aa hp ?_);rintro _ rfl;conv=>whnf)|(refine kA ?_;conv=>whnf)|(refine Br.mk (fun hc=>?_) fun hc=>?_<;>first|exact hc.elim|conv=>whnf)|(refine kB ?_))
   all_goals first|rfl|(exfalso;omega)|exact absurd rfl (by assumption)|exact absurd (by assumption) eS|(exfalso;simp_all;done)
  rw[decide_eq_true e7]at hn
  have hr:Ig ⟨(6:Int),z,fr,to,nm,v⟩=0:=ZP (by unfold GI;rintro(h|h|h|h|h|h);exact h e1;exact h e2;exact h.1 eN;exact h.2 e4;exact h.2.elim (· e5) (· e6);exact h.1 rfl) (fun h=>h.2 e7) (fun h=>eV h.1)
  rw[hr]
  refine Ac rfl rfl ?_
  show vC _ _ [(0,.agg [.int .i64 (6:Int),.int .i64 z,.int .i64 fr,.int .i64 to,.str nm,.int .i64 v.k,.int .i64 v.n,.int .i64 v.d,.str v.s,.sl v.nn v.l])] _ _
  (conv=>whnf);repeat' (first|((first|refine Aa hI ?_|refine Aa hF ?_|refine Aa hT ?_|refine Aa hN ?_|refine Aa hV ?_|refine Aa hu ?_|refine Aa hn ?_|refine Aa hp ?_);rintro _ rfl;conv=>whnf)|(refine kA ?_;conv=>whnf)|(refine Br.mk (fun hc=>?_) fun hc=>?_<;>first|exact hc.elim|conv=>whnf)|(refine kB ?_))
  all_goals first|rfl|(exfalso;omega)|exact absurd rfl (by assumption)|exact absurd (by assumption) eS|(exfalso;simp_all;done)
 ·have eO:op≠6:=by omega
  have eN:NK op:=by unfold NK;omega
  have eV:Tq op:=by unfold Tq;omega
  rw[decide_eq_true eN]at hN
  rw[decide_eq_true eV]at hV
  by_cases e5:fr=0
  case neg=>
   have hr:Ig ⟨(op:Int),z,fr,to,nm,v⟩=1:=FX (by unfold GI;exact .inr (.inr (.inr (.inr (.inr ⟨eO,.inl e5⟩)))))
   rw[hr]
   refine Ac rfl rfl ?_
   show vC _ _ [(0,.agg [.int .i64 (op:Int),.int .i64 z,.int .i64 fr,.int .i64 to,.str nm,.int .i64 v.k,.int .i64 v.n,.int .i64 v.d,.str v.s,.sl v.nn v.l])] _ _
   (conv=>whnf);repeat' (first|((first|refine Aa hI ?_|refine Aa hF ?_|refine Aa hT ?_|refine Aa hN ?_|refine Aa hV ?_|refine Aa hu ?_|refine Aa hn ?_|refine Aa hp ?_);rintro _ rfl;conv=>whnf)|(refine kA ?_;conv=>whnf)|(refine Br.mk (fun hc=>?_) fun hc=>?_<;>first|exact hc.elim|conv=>whnf)|(refine kB ?_))
   all_goals first|rfl|(exfalso;omega)|exact absurd rfl (by assumption)|exact absurd (by assumption) eS|(exfalso;simp_all;done)
  by_cases e6:to=0
  case neg=>
   have hr:Ig ⟨(op:Int),z,fr,to,nm,v⟩=1:=FX (by unfold GI;exact .inr (.inr (.inr (.inr (.inr ⟨eO,.inr e6⟩)))))
   rw[hr]
   refine Ac rfl rfl ?_
   show vC _ _ [(0,.agg [.int .i64 (op:Int),.int .i64 z,.int .i64 fr,.int .i64 to,.str nm,.int .i64 v.k,.int .i64 v.n,.int .i64 v.d,.str v.s,.sl v.nn v.l])] _ _
   (conv=>whnf);repeat' (first|((first|refine Aa hI ?_|refine Aa hF ?_|refine Aa hT ?_|refine Aa hN ?_|refine Aa hV ?_|refine Aa hu ?_|refine Aa hn ?_|refine Aa hp ?_);rintro _ rfl;conv=>whnf)|(refine kA ?_;conv=>whnf)|(refine Br.mk (fun hc=>?_) fun hc=>?_<;>first|exact hc.elim|conv=>whnf)|(refine kB ?_))
   all_goals first|rfl|(exfalso;omega)|exact absurd rfl (by assumption)|exact absurd (by assumption) eS|(exfalso;simp_all;done)
  by_cases e7:isName nm
  case neg=>
   rw[decide_eq_false e7]at hn
   have hr:Ig ⟨(op:Int),z,fr,to,nm,v⟩=6:=Agg (by unfold GI;rintro(h|h|h|h|h|h);exact h e1;exact h e2;exact h.1 eN;exact h.1 eV;exact eO h.1;exact h.2.elim (· e5) (· e6)) ⟨eN,e7⟩
   rw[hr]
   refine Ac rfl rfl ?_
   show vC _ _ [(0,.agg [.int .i64 (op:Int),.int .i64 z,.int .i64 fr,.int .i64 to,.str nm,.int .i64 v.k,.int .i64 v.n,.int .i64 v.d,.str v.s,.sl v.nn v.l])] _ _
   (conv=>whnf);repeat' (first|((first|refine Aa hI ?_|refine Aa hF ?_|refine Aa hT ?_|refine Aa hN ?_|refine Aa hV ?_|refine Aa hu ?_|refine Aa hn ?_|refine Aa hp ?_);rintro _ rfl;conv=>whnf)|(refine kA ?_;conv=>whnf)|(refine Br.mk (fun hc=>?_) fun hc=>?_<;>first|exact hc.elim|conv=>whnf)|(refine kB ?_))
   all_goals first|rfl|(exfalso;omega)|exact absurd rfl (by assumption)|exact absurd (by assumption) eS|(exfalso;simp_all;done)
  rw[decide_eq_true e7]at hn
  by_cases e8:isNull v
  case pos=>
   rw[decide_eq_true e8]at hu
   have hr:Ig ⟨(op:Int),z,fr,to,nm,v⟩=0:=ZP (by unfold GI;rintro(h|h|h|h|h|h);exact h e1;exact h e2;exact h.1 eN;exact h.1 eV;exact eO h.1;exact h.2.elim (· e5) (· e6)) (fun h=>h.2 e7) (fun h=>h.2.1 e8)
   rw[hr]
   refine Ac rfl rfl ?_
   show vC _ _ [(0,.agg [.int .i64 (op:Int),.int .i64 z,.int .i64 fr,.int .i64 to,.str nm,.int .i64 v.k,.int .i64 v.n,.int .i64 v.d,.str v.s,.sl v.nn v.l])] _ _
   (conv=>whnf);repeat' (first|((first|refine Aa hI ?_|refine Aa hF ?_|refine Aa hT ?_|refine Aa hN ?_|refine Aa hV ?_|refine Aa hu ?_|refine Aa hn ?_|refine Aa hp ?_);rintro _ rfl;conv=>whnf)|(refine kA ?_;conv=>whnf)|(refine Br.mk (fun hc=>?_) fun hc=>?_<;>first|exact hc.elim|conv=>whnf)|(refine kB ?_))
   all_goals first|rfl|(exfalso;omega)|exact absurd rfl (by assumption)|exact absurd (by assumption) eS|(exfalso;simp_all;done)
  rw[decide_eq_false e8]at hu
  by_cases e9:Dz v
  case neg=>
   rw[decide_eq_false e9]at hp
   have hr:Ig ⟨(op:Int),z,fr,to,nm,v⟩=8:=AoN (by unfold GI;rintro(h|h|h|h|h|h);exact h e1;exact h e2;exact h.1 eN;exact h.1 eV;exact eO h.1;exact h.2.elim (· e5) (· e6)) (fun h=>h.2 e7) ⟨eV,e8,e9⟩
   rw[hr]
   refine Ac rfl rfl ?_
   show vC _ _ [(0,.agg [.int .i64 (op:Int),.int .i64 z,.int .i64 fr,.int .i64 to,.str nm,.int .i64 v.k,.int .i64 v.n,.int .i64 v.d,.str v.s,.sl v.nn v.l])] _ _
   (conv=>whnf);repeat' (first|((first|refine Aa hI ?_|refine Aa hF ?_|refine Aa hT ?_|refine Aa hN ?_|refine Aa hV ?_|refine Aa hu ?_|refine Aa hn ?_|refine Aa hp ?_);rintro _ rfl;conv=>whnf)|(refine kA ?_;conv=>whnf)|(refine Br.mk (fun hc=>?_) fun hc=>?_<;>first|exact hc.elim|conv=>whnf)|(refine kB ?_))
   all_goals first|rfl|(exfalso;omega)|exact absurd rfl (by assumption)|exact absurd (by assumption) eS|(exfalso;simp_all;done)
  rw[decide_eq_true e9]at hp
  have hr:Ig ⟨(op:Int),z,fr,to,nm,v⟩=0:=ZP (by unfold GI;rintro(h|h|h|h|h|h);exact h e1;exact h e2;exact h.1 eN;exact h.1 eV;exact eO h.1;exact h.2.elim (· e5) (· e6)) (fun h=>h.2 e7) (fun h=>h.2.2 e9)
  rw[hr]
  refine Ac rfl rfl ?_
  show vC _ _ [(0,.agg [.int .i64 (op:Int),.int .i64 z,.int .i64 fr,.int .i64 to,.str nm,.int .i64 v.k,.int .i64 v.n,.int .i64 v.d,.str v.s,.sl v.nn v.l])] _ _
  (conv=>whnf);repeat' (first|((first|refine Aa hI ?_|refine Aa hF ?_|refine Aa hT ?_|refine Aa hN ?_|refine Aa hV ?_|refine Aa hu ?_|refine Aa hn ?_|refine Aa hp ?_);rintro _ rfl;conv=>whnf)|(refine kA ?_;conv=>whnf)|(refine Br.mk (fun hc=>?_) fun hc=>?_<;>first|exact hc.elim|conv=>whnf)|(refine kB ?_))
  all_goals first|rfl|(exfalso;omega)|exact absurd rfl (by assumption)|exact absurd (by assumption) eS|(exfalso;simp_all;done)
 ·have eO:op≠6:=by omega
  have eN:NK op:=by unfold NK;omega
  have eV:¬Tq op:=by unfold Tq;omega
  rw[decide_eq_true eN]at hN
  rw[decide_eq_false eV]at hV
  by_cases e4:isNull v
  case neg=>
   rw[decide_eq_false e4]at hu
   have hr:Ig ⟨(op:Int),z,fr,to,nm,v⟩=1:=FX (by unfold GI;exact .inr (.inr (.inr (.inl ⟨eV,e4⟩))))
   rw[hr]
   refine Ac rfl rfl ?_
   show vC _ _ [(0,.agg [.int .i64 (op:Int),.int .i64 z,.int .i64 fr,.int .i64 to,.str nm,.int .i64 v.k,.int .i64 v.n,.int .i64 v.d,.str v.s,.sl v.nn v.l])] _ _
   (conv=>whnf);repeat' (first|((first|refine Aa hI ?_|refine Aa hF ?_|refine Aa hT ?_|refine Aa hN ?_|refine Aa hV ?_|refine Aa hu ?_|refine Aa hn ?_|refine Aa hp ?_);rintro _ rfl;conv=>whnf)|(refine kA ?_;conv=>whnf)|(refine Br.mk (fun hc=>?_) fun hc=>?_<;>first|exact hc.elim|conv=>whnf)|(refine kB ?_))
   all_goals first|rfl|(exfalso;omega)|exact absurd rfl (by assumption)|exact absurd (by assumption) eS|(exfalso;simp_all;done)
  rw[decide_eq_true e4]at hu
  by_cases e5:fr=0
  case neg=>
   have hr:Ig ⟨(op:Int),z,fr,to,nm,v⟩=1:=FX (by unfold GI;exact .inr (.inr (.inr (.inr (.inr ⟨eO,.inl e5⟩)))))
   rw[hr]
   refine Ac rfl rfl ?_
   show vC _ _ [(0,.agg [.int .i64 (op:Int),.int .i64 z,.int .i64 fr,.int .i64 to,.str nm,.int .i64 v.k,.int .i64 v.n,.int .i64 v.d,.str v.s,.sl v.nn v.l])] _ _
   (conv=>whnf);repeat' (first|((first|refine Aa hI ?_|refine Aa hF ?_|refine Aa hT ?_|refine Aa hN ?_|refine Aa hV ?_|refine Aa hu ?_|refine Aa hn ?_|refine Aa hp ?_);rintro _ rfl;conv=>whnf)|(refine kA ?_;conv=>whnf)|(refine Br.mk (fun hc=>?_) fun hc=>?_<;>first|exact hc.elim|conv=>whnf)|(refine kB ?_))
   all_goals first|rfl|(exfalso;omega)|exact absurd rfl (by assumption)|exact absurd (by assumption) eS|(exfalso;simp_all;done)
  by_cases e6:to=0
  case neg=>
   have hr:Ig ⟨(op:Int),z,fr,to,nm,v⟩=1:=FX (by unfold GI;exact .inr (.inr (.inr (.inr (.inr ⟨eO,.inr e6⟩)))))
   rw[hr]
   refine Ac rfl rfl ?_
   show vC _ _ [(0,.agg [.int .i64 (op:Int),.int .i64 z,.int .i64 fr,.int .i64 to,.str nm,.int .i64 v.k,.int .i64 v.n,.int .i64 v.d,.str v.s,.sl v.nn v.l])] _ _
   (conv=>whnf);repeat' (first|((first|refine Aa hI ?_|refine Aa hF ?_|refine Aa hT ?_|refine Aa hN ?_|refine Aa hV ?_|refine Aa hu ?_|refine Aa hn ?_|refine Aa hp ?_);rintro _ rfl;conv=>whnf)|(refine kA ?_;conv=>whnf)|(refine Br.mk (fun hc=>?_) fun hc=>?_<;>first|exact hc.elim|conv=>whnf)|(refine kB ?_))
   all_goals first|rfl|(exfalso;omega)|exact absurd rfl (by assumption)|exact absurd (by assumption) eS|(exfalso;simp_all;done)
  by_cases e7:isName nm
  case neg=>
   rw[decide_eq_false e7]at hn
   have hr:Ig ⟨(op:Int),z,fr,to,nm,v⟩=6:=Agg (by unfold GI;rintro(h|h|h|h|h|h);exact h e1;exact h e2;exact h.1 eN;exact h.2 e4;exact eO h.1;exact h.2.elim (· e5) (· e6)) ⟨eN,e7⟩
   rw[hr]
   refine Ac rfl rfl ?_
   show vC _ _ [(0,.agg [.int .i64 (op:Int),.int .i64 z,.int .i64 fr,.int .i64 to,.str nm,.int .i64 v.k,.int .i64 v.n,.int .i64 v.d,.str v.s,.sl v.nn v.l])] _ _
   (conv=>whnf);repeat' (first|((first|refine Aa hI ?_|refine Aa hF ?_|refine Aa hT ?_|refine Aa hN ?_|refine Aa hV ?_|refine Aa hu ?_|refine Aa hn ?_|refine Aa hp ?_);rintro _ rfl;conv=>whnf)|(refine kA ?_;conv=>whnf)|(refine Br.mk (fun hc=>?_) fun hc=>?_<;>first|exact hc.elim|conv=>whnf)|(refine kB ?_))
   all_goals first|rfl|(exfalso;omega)|exact absurd rfl (by assumption)|exact absurd (by assumption) eS|(exfalso;simp_all;done)
  rw[decide_eq_true e7]at hn
  have hr:Ig ⟨(op:Int),z,fr,to,nm,v⟩=0:=ZP (by unfold GI;rintro(h|h|h|h|h|h);exact h e1;exact h e2;exact h.1 eN;exact h.2 e4;exact eO h.1;exact h.2.elim (· e5) (· e6)) (fun h=>h.2 e7) (fun h=>eV h.1)
  rw[hr]
  refine Ac rfl rfl ?_
  show vC _ _ [(0,.agg [.int .i64 (op:Int),.int .i64 z,.int .i64 fr,.int .i64 to,.str nm,.int .i64 v.k,.int .i64 v.n,.int .i64 v.d,.str v.s,.sl v.nn v.l])] _ _
  (conv=>whnf);repeat' (first|((first|refine Aa hI ?_|refine Aa hF ?_|refine Aa hT ?_|refine Aa hN ?_|refine Aa hV ?_|refine Aa hu ?_|refine Aa hn ?_|refine Aa hp ?_);rintro _ rfl;conv=>whnf)|(refine kA ?_;conv=>whnf)|(refine Br.mk (fun hc=>?_) fun hc=>?_<;>first|exact hc.elim|conv=>whnf)|(refine kB ?_))
  all_goals first|rfl|(exfalso;omega)|exact absurd rfl (by assumption)|exact absurd (by assumption) eS|(exfalso;simp_all;done)
 ·have eO:op≠6:=by omega
  have eN:¬NK op:=by unfold NK;omega
  have eV:¬Tq op:=by unfold Tq;omega
  rw[decide_eq_false eN]at hN
  rw[decide_eq_false eV]at hV
  by_cases e3:nm=[]
  case neg=>
   have eS:=e3
   have hr:Ig ⟨(op:Int),z,fr,to,nm,v⟩=1:=FX (by unfold GI;exact .inr (.inr (.inl ⟨eN,e3⟩)))
   rw[hr]
   refine Ac rfl rfl ?_
   show vC _ _ [(0,.agg [.int .i64 (op:Int),.int .i64 z,.int .i64 fr,.int .i64 to,.str nm,.int .i64 v.k,.int .i64 v.n,.int .i64 v.d,.str v.s,.sl v.nn v.l])] _ _
   (conv=>whnf);repeat' (first|((first|refine Aa hI ?_|refine Aa hF ?_|refine Aa hT ?_|refine Aa hN ?_|refine Aa hV ?_|refine Aa hu ?_|refine Aa hn ?_|refine Aa hp ?_);rintro _ rfl;conv=>whnf)|(refine kA ?_;conv=>whnf)|(refine Br.mk (fun hc=>?_) fun hc=>?_<;>first|exact hc.elim|conv=>whnf)|(refine kB ?_))
   all_goals first|rfl|(exfalso;omega)|exact absurd rfl (by assumption)|exact absurd (by assumption) eS|(exfalso;simp_all;done)
  by_cases e4:isNull v
  case neg=>
   rw[decide_eq_false e4]at hu
   have hr:Ig ⟨(op:Int),z,fr,to,nm,v⟩=1:=FX (by unfold GI;exact .inr (.inr (.inr (.inl ⟨eV,e4⟩))))
   rw[hr]
   refine Ac rfl rfl ?_
   show vC _ _ [(0,.agg [.int .i64 (op:Int),.int .i64 z,.int .i64 fr,.int .i64 to,.str nm,.int .i64 v.k,.int .i64 v.n,.int .i64 v.d,.str v.s,.sl v.nn v.l])] _ _
   (conv=>whnf);repeat' (first|((first|refine Aa hI ?_|refine Aa hF ?_|refine Aa hT ?_|refine Aa hN ?_|refine Aa hV ?_|refine Aa hu ?_|refine Aa hn ?_|refine Aa hp ?_);rintro _ rfl;conv=>whnf)|(refine kA ?_;conv=>whnf)|(refine Br.mk (fun hc=>?_) fun hc=>?_<;>first|exact hc.elim|conv=>whnf)|(refine kB ?_))
   all_goals first|rfl|(exfalso;omega)|exact absurd rfl (by assumption)|exact absurd (by assumption) eS|(exfalso;simp_all;done)
  rw[decide_eq_true e4]at hu
  by_cases e5:fr=0
  case neg=>
   have hr:Ig ⟨(op:Int),z,fr,to,nm,v⟩=1:=FX (by unfold GI;exact .inr (.inr (.inr (.inr (.inr ⟨eO,.inl e5⟩)))))
   rw[hr]
   refine Ac rfl rfl ?_
   show vC _ _ [(0,.agg [.int .i64 (op:Int),.int .i64 z,.int .i64 fr,.int .i64 to,.str nm,.int .i64 v.k,.int .i64 v.n,.int .i64 v.d,.str v.s,.sl v.nn v.l])] _ _
   (conv=>whnf);repeat' (first|((first|refine Aa hI ?_|refine Aa hF ?_|refine Aa hT ?_|refine Aa hN ?_|refine Aa hV ?_|refine Aa hu ?_|refine Aa hn ?_|refine Aa hp ?_);rintro _ rfl;conv=>whnf)|(refine kA ?_;conv=>whnf)|(refine Br.mk (fun hc=>?_) fun hc=>?_<;>first|exact hc.elim|conv=>whnf)|(refine kB ?_))
   all_goals first|rfl|(exfalso;omega)|exact absurd rfl (by assumption)|exact absurd (by assumption) eS|(exfalso;simp_all;done)
  by_cases e6:to=0
  case neg=>
   have hr:Ig ⟨(op:Int),z,fr,to,nm,v⟩=1:=FX (by unfold GI;exact .inr (.inr (.inr (.inr (.inr ⟨eO,.inr e6⟩)))))
   rw[hr]
   refine Ac rfl rfl ?_
   show vC _ _ [(0,.agg [.int .i64 (op:Int),.int .i64 z,.int .i64 fr,.int .i64 to,.str nm,.int .i64 v.k,.int .i64 v.n,.int .i64 v.d,.str v.s,.sl v.nn v.l])] _ _
   (conv=>whnf);repeat' (first|((first|refine Aa hI ?_|refine Aa hF ?_|refine Aa hT ?_|refine Aa hN ?_|refine Aa hV ?_|refine Aa hu ?_|refine Aa hn ?_|refine Aa hp ?_);rintro _ rfl;conv=>whnf)|(refine kA ?_;conv=>whnf)|(refine Br.mk (fun hc=>?_) fun hc=>?_<;>first|exact hc.elim|conv=>whnf)|(refine kB ?_))
   all_goals first|rfl|(exfalso;omega)|exact absurd rfl (by assumption)|exact absurd (by assumption) eS|(exfalso;simp_all;done)
  have hr:Ig ⟨(op:Int),z,fr,to,nm,v⟩=0:=ZP (by unfold GI;rintro(h|h|h|h|h|h);exact h e1;exact h e2;exact h.2 e3;exact h.2 e4;exact eO h.1;exact h.2.elim (· e5) (· e6)) (fun h=>eN h.1) (fun h=>eV h.1)
  rw[hr]
  refine Ac rfl rfl ?_
  show vC _ _ [(0,.agg [.int .i64 (op:Int),.int .i64 z,.int .i64 fr,.int .i64 to,.str nm,.int .i64 v.k,.int .i64 v.n,.int .i64 v.d,.str v.s,.sl v.nn v.l])] _ _
  (conv=>whnf);repeat' (first|((first|refine Aa hI ?_|refine Aa hF ?_|refine Aa hT ?_|refine Aa hN ?_|refine Aa hV ?_|refine Aa hu ?_|refine Aa hn ?_|refine Aa hp ?_);rintro _ rfl;conv=>whnf)|(refine kA ?_;conv=>whnf)|(refine Br.mk (fun hc=>?_) fun hc=>?_<;>first|exact hc.elim|conv=>whnf)|(refine kB ?_))
  all_goals first|rfl|(exfalso;omega)|exact absurd rfl (by assumption)|exact absurd (by assumption) eS|(exfalso;simp_all;done)
theorem Ql {α:Type} {p:α→Bool} {l:List α} {i:Nat} (hi:i<l.length) (h:∀x∈l.take i,p x=false) (hp:p l[i]=true):l.find? p=some l[i]:=by
 have e:l=l.take i++l[i]::l.drop (i+1):=by rw[← List.drop_eq_getElem_cons hi,List.take_append_drop]
 have h1:(l.take i).find? p=none:=List.find?_eq_none.2 fun x hx=>by simp[h x hx]
 refine(congrArg (List.find? p) e).trans ?_
 rw[List.find?_append,h1,List.find?_cons_of_pos hp]
 rfl
theorem Qn {α:Type} {p:α→Bool} {l:List α} (h:∀x∈l,p x=false):l.find? p=none:=List.find?_eq_none.2 fun x hx=>by simp[h x hx]
theorem Qm {α:Type} {p:α→Bool} {l:List α} {i:Nat} (hi:i<l.length) (h:∀x∈l.take i,p x=false) (hp:p l[i]=false):∀x∈l.take (i+1),p x=false:=Bz hi h hp
def N0:GN:=⟨0,false,[],false,[]⟩
def E0:GE:=⟨0,0,0,[],false,[]⟩
def Zt (id:Int) (n:GN):Bool:=decide (n.id=id)
def Xr (id:Int) (n:GE):Bool:=decide (n.id=id)
def Kt (l:List GN) (id:Int):AV:=match l.find? (Zt id)with
 |some n=>.BH [n.av,.bool true]
 |none=>.BH [N0.av,.bool false]
def Lj (l:List GE) (id:Int):AV:=match l.find? (Xr id)with
 |some n=>.BH [n.av,.bool true]
 |none=>.BH [E0.av,.bool false]
theorem AhG {g:GG} (hl:g.nodes.length<2^63) {id:Int}:Af (Ad tab) 97 [g.av,.int .i64 id] (· =Kt g.nodes id):=by
 refine Ac rfl rfl ?_
 (conv=>whnf);repeat' (first|(refine kA ?_;conv=>whnf)|(refine Br.mk (fun hc=>?_) fun hc=>?_<;>first|exact hc.elim|conv=>whnf)  |(refine kB ?_))
 refine Ae (fun m env s=>∃i:Nat,m=g.nodes.length-i∧(∀ x∈g.nodes.take i,Zt id x=false)∧env=[(1,.int .i64 id),(2,.ref 0 0 0 0),(4,.ref 1 1 0 0),(6,.int .i64 i)]∧s=⟨[.arr 0 4 true true [g.av],.arr 1 3 true true [.agg [.int .i64 0,.sl false [],.sl false []]]],2⟩) ?_ _ _ _ ⟨0,rfl,by simp,rfl,rfl⟩
 rintro _ _ _ ⟨i,rfl,hx,rfl,rfl⟩
 refine⟨rfl,?_⟩
 (conv=>whnf);repeat' (first|(refine kA ?_;conv=>whnf)|(refine Br.mk (fun hc=>?_) fun hc=>?_<;>first|exact hc.elim|conv=>whnf)  |(refine kB ?_))
 ·rw[Kt,Ql (by omega) hx (decide_eq_true hc)];rfl
 ·exact again.mk ⟨_,by omega,i+1,rfl,Qm (by omega) hx (decide_eq_false hc),rfl,rfl⟩
 ·rw[CJ hc]at hx
  rw[Kt,Qn hx];rfl
theorem ApU {g:GG} (hl:g.edges.length<2^63) {id:Int}:Af (Ad tab) 98 [g.av,.int .i64 id] (· =Lj g.edges id):=by
 refine Ac rfl rfl ?_
 (conv=>whnf);repeat' (first|(refine kA ?_;conv=>whnf)|(refine Br.mk (fun hc=>?_) fun hc=>?_<;>first|exact hc.elim|conv=>whnf)  |(refine kB ?_))
 refine Ae (fun m env s=>∃i:Nat,m=g.edges.length-i∧(∀ x∈g.edges.take i,Xr id x=false)∧env=[(1,.int .i64 id),(2,.ref 0 0 0 0),(4,.ref 1 1 0 0),(6,.int .i64 i)]∧s=⟨[.arr 0 4 true true [g.av],.arr 1 5 true true [.agg [.int .i64 0,.int .i64 0,.int .i64 0,.str [],.sl false []]]],2⟩) ?_ _ _ _ ⟨0,rfl,by simp,rfl,rfl⟩
 rintro _ _ _ ⟨i,rfl,hx,rfl,rfl⟩
 refine⟨rfl,?_⟩
 (conv=>whnf);repeat' (first|(refine kA ?_;conv=>whnf)|(refine Br.mk (fun hc=>?_) fun hc=>?_<;>first|exact hc.elim|conv=>whnf)  |(refine kB ?_))
 ·rw[Lj,Ql (by omega) hx (decide_eq_true hc)];rfl
 ·exact again.mk ⟨_,by omega,i+1,rfl,Qm (by omega) hx (decide_eq_false hc),rfl,rfl⟩
 ·rw[CJ hc]at hx
  rw[Lj,Qn hx];rfl
end AI
end Go.Proofs.YtceiccjppfapjaaGreatDoor
