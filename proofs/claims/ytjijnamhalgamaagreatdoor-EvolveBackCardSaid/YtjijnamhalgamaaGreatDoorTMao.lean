/- What is wrong with a migration: the program's Check. What a migration changes at a node and at an edge: the program's and the reference's. Sorting strings in place: the order. A sorted list without its repeated elements. Sorting strings in place: slices.Sort as an entry of the table. Leaving out what repeats (slices.Compact[[]string,string]). The program's labels and types of a graph. Is the new name of a migration in use. -/
import Derived.Test.YtjijnamhalgamaaGreatDoorTMan
import Derived.Test.YtjijnamhalgamaaGreatDoorTMam
import Derived.Test.YtjijnamhalgamaaGreatDoorTMad
import Derived.Test.YtjijnamhalgamaaGreatDoorTMah
import Derived.Test.YtjijnamhalgamaaGreatDoorTSqS
import Derived.Test.YtjijnamhalgamaaGreatDoorBMaa
set_option linter.unusedVariables false
set_option maxRecDepth 4000
namespace Go.Proofs.YtjijnamhalgamaaGreatDoor
namespace AI
def EC (k:Int):Prop:=k=1∨k=2∨k=3
def BP (k:Int):Prop:=k=3∨k=4∨k=5
def FP (k:Int):Prop:=k=1∨k=2∨k=3∨k=4
def ER (k:Int):Prop:=k=1∨k=2∨k=3∨k=5
def CV (k:Int):Prop:=k=6∨k=7
def RS (r:GR):Prop:=r.k=0∧r.n=0∧r.name=[]∧r.key=[]∧r.fr=[]∧r.to=[]
instance (k:Int):Decidable (EC k):=by unfold EC;infer_instance
instance (k:Int):Decidable (BP k):=by unfold BP;infer_instance
instance (k:Int):Decidable (FP k):=by unfold FP;infer_instance
instance (k:Int):Decidable (ER k):=by unfold ER;infer_instance
instance (k:Int):Decidable (CV k):=by unfold CV;infer_instance
instance (r:GR):Decidable (RS r):=by unfold RS;infer_instance
def AcB (m:GM):Prop:=¬(1≤m.k∧m.k≤7)∨(EC m.k∧m.fr=m.to)∨(¬ BP m.k∧m.label≠[])∨(¬ FP m.k∧m.fr≠[])∨(¬ ER m.k∧m.to≠[])∨(¬ CV m.k∧¬RS m.r)∨(m.k≠5∧¬AaO m.v)
def Dc (m:GM):Prop:=(BP m.k∧¬AaA m.label)∨(FP m.k∧¬AaA m.fr)∨(ER m.k∧¬AaA m.to)
instance (m:GM):Decidable (AcB m):=by unfold AcB;infer_instance
instance (m:GM):Decidable (Dc m):=by unfold Dc;infer_instance
def EW (m:GM):Int:=if AcB m then 1 else if Dc m then 6 else if m.k=5∧¬Dx m.v then 8 else if CV m.k then Dt m.r else 0
theorem LQ {m:GM} (h:AcB m):AV.int .i64 1=AV.int .i64 (EW m):=by rw[EW,if_pos h]
theorem Oa {m:GM} (h:¬AcB m) (h1:Dc m):AV.int .i64 6=AV.int .i64 (EW m):=by rw[EW,if_neg h,if_pos h1]
theorem Ob {m:GM} (h:¬AcB m) (h1:¬Dc m) (h2:m.k=5∧¬Dx m.v):AV.int .i64 8=AV.int .i64 (EW m):=by rw[EW,if_neg h,if_neg h1,if_pos h2]
theorem Oc {m:GM} (h:¬AcB m) (h1:¬Dc m) (h2:CV m.k):AV.int .i64 (Dt m.r)=AV.int .i64 (EW m):=by rw[EW,if_neg h,if_neg h1,if_neg (by unfold CV at h2;omega),if_pos h2]
theorem Oe {m:GM} (h:¬AcB m) (h1:¬Dc m) (h2:¬(m.k=5∧¬Dx m.v)) (h3:¬CV m.k):AV.int .i64 0=AV.int .i64 (EW m):=by rw[EW,if_neg h,if_neg h1,if_neg h2,if_neg h3]
theorem AfY {m:GM} (h:EW m=0):¬AcB m∧¬Dc m∧¬(m.k=5∧¬Dx m.v):=by
 unfold EW at h
 split at h;· omega
 split at h;· omega
 split at h;· omega
 exact⟨by assumption,by assumption,by assumption⟩
theorem Jf (r:GR):bin .neq (.flat [.int,.int,.str,.str,.str,.str]) (.agg [.int .i64 r.k,.int .i64 r.n,.str r.name,.str r.key,.str r.fr,.str r.to]) (.agg [.int .i64 0,.int .i64 0,.str [],.str [],.str [],.str []])=some (.bool (decide (¬ RS r))):=by
 unfold RS
 obtain⟨k,n,nm,key,fr,to⟩:=r
 have e:∀z:Int,(z==0)=decide (z=0):=fun z=>by by_cases h:z=0<;>simp[h]
 by_cases h1:k=0<;>by_cases h2:n=0<;>cases nm<;>cases key<;>cases fr<;>cases to<;>simp[bin,Uy,Jg,Dh,e,h1,h2]
theorem AiX:Ae (Ad tab) 97 [.int .i64 1] (· =.BD [.agg [.bool false,.bool true,.bool true,.bool false,.bool false],.bool true]):=⟨_,⟨20,by kernel_rfl⟩,rfl⟩
theorem AiY:Ae (Ad tab) 97 [.int .i64 2] (· =.BD [.agg [.bool false,.bool true,.bool true,.bool false,.bool false],.bool true]):=⟨_,⟨20,by kernel_rfl⟩,rfl⟩
theorem AiZ:Ae (Ad tab) 97 [.int .i64 3] (· =.BD [.agg [.bool true,.bool true,.bool true,.bool false,.bool false],.bool true]):=⟨_,⟨20,by kernel_rfl⟩,rfl⟩
theorem Ai0:Ae (Ad tab) 97 [.int .i64 4] (· =.BD [.agg [.bool true,.bool true,.bool false,.bool false,.bool false],.bool true]):=⟨_,⟨20,by kernel_rfl⟩,rfl⟩
theorem Ai1:Ae (Ad tab) 97 [.int .i64 5] (· =.BD [.agg [.bool true,.bool false,.bool true,.bool true,.bool false],.bool true]):=⟨_,⟨20,by kernel_rfl⟩,rfl⟩
theorem Ai2:Ae (Ad tab) 97 [.int .i64 6] (· =.BD [.agg [.bool false,.bool false,.bool false,.bool false,.bool true],.bool true]):=⟨_,⟨20,by kernel_rfl⟩,rfl⟩
theorem Ai3:Ae (Ad tab) 97 [.int .i64 7] (· =.BD [.agg [.bool false,.bool false,.bool false,.bool false,.bool true],.bool true]):=⟨_,⟨20,by kernel_rfl⟩,rfl⟩
theorem Ai4 {k:Int} (h:¬(1≤k∧k≤7)):Ae (Ad tab) 97 [.int .i64 k] (· =.BD [.agg [.bool false,.bool false,.bool false,.bool false,.bool false],.bool false]):=by
 refine Ac rfl rfl ?_
 (conv=>whnf);repeat' (first|((first|refine kA ?_|(apply Br.mk<;>intro hc))<;>first|exact hc.elim|conv=>whnf)|refine kB ?_)
 all_goals first|rfl|omega
theorem Ai5 {m:GM} (hm:m.ok) (hk:¬(1≤m.k∧m.k≤7)):Ae (Ad tab) 45 [m.av] (· =.int .i64 (EW m)):=by
 refine Ac rfl rfl ?_
 (conv=>whnf);repeat' (first|((first|apply kE (Ai4 hk)|refine kA ?_|(apply Br.mk<;>intro hc))<;>first|exact hc.elim|conv=>whnf)|refine kB ?_)
 all_goals exact LQ (.inl hk)
set_option maxHeartbeats 4000000 in
theorem Ai6 {m:GM} (hm:m.ok) (hk:m.k=1):Ae (Ad tab) 45 [m.av] (· =.int .i64 (EW m)):=by
 obtain⟨k,lb,fr,to,v,r⟩:=m
 obtain⟨g1,g2,g3,g4,g5,g6⟩:=hm
 unfold Ln at g2 g3 g4
 dsimp only at g1 g2 g3 g4 g5 g6 hk
 subst hk
 refine Ac rfl rfl ?_
 (conv=>whnf);repeat' (first|((first|apply kE AiX|apply kE Og|(refine Aa (IJ g5) ?_;rintro _ ⟨z,rfl,hz⟩)|refine Aq (KH g5) (fun hp=>?_) (fun hp=>?_)|apply kE (NQ g6)|refine Aq (AbU (s:=lb) g2) (fun ha=>?_) (fun ha=>?_)|refine Aq (AbU (s:=fr) g3) (fun he=>?_) (fun he=>?_)|refine Aq (AbU (s:=to) g4) (fun hf=>?_) (fun hf=>?_)|apply Aj (Jf r)|refine kA ?_|(apply Br.mk<;>intro hc))<;>first|exact hc.elim|conv=>whnf)|refine kB ?_)
 all_goals clear g1 g2 g3 g4 g5 g6
 all_goals first
  |exact LQ (by unfold AcB EC BP FP ER CV;dsimp only;grind)
  |exact Oa (by unfold AcB EC BP FP ER CV;dsimp only;grind) (by unfold Dc BP FP ER;dsimp only;grind)
  |exact Ob (by unfold AcB EC BP FP ER CV;dsimp only;grind) (by unfold Dc BP FP ER;dsimp only;grind) (by dsimp only;grind)
  |exact Oe (by unfold AcB EC BP FP ER CV;dsimp only;grind) (by unfold Dc BP FP ER;dsimp only;grind) (by dsimp only;grind) (by unfold CV;dsimp only;omega)
  |exact Oc (m:=⟨1,lb,fr,to,v,r⟩) (by unfold AcB EC BP FP ER CV;dsimp only;grind) (by unfold Dc BP FP ER;dsimp only;grind) (by unfold CV;dsimp only;omega)
  |(exfalso;grind)
set_option maxHeartbeats 4000000 in
theorem Ai7 {m:GM} (hm:m.ok) (hk:m.k=2):Ae (Ad tab) 45 [m.av] (· =.int .i64 (EW m)):=by
 obtain⟨k,lb,fr,to,v,r⟩:=m
 obtain⟨g1,g2,g3,g4,g5,g6⟩:=hm
 unfold Ln at g2 g3 g4
 dsimp only at g1 g2 g3 g4 g5 g6 hk
 subst hk
 refine Ac rfl rfl ?_
 (conv=>whnf);repeat' (first|((first|apply kE AiY|apply kE Og|(refine Aa (IJ g5) ?_;rintro _ ⟨z,rfl,hz⟩)|refine Aq (KH g5) (fun hp=>?_) (fun hp=>?_)|apply kE (NQ g6)|refine Aq (AbU (s:=lb) g2) (fun ha=>?_) (fun ha=>?_)|refine Aq (AbU (s:=fr) g3) (fun he=>?_) (fun he=>?_)|refine Aq (AbU (s:=to) g4) (fun hf=>?_) (fun hf=>?_)|apply Aj (Jf r)|refine kA ?_|(apply Br.mk<;>intro hc))<;>first|exact hc.elim|conv=>whnf)|refine kB ?_)
 all_goals clear g1 g2 g3 g4 g5 g6
 all_goals first
  |exact LQ (by unfold AcB EC BP FP ER CV;dsimp only;grind)
  |exact Oa (by unfold AcB EC BP FP ER CV;dsimp only;grind) (by unfold Dc BP FP ER;dsimp only;grind)
  |exact Ob (by unfold AcB EC BP FP ER CV;dsimp only;grind) (by unfold Dc BP FP ER;dsimp only;grind) (by dsimp only;grind)
  |exact Oe (by unfold AcB EC BP FP ER CV;dsimp only;grind) (by unfold Dc BP FP ER;dsimp only;grind) (by dsimp only;grind) (by unfold CV;dsimp only;omega)
  |exact Oc (m:=⟨2,lb,fr,to,v,r⟩) (by unfold AcB EC BP FP ER CV;dsimp only;grind) (by unfold Dc BP FP ER;dsimp only;grind) (by unfold CV;dsimp only;omega)
  |(exfalso;grind)
set_option maxHeartbeats 4000000 in
theorem Ai8 {m:GM} (hm:m.ok) (hk:m.k=3):Ae (Ad tab) 45 [m.av] (· =.int .i64 (EW m)):=by
 obtain⟨k,lb,fr,to,v,r⟩:=m
 obtain⟨g1,g2,g3,g4,g5,g6⟩:=hm
 unfold Ln at g2 g3 g4
 dsimp only at g1 g2 g3 g4 g5 g6 hk
 subst hk
 refine Ac rfl rfl ?_
 (conv=>whnf);repeat' (first|((first|apply kE AiZ|apply kE Og|(refine Aa (IJ g5) ?_;rintro _ ⟨z,rfl,hz⟩)|refine Aq (KH g5) (fun hp=>?_) (fun hp=>?_)|apply kE (NQ g6)|refine Aq (AbU (s:=lb) g2) (fun ha=>?_) (fun ha=>?_)|refine Aq (AbU (s:=fr) g3) (fun he=>?_) (fun he=>?_)|refine Aq (AbU (s:=to) g4) (fun hf=>?_) (fun hf=>?_)|apply Aj (Jf r)|refine kA ?_|(apply Br.mk<;>intro hc))<;>first|exact hc.elim|conv=>whnf)|refine kB ?_)
 all_goals clear g1 g2 g3 g4 g5 g6
 all_goals first
  |exact LQ (by unfold AcB EC BP FP ER CV;dsimp only;grind)
  |exact Oa (by unfold AcB EC BP FP ER CV;dsimp only;grind) (by unfold Dc BP FP ER;dsimp only;grind)
  |exact Ob (by unfold AcB EC BP FP ER CV;dsimp only;grind) (by unfold Dc BP FP ER;dsimp only;grind) (by dsimp only;grind)
  |exact Oe (by unfold AcB EC BP FP ER CV;dsimp only;grind) (by unfold Dc BP FP ER;dsimp only;grind) (by dsimp only;grind) (by unfold CV;dsimp only;omega)
  |exact Oc (m:=⟨3,lb,fr,to,v,r⟩) (by unfold AcB EC BP FP ER CV;dsimp only;grind) (by unfold Dc BP FP ER;dsimp only;grind) (by unfold CV;dsimp only;omega)
  |(exfalso;grind)
set_option maxHeartbeats 4000000 in
theorem Ai9 {m:GM} (hm:m.ok) (hk:m.k=4):Ae (Ad tab) 45 [m.av] (· =.int .i64 (EW m)):=by
 obtain⟨k,lb,fr,to,v,r⟩:=m
 obtain⟨g1,g2,g3,g4,g5,g6⟩:=hm
 unfold Ln at g2 g3 g4
 dsimp only at g1 g2 g3 g4 g5 g6 hk
 subst hk
 refine Ac rfl rfl ?_
 (conv=>whnf);repeat' (first|((first|apply kE Ai0|apply kE Og|(refine Aa (IJ g5) ?_;rintro _ ⟨z,rfl,hz⟩)|refine Aq (KH g5) (fun hp=>?_) (fun hp=>?_)|apply kE (NQ g6)|refine Aq (AbU (s:=lb) g2) (fun ha=>?_) (fun ha=>?_)|refine Aq (AbU (s:=fr) g3) (fun he=>?_) (fun he=>?_)|refine Aq (AbU (s:=to) g4) (fun hf=>?_) (fun hf=>?_)|apply Aj (Jf r)|refine kA ?_|(apply Br.mk<;>intro hc))<;>first|exact hc.elim|conv=>whnf)|refine kB ?_)
 all_goals clear g1 g2 g3 g4 g5 g6
 all_goals first
  |exact LQ (by unfold AcB EC BP FP ER CV;dsimp only;grind)
  |exact Oa (by unfold AcB EC BP FP ER CV;dsimp only;grind) (by unfold Dc BP FP ER;dsimp only;grind)
  |exact Ob (by unfold AcB EC BP FP ER CV;dsimp only;grind) (by unfold Dc BP FP ER;dsimp only;grind) (by dsimp only;grind)
  |exact Oe (by unfold AcB EC BP FP ER CV;dsimp only;grind) (by unfold Dc BP FP ER;dsimp only;grind) (by dsimp only;grind) (by unfold CV;dsimp only;omega)
  |exact Oc (m:=⟨4,lb,fr,to,v,r⟩) (by unfold AcB EC BP FP ER CV;dsimp only;grind) (by unfold Dc BP FP ER;dsimp only;grind) (by unfold CV;dsimp only;omega)
  |(exfalso;grind)
set_option maxHeartbeats 4000000 in
theorem Aja {m:GM} (hm:m.ok) (hk:m.k=5):Ae (Ad tab) 45 [m.av] (· =.int .i64 (EW m)):=by
 obtain⟨k,lb,fr,to,v,r⟩:=m
 obtain⟨g1,g2,g3,g4,g5,g6⟩:=hm
 unfold Ln at g2 g3 g4
 dsimp only at g1 g2 g3 g4 g5 g6 hk
 subst hk
 refine Ac rfl rfl ?_
 (conv=>whnf);repeat' (first|((first|apply kE Ai1|apply kE Og|(refine Aa (IJ g5) ?_;rintro _ ⟨z,rfl,hz⟩)|refine Aq (KH g5) (fun hp=>?_) (fun hp=>?_)|apply kE (NQ g6)|refine Aq (AbU (s:=lb) g2) (fun ha=>?_) (fun ha=>?_)|refine Aq (AbU (s:=fr) g3) (fun he=>?_) (fun he=>?_)|refine Aq (AbU (s:=to) g4) (fun hf=>?_) (fun hf=>?_)|apply Aj (Jf r)|refine kA ?_|(apply Br.mk<;>intro hc))<;>first|exact hc.elim|conv=>whnf)|refine kB ?_)
 all_goals clear g1 g2 g3 g4 g5 g6
 all_goals first
  |exact LQ (by unfold AcB EC BP FP ER CV;dsimp only;grind)
  |exact Oa (by unfold AcB EC BP FP ER CV;dsimp only;grind) (by unfold Dc BP FP ER;dsimp only;grind)
  |exact Ob (by unfold AcB EC BP FP ER CV;dsimp only;grind) (by unfold Dc BP FP ER;dsimp only;grind) (by dsimp only;grind)
  |exact Oe (by unfold AcB EC BP FP ER CV;dsimp only;grind) (by unfold Dc BP FP ER;dsimp only;grind) (by dsimp only;grind) (by unfold CV;dsimp only;omega)
  |exact Oc (m:=⟨5,lb,fr,to,v,r⟩) (by unfold AcB EC BP FP ER CV;dsimp only;grind) (by unfold Dc BP FP ER;dsimp only;grind) (by unfold CV;dsimp only;omega)
  |(exfalso;grind)
set_option maxHeartbeats 4000000 in
theorem Ajb {m:GM} (hm:m.ok) (hk:m.k=6):Ae (Ad tab) 45 [m.av] (· =.int .i64 (EW m)):=by
 obtain⟨k,lb,fr,to,v,r⟩:=m
 obtain⟨g1,g2,g3,g4,g5,g6⟩:=hm
 unfold Ln at g2 g3 g4
 dsimp only at g1 g2 g3 g4 g5 g6 hk
 subst hk
 refine Ac rfl rfl ?_
 (conv=>whnf);repeat' (first|((first|apply kE Ai2|apply kE Og|(refine Aa (IJ g5) ?_;rintro _ ⟨z,rfl,hz⟩)|refine Aq (KH g5) (fun hp=>?_) (fun hp=>?_)|apply kE (NQ g6)|refine Aq (AbU (s:=lb) g2) (fun ha=>?_) (fun ha=>?_)|refine Aq (AbU (s:=fr) g3) (fun he=>?_) (fun he=>?_)|refine Aq (AbU (s:=to) g4) (fun hf=>?_) (fun hf=>?_)|apply Aj (Jf r)|refine kA ?_|(apply Br.mk<;>intro hc))<;>first|exact hc.elim|conv=>whnf)|refine kB ?_)
 all_goals clear g1 g2 g3 g4 g5 g6
 all_goals first
  |exact LQ (by unfold AcB EC BP FP ER CV;dsimp only;grind)
  |exact Oa (by unfold AcB EC BP FP ER CV;dsimp only;grind) (by unfold Dc BP FP ER;dsimp only;grind)
  |exact Ob (by unfold AcB EC BP FP ER CV;dsimp only;grind) (by unfold Dc BP FP ER;dsimp only;grind) (by dsimp only;grind)
  |exact Oe (by unfold AcB EC BP FP ER CV;dsimp only;grind) (by unfold Dc BP FP ER;dsimp only;grind) (by dsimp only;grind) (by unfold CV;dsimp only;omega)
  |exact Oc (m:=⟨6,lb,fr,to,v,r⟩) (by unfold AcB EC BP FP ER CV;dsimp only;grind) (by unfold Dc BP FP ER;dsimp only;grind) (by unfold CV;dsimp only;omega)
  |(exfalso;grind)
set_option maxHeartbeats 4000000 in
theorem Ajc {m:GM} (hm:m.ok) (hk:m.k=7):Ae (Ad tab) 45 [m.av] (· =.int .i64 (EW m)):=by
 obtain⟨k,lb,fr,to,v,r⟩:=m
 obtain⟨g1,g2,g3,g4,g5,g6⟩:=hm
 unfold Ln at g2 g3 g4
 dsimp only at g1 g2 g3 g4 g5 g6 hk
 subst hk
 refine Ac rfl rfl ?_
 (conv=>whnf);repeat' (first|((first|apply kE Ai3|apply kE Og|(refine Aa (IJ g5) ?_;rintro _ ⟨z,rfl,hz⟩)|refine Aq (KH g5) (fun hp=>?_) (fun hp=>?_)|apply kE (NQ g6)|refine Aq (AbU (s:=lb) g2) (fun ha=>?_) (fun ha=>?_)|refine Aq (AbU (s:=fr) g3) (fun he=>?_) (fun he=>?_)|refine Aq (AbU (s:=to) g4) (fun hf=>?_) (fun hf=>?_)|apply Aj (Jf r)|refine kA ?_|(apply Br.mk<;>intro hc))<;>first|exact hc.elim|conv=>whnf)|refine kB ?_)
 all_goals clear g1 g2 g3 g4 g5 g6
 all_goals first
  |exact LQ (by unfold AcB EC BP FP ER CV;dsimp only;grind)
  |exact Oa (by unfold AcB EC BP FP ER CV;dsimp only;grind) (by unfold Dc BP FP ER;dsimp only;grind)
  |exact Ob (by unfold AcB EC BP FP ER CV;dsimp only;grind) (by unfold Dc BP FP ER;dsimp only;grind) (by dsimp only;grind)
  |exact Oe (by unfold AcB EC BP FP ER CV;dsimp only;grind) (by unfold Dc BP FP ER;dsimp only;grind) (by dsimp only;grind) (by unfold CV;dsimp only;omega)
  |exact Oc (m:=⟨7,lb,fr,to,v,r⟩) (by unfold AcB EC BP FP ER CV;dsimp only;grind) (by unfold Dc BP FP ER;dsimp only;grind) (by unfold CV;dsimp only;omega)
  |(exfalso;grind)
theorem Ajd {m:GM} (hr:m.ok):Ae (Ad tab) 45 [m.av] (· =.int .i64 (EW m)):=by
 by_cases hk:1≤m.k∧m.k≤7
 case neg=>exact Ai5 hr hk
 have h:m.k=1∨m.k=2∨m.k=3∨m.k=4∨m.k=5∨m.k=6∨m.k=7:=by omega
 rcases h with h|h|h|h|h|h|h
 ·exact Ai6 hr h
 ·exact Ai7 hr h
 ·exact Ai8 hr h
 ·exact Ai9 hr h
 ·exact Aja hr h
 ·exact Ajb hr h
 ·exact Ajc hr h
theorem Zt:∀c:GC,c.av.cells.length=10:=fun _=>rfl
theorem AjY {id:Int} {k:List UInt8} {v:GV}:Ae (Ad tab) 112 [.int .i64 id,.str k,v.av] (· =(Uz 5 id k v).av):=by
 refine Ac rfl rfl ?_
 (conv=>whnf);repeat' (first|((first|refine kA ?_|(apply Br.mk<;>intro hc))<;>first|exact hc.elim|conv=>whnf)|refine kB ?_)
 rfl
set_option maxHeartbeats 4000000 in
theorem AjZ {n:GN} {m:GM} (hl:n.labels.length<2^63) (hp:NT n.props):Ae (Ad tab) 50 [n.av,m.av] (fun w=>∃b,w=.sl b (vs GC.av (CW n m))∧(b=false→CW n m=[])):=by
 have hpr:=Aiw (nn:=n.pn) hp.len hp.1.2 (k:=m.fr)
 rw[Vg]at hpr
 refine Ac rfl rfl ?_
 (conv=>whnf);repeat' (first|((first|refine Aq (I8 (n:=n) (s:=m.fr) hl) (fun ha=>?_) (fun ha=>?_)|refine Aq (I8 (n:=n) (s:=m.label) hl) (fun hb=>?_) (fun hb=>?_)|refine Aq (AaK (nn:=n.pn) hp (k:=m.fr)) (fun hd=>?_) (fun hd=>?_)|refine Aq (AaK (nn:=n.pn) hp (k:=m.to)) (fun he=>?_) (fun he=>?_)|apply kE Aix|apply kE (AjY (v:=V0))|apply kE (AjY (v:=m.v))|apply kE (AjY (v:=ET n.props m.fr))|apply kE hpr|refine kA ?_|(apply Br.mk<;>intro hc))<;>first|exact hc.elim|conv=>whnf)|refine kB ?_)
 all_goals first
  |(rw [AgE (by omega) ha];exact⟨true,rfl,fun h=>Bool.noConfusion h⟩)
  |(rw [Ad3 (by omega) ha];exact⟨false,rfl,fun _=>rfl⟩)
  |(rw [AgF (by omega) hb];exact⟨false,rfl,fun _=>rfl⟩)
  |(rw [AgG (by omega) hb hd];exact⟨true,rfl,fun h=>Bool.noConfusion h⟩)
  |(rw [AgH (by omega) hb hd];exact⟨true,rfl,fun h=>Bool.noConfusion h⟩)
  |(rw [AgI (by omega) hb he];exact⟨true,rfl,fun h=>Bool.noConfusion h⟩)
  |(rw [Ad4 (by omega) hd];exact⟨false,rfl,fun _=>rfl⟩)
  |(rw [Ad5 (by omega) hd];exact⟨false,rfl,fun _=>rfl⟩)
  |(rw [Ad6 (by omega) he];exact⟨false,rfl,fun _=>rfl⟩)
  |(rw [AaL (by omega) (by omega) (by omega) (by omega)];exact⟨false,rfl,fun _=>rfl⟩)
def Le (e:GE) (to:List UInt8) (i:Nat):List GC:=⟨7,e.id,0,0,[],V0⟩::⟨6,e.id,e.fr,e.to,to,V0⟩::(e.props.take i).map fun p=>Uz 8 e.id p.key p.v
theorem Zu {e:GE} {to:List UInt8} {i:Nat} (h:i≤e.props.length):(Le e to i).length=i+2:=by simp[Le];omega
theorem X3 {e:GE} {to:List UInt8} {i:Nat} (h:i<e.props.length):Le e to i++[Uz 8 e.id e.props[i].key e.props[i].v]=Le e to (i+1):=by
 unfold Le;rw[List.take_succ_eq_append_getElem h];simp only[List.map_append,List.map_cons,List.map_nil,List.cons_append]
theorem Aj0 {e:GE} {to:List UInt8} (hp:e.props.length≤2000):Ae (Ad tab) 49 [e.av,.str to] (· =.sl true (vs GC.av (Le e to e.props.length))):=by
 refine Ac rfl rfl ?_
 (conv=>whnf);repeat' (first|((first|refine kA ?_|(apply Br.mk<;>intro hc))<;>first|exact hc.elim|conv=>whnf)|refine kB ?_)
 refine Ag (fun m env s=>∃(i c n go:Nat) (L:List GC),m=e.props.length-i∧i≤e.props.length∧L=Le e to i∧n=L.length∧env=[(2,.ref 0 0 0 0),(5,.own 1 go 0 n),(21,.sl e.pn (vs GP.av e.props)),(22,.int .i64 e.props.length),(23,.int .i64 i)]∧s=⟨[.arr 0 5 true true [e.av],.arr go 10 true true (vs GC.av L)],c⟩) ?_ _ _ _ ⟨0,_,_,_,_,rfl,by omega,rfl,rfl,by rw[← lV (f:=GP.av) e.props];rfl,rfl⟩
 rintro _ _ _ ⟨i,c,n,go,L,rfl,hi,hL,hn,rfl,rfl⟩
 have hlen:=Zu (e:=e) (to:=to) hi
 rw[← hL]at hlen
 refine⟨rfl,?_⟩
 by_cases hlt:i<e.props.length
 ·have hs:=X3 (to:=to) hlt
  rw[← hL]at hs
  (conv=>whnf);repeat' (first|((first|refine AdD (x:=Uz 8 e.id e.props[i].key e.props[i].v) Zt hn (by omega) ?_|refine kA ?_|(apply Br.mk<;>intro hc))<;>first|exact hc.elim|conv=>whnf)|refine kB ?_)
  exact again.mk ⟨_,by omega,i+1,_,_,_,_,rfl,by omega,hs,by simp,rfl,rfl⟩
 ·obtain rfl:i=e.props.length:=by omega
  (conv=>whnf);repeat' (first|((first|refine kA ?_|(apply Br.mk<;>intro hc))<;>first|exact hc.elim|conv=>whnf)|refine kB ?_)
  all_goals first|(subst hL;rw[hn,JU];simp;done)
theorem AbT {e:GE} {m:GM} (h:m.k=2) (h1:e.ty=m.fr):Le e m.to e.props.length=FI e m:=by
 rw[AgJ h h1,Le,List.take_length]
section
open Go.Sort
def ltS (x y:List UInt8):Bool:=Op.bytesLess x y
theorem AaT:∀(x y:List UInt8),Op.bytesLess x y=decide (x<y)
 |[],[]=>by simp[Op.bytesLess]
 |_::_,[]=>by simp[Op.bytesLess]
 |[],_::_=>by simp[Op.bytesLess]
 |a::x,b::y=>by
  rw[Op.bytesLess,AaT x y]
  simp only[List.cons_lt_cons_iff]
  by_cases h1:a<b<;>by_cases h2:a=b<;>by_cases h3:x<y<;>simp[h1,h2,h3]
theorem Aey:ltS=ltStr:=by
 funext x y
 exact AaT x y
theorem Ahb:SWO ltS:=by rw[Aey];exact swo_ltStr
theorem cellsS (x:List UInt8):(AV.str x).cells.length=1:=rfl
end
section
open Go.Sort
theorem clr {C:AL} {es o g off n:Nat} {nn cl:Bool} {x:AO} {env:Env} {σ:List Obj} {c:Nat} {elems:List AV} (hx:x.val env=.own o g off n) (ho:nth σ o=some (.arr g es nn cl elems)) (h:off+n≤elems.length) (hn:n≠0):
 Ak C (.clear es x) env ⟨σ,c⟩=some (.ok .undef,⟨σ.set o (.arr g es nn cl (elems.take off)),c⟩):=by
 simp[Ak,hx,ho,h,hn]
section
variable {α:Type} [Inhabited α]
theorem nPn {f:α→AV} {d:Array α} {m:Nat} (i:Nat) (hm:m=i) (h:i<d.size):nth (vs f d.toList) m=some (f d[i]!):=by
 subst hm
 have:=nP (f:=f) (d:=d) (z:=(m:Int)) m rfl h
 exact this
open Classical in
noncomputable def Kw (d:Array α):Nat→List α
 |0=>[]
 |n+1=>if 0<n∧d[n]! =d[n-1]! then Kw d n else Kw d n++[d[n]!]
theorem Ip {d:Array α} {n:Nat} (h0:0<n) (h:d[n]! =d[n-1]!):Kw d (n+1)=Kw d n:=if_pos ⟨h0,h⟩
theorem ML {d:Array α} {n:Nat} (h:0<n→¬d[n]! =d[n-1]!):Kw d (n+1)=Kw d n++[d[n]!]:=if_neg fun h1=>h h1.1 h1.2
theorem AaR (d:Array α):∀n,(Kw d n).length≤n
 |0=>by simp[Kw]
 |n+1=>by
  have:=AaR d n
  unfold Kw
  split
  ·omega
  ·simp;omega
theorem PU {d:Array α}:∀n,n≤d.size→(∀ j,0<j→j<n→¬d[j]! =d[j-1]!)→Kw d n=d.toList.take n
 |0,_,_=>by simp[Kw]
 |n+1,hn,h=>by
  rw[ML (fun h0=>h n h0 (by omega)),PU n (by omega) fun j h0 hj=>h j h0 (by omega),List.take_succ_eq_append_getElem (by simp;omega)]
  congr 2
  rw[getElem!_pos d n (by omega)]
  simp
theorem PO {d:Array α} {x:α}:∀n,n≤d.size→(x∈Kw d n↔x∈d.toList.take n)
 |0,_=>by simp[Kw]
 |n+1,hn=>by
  have e:d[n]! =d.toList[n]'(by simp;omega):=by rw[getElem!_pos d n (by omega)];simp
  rw[List.take_succ_eq_append_getElem (by simp;omega),List.mem_append,List.mem_singleton,←e]
  by_cases h:0<n∧d[n]! =d[n-1]!
  ·rw[Ip h.1 h.2,PO n (by omega)]
   refine⟨Or.inl,fun h1=>h1.elim id ?_⟩
   rintro rfl
   rw[h.2,getElem!_pos d (n-1) (by omega)]
   rw[List.mem_take_iff_getElem]
   exact⟨n-1,by simp;omega,by simp⟩
  ·rw[ML (fun h0 h1=>h ⟨h0,h1⟩),List.mem_append,List.mem_singleton,PO n (by omega)]
theorem ZH {lt:α→α→Bool} (hS:SWO lt) (htot:∀x y,lt x y=false→lt y x=false→x=y) {d:Array α} (hs:SortedIn lt 0 d.size d):∀n,n≤d.size→(Kw d n).Pairwise (fun x y=>lt x y=true)
 |0,_=>by simp[Kw]
 |n+1,hn=>by
  have ih:=ZH hS htot hs n (by omega)
  by_cases h:0<n∧d[n]! =d[n-1]!
  ·rw[Ip h.1 h.2];exact ih
  ·rw[ML (fun h0 h1=>h ⟨h0,h1⟩)]
   refine List.pairwise_append.2 ⟨ih,List.pairwise_singleton ..,fun x hx y hy=>?_⟩
   obtain rfl:=List.mem_singleton.1 hy
   rw[PO n (by omega),List.mem_take_iff_getElem]at hx
   obtain⟨j,hj,rfl⟩:=hx
   simp only[Array.length_toList]at hj
   have ej:d.toList[j]'(by simp;omega)=d[j]!:=by rw[getElem!_pos d j (by omega)];simp
   rw[ej]
   cases hc:lt d[j]! d[n]! with
   |true=>rfl
   |false=>
    exfalso
    have h1:=hs j n (by omega) (by omega) (by omega)
    have e1:=htot _ _ hc h1
    refine h ⟨by omega,?_⟩
    rcases Nat.lt_or_ge j (n-1)with h2|h2
    ·have h3:=hs j (n-1) (by omega) h2 (by omega)
     have h4:=hs (n-1) n (by omega) (by omega) (by omega)
     rw[e1]at h3
     exact htot _ _ h4 h3
    ·obtain rfl:j=n-1:=by omega
     exact e1.symm
omit [Inhabited α]in
theorem NS {lt:α→α→Bool} (hS:SWO lt):∀{a b:List α},a.Pairwise (fun x y=>lt x y=true)→b.Pairwise (fun x y=>lt x y=true)→(∀ x,x∈a↔x∈b)→a=b
 |[],[],_,_,_=>rfl
 |[],y::b,_,_,h=>absurd ((h y).2 (List.mem_cons_self ..)) (by simp)
 |x::a,[],_,_,h=>absurd ((h x).1 (List.mem_cons_self ..)) (by simp)
 |x::a,y::b,ha,hb,h=>by
  have ha':=List.pairwise_cons.1 ha
  have hb':=List.pairwise_cons.1 hb
  have hxy:x=y:=by
   rcases List.mem_cons.1 ((h x).1 (List.mem_cons_self ..))with e|hx
   ·exact e
   rcases List.mem_cons.1 ((h y).2 (List.mem_cons_self ..))with e|hy
   ·exact e.symm
   have:=hS.trans _ _ _ (ha'.1 y hy) (hb'.1 x hx)
   rw[hS.irrefl]at this;cases this
  subst hxy
  rw[NS hS ha'.2 hb'.2 fun z=>?_]
  have hn1:x∉a:=fun h1=>by have:=ha'.1 x h1;rw[hS.irrefl]at this;cases this
  have hn2:x∉b:=fun h1=>by have:=hb'.1 x h1;rw[hS.irrefl]at this;cases this
  have:=h z
  simp only[List.mem_cons]at this
  constructor
  ·intro hz
   rcases this.1 (Or.inr hz)with rfl|h2
   ·exact absurd hz hn1
   ·exact h2
  ·intro hz
   rcases this.2 (Or.inr hz)with rfl|h2
   ·exact absurd hz hn2
   ·exact h2
end
end
section
open Go.Sort
theorem Aht (L:List (List UInt8)):(JZ L).Pairwise fun x y=>ltS y x=false:=(Xc L).imp fun{x y} h=>by
 have h2:¬y<x:=List.not_lt.2 h
 have h3:=Aa7 y x
 rw[decide_eq_false h2]at h3
 exact h3
theorem Ahu (L:List (List UInt8)):ZQ (vs .str L)=some L:=Yp L
theorem AeL {Bv:Obj} {g len c:Nat} {nn cl:Bool} {L:List (List UInt8)} (hl:L.length=len) (hs:len≤1099511627776):
 Ar (Ad tab) 174 [.own 1 g 0 len] ⟨[Bv,.arr g 1 nn cl (vs .str L)],c⟩ fun out s'=>∃c' W,out=.ok (.BD [])∧s'=⟨[Bv,.arr g 1 nn cl (vs .str W)],c'⟩∧W.Perm L∧W.Pairwise (fun x y=>ltS y x=false):=by
 have hsp:KA [.own 1 g 0 len] ⟨[Bv,.arr g 1 nn cl (vs .str L)],c⟩=some (.ok (.BD []),⟨[Bv,.arr g 1 nn cl (vs .str (JZ L))],c⟩):=by
  show(if g=g∧1=1∧len=(vs AV.str L).length∧len≤1099511627776 then _ else none)=_
  rw[if_pos ⟨rfl,rfl,by rw[lV,hl],hs⟩,Ahu]
  rfl
 exact Gs rfl hsp ⟨c,JZ L,rfl,rfl,Nz L,Aht L⟩
end
section
open Go.Sort
theorem Aiz {Bv:Obj} {g len c:Nat} {nn cl:Bool} {d:Array (List UInt8)} (hl:d.size=len) (hs:len<2^61):
 Ar (Ad tab) 175 [.own 1 g 0 len] ⟨[Bv,.arr g 1 nn cl (vs .str d.toList)],c⟩ fun out s'=>∃c' T,out=.ok (.own 1 g 0 (Kw d len).length)∧s'=⟨[Bv,.arr g 1 nn cl (vs .str (Kw d len++T))],c'⟩:=by
 have hend:(∀ j,0<j→j<len→¬d[j]! =d[j-1]!)→Kw d len=d.toList:=fun h=>by
  rw[PU len (by omega) h,List.take_of_length_le (by simp[hl])]
 refine Ai rfl rfl ?_
 (conv=>whnf);repeat' (first|((first|refine kA ?_|(apply Br.mk<;>intro hc))<;>first|exact hc.elim|conv=>whnf)|refine kB ?_)
 ·have e:=hend (fun j h0 hj=>absurd h0 (by omega))
  rw[e,Array.length_toList,hl]
  exact⟨_,[],rfl,by rw[List.append_nil]⟩
 refine Ag (fun m env s=>∃(k c:Nat),m=len-k∧0<k∧(∀ j,0<j→j<k→¬d[j]! =d[j-1]!)∧env=[(0,.own 1 g 0 len),(3,.int .i64 k)]∧s=⟨[Bv,.arr g 1 nn cl (vs .str d.toList)],c⟩) ?_ _ _ _ ⟨1,c,rfl,by omega,fun j h0 h1=>absurd h0 (by omega),rfl,rfl⟩
 rintro _ _ _ ⟨k,c,rfl,hk0,hk,rfl,rfl⟩
 refine⟨rfl,?_⟩
 (conv=>whnf);repeat' (first|((first|((with_reducible show Ci _ _ _);refine Hu (k) ?_)|((with_reducible show Ci _ _ _);refine Hu (k-1) ?_)|refine kA ?_|(apply Br.mk<;>intro hc))<;>first|exact hc.elim|conv=>whnf)|refine kB ?_)
 ·have h1:Kw d (k+1)=Kw d k:=Ip hk0 ‹_›
  have h2:Kw d k=d.toList.take k:=PU k (by omega) hk
  obtain⟨k,rfl⟩:∃k',k=k'+1:=⟨k-1,by omega⟩
  refine Ag (fun m env s=>∃(k2 c w:Nat) (E:Array (List UInt8)),m=len-(k+1)-k2∧0<k2∧k+1+k2≤len∧E.size=len∧w=(Kw d (k+1+k2)).length∧w<k+1+k2∧E.toList.take w=Kw d (k+1+k2)∧(∀ j,k+1+k2≤j+1→j<len→E[j]! =d[j]!)∧env=[(0,.own 1 g 0 len),(3,.int .i64 w),(4,.own 1 g (k+1) (len-(k+1))),(5,.int .i64 k2)]∧s=⟨[Bv,.arr g 1 nn cl (vs .str E.toList)],c⟩) ?_ _ _ _ ⟨1,_,k+1,d,rfl,by omega,by omega,hl,by rw[h1,h2];simp;omega,by omega,by rw[h1,h2],fun j _ _=>rfl,rfl,rfl⟩
  rintro _ _ _ ⟨k2,c,w,E,rfl,hk2,hkl,hE,hw,hwk,hW,YN,rfl,rfl⟩
  refine⟨rfl,?_⟩
  (conv=>whnf);repeat' (first|((first|(apply Af;(· exact nPn (k+1+k2) (by omega) (by first|omega|(simp;omega))))|(apply Af;(· exact nPn (k+1+k2-1) (by omega) (by first|omega|(simp;omega))))|((with_reducible show Ci _ _ _);refine Hu (w) ?_)|((with_reducible show eqK _ _);refine NJ cellsS (w) ?_)|refine kA ?_|(apply Br.mk<;>intro hc))<;>first|exact hc.elim|conv=>whnf)|refine kB ?_)
  ·have e1:=YN (k+1+k2) (by omega) (by omega)
   have e2:=YN (k+1+k2-1) (by omega) (by omega)
   rw[e1,e2]at hc
   exact again.mk ⟨_,by omega,k2+1,_,w,E,rfl,by omega,by omega,hE,by rw[hw,←Ip (d:=d) (n:=k+1+k2) (by omega) hc];rfl,by omega,by rw[hW,←Ip (d:=d) (n:=k+1+k2) (by omega) hc];rfl,fun j h1 h2=>YN j (by omega) h2,rfl,rfl⟩
  ·have e1:=YN (k+1+k2) (by omega) (by omega)
   have e2:=YN (k+1+k2-1) (by omega) (by omega)
   rw[e1,e2]at hc
   have e3:Kw d (k+1+(k2+1))=Kw d (k+1+k2)++[d[k+1+k2]!]:=ML fun _=>hc
   refine again.mk ⟨_,by omega,k2+1,_,w+1,E.setIfInBounds w E[k+1+k2]!,rfl,by omega,by omega,by simpa using hE,by rw[e3,List.length_append,←hw];rfl,by omega,?_,fun j h1 h2=>?_,rfl,rfl⟩
   ·rw[Array.toList_setIfInBounds,List.take_succ_eq_append_getElem (by simp;omega),e3,←hW,e1]
    simp[List.take_set_of_le]
   ·rw[← YN j (by omega) h2,getElem!_pos _ j (by simp;omega),getElem!_pos E j (by omega),Array.getElem_setIfInBounds_ne (by omega) (by omega)]
  ·have Ake:k+1+k2=len:=by omega
   rw[Ake]at hW hw hwk
   refine Aj (clr (n:=len-w) rfl rfl (by simp;omega) (by omega)) ?_
   have e4:List.take (Int.toNat (w:Int)) (vs .str E.toList)=vs .str (Kw d len++[]):=by
        rw[List.append_nil,←hW];simp[vs,List.map_take]
   (conv=>whnf);repeat' (first|((first|refine kA ?_|(apply Br.mk<;>intro hc))<;>first|exact hc.elim|conv=>whnf)|refine kB ?_)
   refine⟨c,[],by rw[← hw];rfl,?_⟩
   rw[← e4]
   rfl
 ·exact again.mk ⟨_,by omega,k+1,_,rfl,by omega,fun j h0 hj=>by
   rcases Nat.lt_or_ge j k with h|h
   ·exact hk j h0 h
   ·obtain rfl:j=k:=by omega
    first|exact hc|assumption,rfl,rfl⟩
 ·have e:=hend (fun j h0 hj=>hk j h0 (by omega))
  rw[e,Array.length_toList,hl]
  exact⟨_,[],rfl,by rw[List.append_nil]⟩
end
section
open Go.Sort
theorem Ahm (x y:List UInt8) (h1:ltS x y=false) (h2:ltS y x=false):x=y:=by
 rw[Aey]at h1 h2
 simp only[ltStr,decide_eq_false_iff_not]at h1 h2
 exact List.le_antisymm (List.not_lt.1 h2) (List.not_lt.1 h1)
def Ahn (l:List (List UInt8)):Prop:=l.Pairwise (fun x y=>ltS x y=true)
theorem Aa1 {W:List (List UInt8)} (hs:W.Pairwise (fun x y=>ltS y x=false)):Ahn (Kw W.toArray W.length)∧∀x,x∈Kw W.toArray W.length↔x∈W:=by
 have h:SortedIn ltS 0 W.toArray.size W.toArray:=by
  intro i j _ hij hj
  have hj':j<W.length:=by simpa using hj
  have:=List.pairwise_iff_getElem.1 hs i j (by omega) hj' hij
  rw[getElem!_pos W.toArray j (by simpa using hj'),getElem!_pos W.toArray i (by simp;omega)]
  simpa using this
 refine⟨ZH Ahb Ahm h W.length (by simp),fun x=>?_⟩
 rw[PO W.length (by simp)]
 simp
def Fv (N:List GN):List (List UInt8):=N.flatMap GN.labels
def typesOf (E:List GE):List (List UInt8):=E.map GE.ty
theorem UH {N:List GN} {i:Nat} (h:i<N.length):Fv (N.take (i+1))=Fv (N.take i)++(N[i]).labels:=by
 rw[Fv,List.take_succ_eq_append_getElem h,List.flatMap_append];simp[Fv]
theorem WY {N:List GE} {i:Nat} (h:i<N.length):typesOf (N.take (i+1))=typesOf (N.take i)++[(N[i]).ty]:=by
 rw[typesOf,List.take_succ_eq_append_getElem h,List.map_append];simp[typesOf]
theorem Ahk {g:GG} (hg:g.ok) (hN:g.nodes.length≤2000) (hL:∀n∈g.nodes,n.labels.length≤2000):Ae (Ad tab) 106 [g.av] (fun v=>∃nn R,v=.sl nn (vs .str R)∧Ahn R∧∀x,x∈R↔x∈Fv g.nodes):=by
 refine Ac rfl rfl ?_
 (conv=>whnf);repeat' (first|((first|refine kA ?_|(apply Br.mk<;>intro hc))<;>first|exact hc.elim|conv=>whnf)|refine kB ?_)
 refine Ag (fun m env s=>∃(i c n go:Nat) (nn:Bool) (L:List (List UInt8)),m=g.nodes.length-i∧i≤g.nodes.length∧L=Fv (g.nodes.take i)∧n=L.length∧n≤2000*i∧env=[(3,.own 1 go 0 n),(7,.sl g.nn (vs GN.av g.nodes)),(8,.int .i64 g.nodes.length),(9,.int .i64 i)]∧s=⟨[.arr 0 4 true true [g.av],.arr go 1 nn true (vs .str L)],c⟩) ?_ _ _ _ ⟨0,_,0,_,_,[],rfl,by omega,rfl,rfl,by omega,by rw[← lV (f:=GN.av) g.nodes];rfl,rfl⟩
 rintro _ _ _ ⟨i,c,n,go,nn,L,rfl,hin,hL0,hn,hni,rfl,rfl⟩
 refine⟨rfl,?_⟩
 have hat:∀h:i<g.nodes.length,(g.nodes[i]).labels.length≤2000:=fun h=>hL _ (List.getElem_mem _)
 (conv=>whnf);repeat' (first|((first|refine AjK rfl cellsS hn (by have:=hat (by omega);omega) (fun b=>?_)|refine kA ?_|(apply Br.mk<;>intro hc))<;>first|exact hc.elim|conv=>whnf)|refine kB ?_)
 ·have:=hat (by omega)
  exact again.mk ⟨_,by omega,i+1,_,_,_,_,_,rfl,by omega,by rw[hL0,←UH (by omega)],by simp,by omega,rfl,rfl⟩
 ·rw[BN hc]at hL0
  refine(AeL (L:=L) hn.symm (by omega)).mono ?_
  rintro _ _ ⟨c1,W,rfl,rfl,h1,h2⟩
  obtain⟨q1,q2⟩:=Aa1 h2
  have hw:=h1.length_eq
  conv=>whnf
  apply Aj rfl
  (conv=>whnf);repeat' (first|((first|refine kA ?_|(apply Br.mk<;>intro hc))<;>first|exact hc.elim|conv=>whnf)|refine kB ?_)
  refine(Aiz (d:=W.toArray) (by simp;omega) (by omega)).mono ?_
  rintro _ _ ⟨c2,T,rfl,rfl⟩
  rw[show n=W.length by omega]
  conv=>whnf
  apply Aj rfl
  (conv=>whnf);repeat' (first|((first|refine kA ?_|(apply Br.mk<;>intro hc))<;>first|exact hc.elim|conv=>whnf)|refine kB ?_)
  refine⟨nn,_,by rw[JU];simp,q1,fun x=>?_⟩
  rw[q2,h1.mem_iff,hL0]
theorem Akp {g:GG} (hg:g.ok) (hN:g.edges.length≤4000):Ae (Ad tab) 107 [g.av] (fun v=>∃nn R,v=.sl nn (vs .str R)∧Ahn R∧∀x,x∈R↔x∈typesOf g.edges):=by
 refine Ac rfl rfl ?_
 (conv=>whnf);repeat' (first|((first|refine kA ?_|(apply Br.mk<;>intro hc))<;>first|exact hc.elim|conv=>whnf)|refine kB ?_)
 refine Ag (fun m env s=>∃(i c n go:Nat) (nn:Bool) (L:List (List UInt8)),m=g.edges.length-i∧i≤g.edges.length∧L=typesOf (g.edges.take i)∧n=L.length∧n≤i∧env=[(3,.own 1 go 0 n),(7,.sl g.en (vs GE.av g.edges)),(8,.int .i64 g.edges.length),(9,.int .i64 i)]∧s=⟨[.arr 0 4 true true [g.av],.arr go 1 nn true (vs .str L)],c⟩) ?_ _ _ _ ⟨0,_,0,_,_,[],rfl,by omega,rfl,rfl,by omega,by rw[← lV (f:=GE.av) g.edges];rfl,rfl⟩
 rintro _ _ _ ⟨i,c,n,go,nn,L,rfl,hin,hL0,hn,hni,rfl,rfl⟩
 refine⟨rfl,?_⟩
 (conv=>whnf);repeat' (first|((first|refine AdD (x:=(g.edges[i]).ty) cellsS hn (by omega) ?_|refine kA ?_|(apply Br.mk<;>intro hc))<;>first|exact hc.elim|conv=>whnf)|refine kB ?_)
 ·exact again.mk ⟨_,by omega,i+1,_,_,_,_,_,rfl,by omega,by rw[hL0,←WY (by omega)],by simp,by omega,rfl,rfl⟩
 ·rw[BN hc]at hL0
  refine(AeL (L:=L) hn.symm (by omega)).mono ?_
  rintro _ _ ⟨c1,W,rfl,rfl,h1,h2⟩
  obtain⟨q1,q2⟩:=Aa1 h2
  have hw:=h1.length_eq
  conv=>whnf
  apply Aj rfl
  (conv=>whnf);repeat' (first|((first|refine kA ?_|(apply Br.mk<;>intro hc))<;>first|exact hc.elim|conv=>whnf)|refine kB ?_)
  refine(Aiz (d:=W.toArray) (by simp;omega) (by omega)).mono ?_
  rintro _ _ ⟨c2,T,rfl,rfl⟩
  rw[show n=W.length by omega]
  conv=>whnf
  apply Aj rfl
  (conv=>whnf);repeat' (first|((first|refine kA ?_|(apply Br.mk<;>intro hc))<;>first|exact hc.elim|conv=>whnf)|refine kB ?_)
  refine⟨nn,_,by rw[JU];simp,q1,fun x=>?_⟩
  rw[q2,h1.mem_iff,hL0]
theorem Hw {α:Type} [DecidableEq α]:∀{R W:List α},R.Nodup→(∀ x∈R,x∈W)→R.length≤W.length
 |[],W,_,_=>by simp
 |a::R,W,h,hs=>by
  obtain⟨h1,h2⟩:=List.nodup_cons.1 h
  have ha:a∈W:=hs a (by simp)
  have:=Hw (R:=R) (W:=W.erase a) h2 fun x hx=>(List.mem_erase_of_ne (by rintro rfl;exact h1 hx)).2 (hs x (by simp[hx]))
  rw[List.length_erase_of_mem ha]at this
  have:=List.length_pos_of_mem ha
  simp;omega
theorem Aa2:∀x:List UInt8,ltS x x=false
 |[]=>rfl
 |a::s=>by have:=Aa2 s;unfold ltS at *;simp[Op.bytesLess,this]
theorem Aa0 {R W:List (List UInt8)} (hi:Ahn R) (h:∀x,x∈R↔x∈W):R.length≤W.length:=
 Hw (List.Pairwise.imp (fun {a b} hab=>by rintro rfl;rw[Aa2]at hab;cases hab) hi) fun x hx=>(h x).1 hx
end
def Fair (g:GG):Prop:=g.ok∧g.nodes.length≤2000∧g.edges.length≤4000∧(∀ n∈g.nodes,n.labels.length≤2000∧NT n.props)∧∀e∈g.edges,NT e.props
def tk3 (n:GN) (m:GM):Prop:=m.label∈n.labels∧AcA n.props m.fr∧AcA n.props m.to
instance (n:GN) (m:GM):Decidable (tk3 n m):=by unfold tk3;infer_instance
def tkN (n:GN) (m:GM):Prop:=(m.k=1∧m.to∈n.labels)∨(m.k=3∧tk3 n m)
instance (n:GN) (m:GM):Decidable (tkN n m):=by unfold tkN;infer_instance
def FU (g:GG) (m:GM):Prop:=(∃ n∈g.nodes,tkN n m)∨∃e∈g.edges,m.k=2∧e.ty=m.to
instance (g:GG) (m:GM):Decidable (FU g m):=by unfold FU;infer_instance
theorem AaX {g:GG} {m:GM} (h:m.k=1):FU g m↔∃n∈g.nodes,m.to∈n.labels:=by unfold FU tkN;simp[h]
theorem AaY {g:GG} {m:GM} (h:m.k=2):FU g m↔∃e∈g.edges,e.ty=m.to:=by unfold FU tkN;simp[h]
theorem AaZ {g:GG} {m:GM} (h:m.k=3):FU g m↔∃n∈g.nodes,tk3 n m:=by unfold FU tkN;simp[h]
theorem Ahj {g:GG} {m:GM} (h1:m.k≠1) (h2:m.k≠2) (h3:m.k≠3):¬FU g m:=by unfold FU tkN;simp[h1,h2,h3]
theorem P8 {N:List GN} {x:List UInt8}:x∈Fv N↔∃n∈N,x∈n.labels:=List.mem_flatMap
theorem Rf {E:List GE} {x:List UInt8}:x∈typesOf E↔∃e∈E,e.ty=x:=List.mem_map
theorem WX {N:List GN} (h:∀n∈N,n.labels.length≤2000):(Fv N).length≤2000*N.length:=by
 induction N with
 |nil=>simp[Fv]
 |cons n N ih=>
  have h1:=ih fun x hx=>h x (by simp[hx])
  have h2:=h n (by simp)
  have:Fv (n::N)=n.labels++Fv N:=rfl
  rw[this,List.length_append,List.length_cons];omega
theorem AeI {σ:List Obj} {n f o g i off es:Nat} {nn:Bool} {elems:List AV} {x:AV} (h1:nth σ o=some (.arr g es nn true elems)) (h2:nth elems i=some x):snap σ (n+3) (.fn f [.ref o g i off])=some (.fn f [.CJ (x.cells.drop off)]):=by
 simp[snap,He,h1,h2]
theorem AoO {n:GN} {m:GM} (hl:n.labels.length<2^63) (hp:NT n.props):Ae (Ad tab) 109 [n.av,.CJ m.av.cells] (· =.bool (decide (tk3 n m))):=by
 refine Ac rfl rfl ?_
 (conv=>whnf);repeat' (first|((first|refine Aq (I8 (n:=n) (s:=m.label) hl) (fun hb=>?_) (fun hb=>?_)|refine Aq (AaK (nn:=n.pn) hp (k:=m.fr)) (fun hd=>?_) (fun hd=>?_)|refine Aq (AaK (nn:=n.pn) hp (k:=m.to)) (fun he=>?_) (fun he=>?_)|refine kA ?_|(apply Br.mk<;>intro hc))<;>first|exact hc.elim|conv=>whnf)|refine kB ?_)
 all_goals first|exact Bd ⟨hb,hd,he⟩|exact Au (by unfold tk3;grind)
theorem AoP {N:List GN} {nn:Bool} {m:GM} (hN:N.length<2^63) (h:∀n∈N,n.labels.length≤2000∧NT n.props):Ae (Ad tab) 176 [.sl nn (vs GN.av N),.fn 109 [.CJ m.av.cells]] (fun v=>∃z,v=.int .i64 z∧(0≤z↔∃n∈N,tk3 n m)):=by
 refine Ac rfl rfl ?_
 (conv=>whnf);repeat' (first|((first|refine kA ?_|(apply Br.mk<;>intro hc))<;>first|exact hc.elim|conv=>whnf)|refine kB ?_)
 refine Ag (fun y env s=>∃i:Nat,y=N.length-i∧(∀ x∈N.take i,¬tk3 x m)∧env=[(0,.sl nn (vs GN.av N)),(1,.fn 109 [.CJ m.av.cells]),(7,.int .i64 N.length),(8,.int .i64 i)]∧s=⟨[],0⟩) ?_ _ _ _ ⟨0,rfl,by simp,by rw[← lV (f:=GN.av) N];rfl,rfl⟩
 rintro _ _ _ ⟨i,rfl,hx,rfl,rfl⟩
 refine⟨rfl,?_⟩
 by_cases hlt:i<N.length
 ·have hn:=h _ (List.getElem_mem hlt)
  (conv=>whnf);repeat' (first|((first|refine Aq (AoO (n:=N[i]) (m:=m) (by have:=hn.1;omega) hn.2) (fun hb=>?_) (fun hb=>?_)|refine kA ?_|(apply Br.mk<;>intro hc))<;>first|exact hc.elim|conv=>whnf)|refine kB ?_)
  all_goals first
   |exact again.mk ⟨_,by omega,i+1,rfl,Bl hlt hx hb,rfl,rfl⟩
   |exact⟨_,rfl,fun _=>⟨_,List.getElem_mem hlt,hb⟩,fun _=>by omega⟩
 ·rw[List.take_of_length_le (by omega)]at hx
  (conv=>whnf);repeat' (first|((first|refine kA ?_|(apply Br.mk<;>intro hc))<;>first|exact hc.elim|conv=>whnf)|refine kB ?_)
  all_goals first|exact⟨_,rfl,fun h=>absurd h (by decide),fun⟨n,h1,h2⟩=>absurd h2 (hx n h1)⟩
theorem AmR {N:List GN} {nn:Bool} {m:GM} (hN:N.length<2^63) (h:∀n∈N,n.labels.length≤2000∧NT n.props):Ae (Ad tab) 108 [.sl nn (vs GN.av N),.fn 109 [.CJ m.av.cells]] (· =.bool (decide (∃ n∈N,tk3 n m))):=by
 refine Ac rfl rfl ?_
 (conv=>whnf);repeat' (first|((first|(refine Aa (AoP (m:=m) hN h) ?_;rintro _ ⟨z,rfl,hz⟩)|refine kA ?_|(apply Br.mk<;>intro hc))<;>first|exact hc.elim|conv=>whnf)|refine kB ?_)
 all_goals first|exact Bd (hz.1 hc)|exact Au (mt hz.2 hc)|exact Bd (hz.1 (by omega))|exact Au (mt hz.2 (by omega))
theorem AeJ {g:GG} {m:GM} (hf:Fair g):Ae (Ad tab) 48 [g.av,m.av] (· =.bool (decide (FU g m))):=by
 have hN:=hf.2.1
 have hE:=hf.2.2.1
 obtain⟨_,⟨n1,R1,rfl,i1,m1⟩,p1⟩:=(Ahk hf.1 hN fun n hn=>(hf.2.2.2.1 n hn).1).KI
 obtain⟨_,⟨n2,R2,rfl,i2,m2⟩,p2⟩:=(Akp hf.1 hE).KI
 have l1:=Aa0 i1 m1
 have l1':=WX fun n hn=>(hf.2.2.2.1 n hn).1
 have l2:=Aa0 i2 m2
 have l2':(typesOf g.edges).length=g.edges.length:=by simp[typesOf]
 refine Ac rfl rfl ?_
 (conv=>whnf);repeat' (first|((first|apply kE p1|apply kE p2|refine Aq (AeC (l:=R1) (x:=m.to) (by omega)) (fun ha=>?_) (fun ha=>?_)|refine Aq (AeC (l:=R2) (x:=m.to) (by omega)) (fun hb=>?_) (fun hb=>?_)|(apply Aj;(· exact AeI (n:=35) rfl rfl))|refine Aq (AmR (N:=g.nodes) (nn:=g.nn) (m:=m) (by omega) hf.2.2.2.1) (fun hd=>?_) (fun hd=>?_)|refine kA ?_|(apply Br.mk<;>intro hc))<;>first|exact hc.elim|conv=>whnf)|refine kB ?_)
 all_goals first
  |exact Bd ((AaX ‹_›).2 (P8.1 ((m1 _).1 ha)))
  |exact Au fun h=>ha ((m1 _).2 (P8.2 ((AaX ‹_›).1 h)))
  |exact Bd ((AaY ‹_›).2 (Rf.1 ((m2 _).1 hb)))
  |exact Au fun h=>hb ((m2 _).2 (Rf.2 ((AaY ‹_›).1 h)))
  |exact Bd ((AaZ ‹_›).2 hd)
  |exact Au fun h=>hd ((AaZ ‹_›).1 h)
  |exact Au (Ahj ‹_› ‹_› ‹_›)
end AI
end Go.Proofs.YtjijnamhalgamaaGreatDoor
