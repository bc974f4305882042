/- The reference's check of values that may be stored, of labels and properties. -/
import Derived.Test.YtjijnamhalgamaaGreatDoorTMag
import Derived.Test.YtjijnamhalgamaaGreatDoorTMaf
import Derived.Test.YtjijnamhalgamaaGreatDoorTMae
import Derived.Test.YtjijnamhalgamaaGreatDoorBMaa
set_option linter.unusedVariables false
set_option maxRecDepth 4000
namespace Go.Proofs.YtjijnamhalgamaaGreatDoor
namespace AI
theorem AkA {v:GV} (hv:v.ok) (hk:IG v) {n:Int}:Ae (Ad tab) 154 [v.av,.int .i64 n] (· =.bool (decide (Dx v))):=by
 obtain⟨g1,g2,g3,g4,g5,g6,g7⟩:=hv
 unfold Ln at g4 g5
 unfold IG at hk
 refine Ac rfl rfl ?_
 (conv=>whnf);repeat' (first|((first|refine kA ?_|(apply Br.mk<;>intro hc)|refine Aq (AaD (v:=v) g5) (fun hb=>?_) (fun hb=>?_)|refine Aq (Al2 (n:=v.n)) (fun hr=>?_) (fun hr=>?_)|refine Aq (Al3 (s:=v.s) g4) (fun hr=>?_) (fun hr=>?_))<;>first|exact hc.elim|conv=>whnf)|refine kB ?_)
 all_goals unfold Pq at hb
 all_goals simp only[Bool.false_eq_true,false_or,true_or,true_and]at hb
 all_goals first
  |exact Bd (AkB (by omega) hb.1 hb.2.2 hb.2.1 (by omega))
  |exact Bd (AkC (by omega) hb.1 hb.2.2 hb.2.1 hr)
  |exact Bd (AkD (by omega) hb.2.1 hb.2.2 hb.1 hr)
  |exact Au fun h=>hb ⟨h.1,AcR h (by omega),h.2.1⟩
  |exact Au fun h=>hb ⟨(YT h (by omega)).1,h.1,h.2.1⟩
  |(refine Au fun h=>?_;have:=AkE h (by omega);omega)
  |exact Au fun h=>hr (AkF h (by omega))
  |exact Au fun h=>hr (YT h (by omega)).2
  |omega
theorem AkG {v:GV} (hv:v.ok) (hk:IG v):Ae (Ad tab) 90 [v.av] (· =.bool (decide (Dx v))):=by
 refine Ac rfl rfl ?_
 (conv=>whnf);repeat' (first|((first|refine kA ?_|(apply Br.mk<;>intro hc)|refine Aq (AkA (v:=v) hv hk) (fun hr=>?_) (fun hr=>?_))<;>first|exact hc.elim|conv=>whnf)|refine kB ?_)
 all_goals first|exact Bd ‹_› |exact Au ‹_›
theorem AkH {v:GV} (hv:v.ok):Ae (Ad tab) 136 [v.av] (· =.bool (decide (Dx v))):=by
 by_cases hk:IG v
 ·have hk':=hk
  unfold IG at hk'
  refine Ac rfl rfl ?_
  (conv=>whnf);repeat' (first|((first|refine kA ?_|(apply Br.mk<;>intro hc)|refine Aq (AkG (v:=v) hv hk) (fun hr=>?_) (fun hr=>?_))<;>first|exact hc.elim|conv=>whnf)|refine kB ?_)
  all_goals first|exact Bd ‹_› |exact Au ‹_› |omega
 ·have hk':=hk
  unfold IG at hk'
  refine Ac rfl rfl ?_
  (conv=>whnf);repeat' (first|((first|refine kA ?_|(apply Br.mk<;>intro hc)|(refine Aa (Abu (g:=v) hv) ?_;rintro _ ⟨b,rfl⟩))<;>first|exact hc.elim|conv=>whnf)|refine kB ?_)
  all_goals first|exact Au (fun h=>hk (QD h))|omega
theorem AmX {P:List GP} {nn:Bool} (hl:P.length<2^40):Ae (Ad tab) 147 [.sl nn (vs GP.av P)] (fun v=>∃b,v=.sl b (vs .str (keysOf P))):=by
 refine Ac rfl rfl ?_
 (conv=>whnf);repeat' (first|((first|refine kA ?_|(apply Br.mk<;>intro hc))<;>first|exact hc.elim|conv=>whnf)|refine kB ?_)
 refine Ag (fun m env s=>∃(i c go n:Nat) (b:Bool),m=P.length-i∧i≤P.length∧n=i∧env=[(0,.sl nn (vs GP.av P)),(3,.own 0 go 0 n),(4,.int .i64 i)]∧s=⟨[.arr go 1 b true (vs .str (keysOf (P.take i)))],c⟩) ?_ _ _ _ ⟨0,_,_,0,_,rfl,by omega,rfl,rfl,rfl⟩
 rintro _ _ _ ⟨i,c,go,n,b,rfl,hi,hn,rfl,rfl⟩
 refine⟨rfl,?_⟩
 (conv=>whnf);repeat' (first|((first|refine AdD (x:=(P[i]).key) (fun _=>rfl) (by simp;omega) (by simp;omega) ?_|refine kA ?_|(apply Br.mk<;>intro hc))<;>first|exact hc.elim|conv=>whnf)|refine kB ?_)
 ·exact again.mk ⟨_,by omega,i+1,_,_,_,_,rfl,by omega,by simp;omega,rfl,by rw[Ri (by omega)]⟩
 ·obtain rfl:i=P.length:=by omega
  refine⟨b,?_⟩
  rw[JU,hn]
  simp
  rw[List.take_of_length_le (by simp)]
theorem AeX {L:List (List UInt8)} {P:List GP} {ln pn:Bool} (hL:L.length<2^63) (hs:∀s∈L,s.length<2^63) (hP:P.length<2^63) (hp:∀p∈P,p.ok):Ae (Ad tab) 80 [.sl ln (vs .str L),.sl pn (vs GP.av P)] (· =.int .i64 (Dw L P)):=by
 have hk:=Vy hp
 have hkl:(keysOf P).length<2^63:=by rw[OL];exact hP
 refine Ac rfl rfl ?_
 (conv=>whnf);repeat' (first|((first|refine kA ?_|(apply Br.mk<;>intro hc))<;>first|exact hc.elim|conv=>whnf)|refine kB ?_)
 ·exact PW (by omega)
 ·exact PW (by omega)
 have h16:¬(8<L.length∨16<P.length):=by omega
 refine Aa (AmX (P:=P) (by omega)) ?_
 rintro _ ⟨b,rfl⟩
 (conv=>whnf);repeat' (first|((first|refine Aq (AcZ hL hs) (fun h1=>?_) (fun h1=>?_)|refine Aq (AcZ hkl hk) (fun h2=>?_) (fun h2=>?_)|refine Aq (Ac1 hL) (fun h3=>?_) (fun h3=>?_)|refine Aq (Ac1 hkl) (fun h4=>?_) (fun h4=>?_)|refine kA ?_|(apply Br.mk<;>intro hc))<;>first|exact hc.elim|conv=>whnf)|refine kB ?_)
 all_goals first
  |exact PX h16 fun h=>h1 h.1
  |exact PX h16 fun h=>h2 h.2
  |exact MO h16 ⟨h1,h2⟩ fun h=>h3 h.1
  |exact MO h16 ⟨h1,h2⟩ fun h=>h4 h.2
  |skip
 refine Ag (fun m env s=>∃(i:Nat),m=P.length-i∧env=[(1,.sl pn (vs GP.av P)),(6,.int .i64 i)]∧s=⟨[],0⟩∧∀p∈P.take i,Dx p.v) ?_ _ _ _ ⟨0,rfl,rfl,rfl,by simp⟩
 rintro _ _ _ ⟨i,rfl,rfl,rfl,hx⟩
 refine⟨rfl,?_⟩
 (conv=>whnf);repeat' (first|((first|refine Aq (AkH (v:=(P[i]).v) (hp _ (List.getElem_mem (by omega))).2) (fun hr=>?_) (fun hr=>?_)|refine kA ?_|(apply Br.mk<;>intro hc))<;>first|exact hc.elim|conv=>whnf)|refine kB ?_)
 ·exact again.mk ⟨_,by omega,i+1,rfl,rfl,rfl,Bl (by omega) hx hr⟩
 ·exact WM h16 ⟨h1,h2⟩ ⟨h3,h4⟩ fun h=>hr (h _ (List.getElem_mem _))
 ·rw[BN hc]at hx
  exact Abb h16 ⟨h1,h2⟩ ⟨h3,h4⟩ hx
end AI
end Go.Proofs.YtjijnamhalgamaaGreatDoor
