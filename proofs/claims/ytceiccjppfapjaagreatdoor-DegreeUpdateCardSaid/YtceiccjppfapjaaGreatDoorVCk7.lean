/- The reference's check of values that may be stored, of labels and properties. -/
import Derived.Test.YtceiccjppfapjaaGreatDoorVMag
import Derived.Test.YtceiccjppfapjaaGreatDoorBMaa
set_option linter.unusedVariables false
set_option maxRecDepth 4000
namespace Go.Proofs.YtceiccjppfapjaaGreatDoor
namespace AI
theorem An0 {v:GV} (hv:v.ok) (hk:JX v) {n:Int}:Af (Ad tab) 259 [v.av,.int .i64 n] (· =.bool (decide (Dz v))):=by
 obtain⟨g1,g2,g3,g4,g5,g6,g7⟩:=hv
 unfold Ln at g4 g5
 unfold JX at hk
 refine Ac rfl rfl ?_
 (conv=>whnf);repeat' (first|(refine kA ?_;conv=>whnf)|(refine Br.mk (fun hc=>?_) fun hc=>?_<;>first|exact hc.elim|conv=>whnf)|(refine Bo (Z4 (v:=v) g5) (fun hb=>?_) (fun hb=>?_)<;>conv=>whnf)|(refine Bo (ApP (n:=v.n)) (fun hr=>?_) (fun hr=>?_)<;>conv=>whnf)|(refine Bo (Ao2 (s:=v.s) g4) (fun hr=>?_) (fun hr=>?_)<;>conv=>whnf)|(refine kB ?_))
 all_goals unfold NZ at hb
 all_goals simp only[Bool.false_eq_true,false_or,true_or,true_and]at hb
 all_goals first
  |exact Bc (AmR (by omega) hb.1 hb.2.2 hb.2.1 (by omega))
  |exact Bc (AmS (by omega) hb.1 hb.2.2 hb.2.1 hr)
  |exact Bc (AmT (by omega) hb.2.1 hb.2.2 hb.1 hr)
  |exact Am fun h=>hb ⟨h.1,AmU h (by omega),h.2.1⟩
  |exact Am fun h=>hb ⟨(AhA h (by omega)).1,h.1,h.2.1⟩
  |(refine Am fun h=>?_;have:=AmV h (by omega);omega)
  |exact Am fun h=>hr (AmW h (by omega))
  |exact Am fun h=>hr (AhA h (by omega)).2
  |(exfalso;omega)
theorem An1 {v:GV} (hv:v.ok) (hk:JX v):Af (Ad tab) 196 [v.av] (· =.bool (decide (Dz v))):=by
 refine Ac rfl rfl ?_
 (conv=>whnf);repeat' (first|(refine kA ?_;conv=>whnf)|(refine Br.mk (fun hc=>?_) fun hc=>?_<;>first|exact hc.elim|conv=>whnf)|(refine Bo (An0 (v:=v) hv hk) (fun hr=>?_) (fun hr=>?_)<;>conv=>whnf)|(refine kB ?_))
 all_goals first|exact Bc (by assumption)|exact Am (by assumption)
theorem Agh {v:GV} (hv:v.ok):Af (Ad tab) 169 [v.av] (· =.bool (decide (Dz v))):=by
 by_cases hk:JX v
 ·have hk':=hk
  unfold JX at hk'
  refine Ac rfl rfl ?_
  (conv=>whnf);repeat' (first|(refine kA ?_;conv=>whnf)|(refine Br.mk (fun hc=>?_) fun hc=>?_<;>first|exact hc.elim|conv=>whnf)|(refine Bo (An1 (v:=v) hv hk) (fun hr=>?_) (fun hr=>?_)<;>conv=>whnf)|(refine kB ?_))
  all_goals first|exact Bc (by assumption)|exact Am (by assumption)|(exfalso;omega)
 ·have hk':=hk
  unfold JX at hk'
  refine Ac rfl rfl ?_
  (conv=>whnf);repeat' (first|(refine kA ?_;conv=>whnf)|(refine Br.mk (fun hc=>?_) fun hc=>?_<;>first|exact hc.elim|conv=>whnf)|(refine Aa (Valid (g:=v) hv) ?_;rintro _ ⟨b,rfl⟩;conv=>whnf)|(refine kB ?_))
  all_goals first|exact Am (fun h=>hk (Yb h))|(exfalso;omega)
theorem AqY {P:List GP} {nn:Bool} (hl:P.length<2^40):Af (Ad tab) 219 [.sl nn (vs GP.av P)] (fun v=>∃b,v=.sl b (vs .str (keysOf P))):=by
 refine Ac rfl rfl ?_
 (conv=>whnf);repeat' (first|(refine kA ?_;conv=>whnf)|(refine Br.mk (fun hc=>?_) fun hc=>?_<;>first|exact hc.elim|conv=>whnf)  |(refine kB ?_))
 refine Ae (fun m env s=>∃(i c go n:Nat) (b:Bool),m=P.length-i∧i≤P.length∧n=i∧env=[(0,.sl nn (vs GP.av P)),(3,.own 0 go 0 n),(4,.int .i64 i)]∧s=⟨[.arr go 1 b true (vs .str (keysOf (P.take i)))],c⟩) ?_ _ _ _ ⟨0,_,_,0,_,rfl,by omega,rfl,rfl,rfl⟩
 rintro _ _ _ ⟨i,c,go,n,b,rfl,hi,hn,rfl,rfl⟩
 refine⟨rfl,?_⟩
 (conv=>whnf);repeat' (first|(refine Dc (x:=(P[i]).key) (fun _=>rfl) (by simp;omega) (by simp;omega) ?_;conv=>whnf)|(refine kA ?_;conv=>whnf)|(refine Br.mk (fun hc=>?_) fun hc=>?_<;>first|exact hc.elim|conv=>whnf)|(refine kB ?_))
 ·exact again.mk ⟨_,by omega,i+1,_,_,_,_,rfl,by omega,by simp;omega,rfl,by rw[Ud (by omega)]⟩
 ·obtain rfl:i=P.length:=by omega
  refine⟨b,?_⟩
  rw[Ji,hn]
  simp
  rw[List.take_of_length_le (by simp)]
theorem Aga {L:List (List UInt8)} {P:List GP} {ln pn:Bool} (hL:L.length<2^63) (hs:∀s∈L,s.length<2^63) (hP:P.length<2^63) (hp:∀p∈P,p.ok):Af (Ad tab) 130 [.sl ln (vs .str L),.sl pn (vs GP.av P)] (· =.int .i64 (DC L P)):=by
 have hk:=Yi hp
 have hkl:(keysOf P).length<2^63:=by rw[Fe];exact hP
 refine Ac rfl rfl ?_
 (conv=>whnf);repeat' (first|(refine kA ?_;conv=>whnf)|(refine Br.mk (fun hc=>?_) fun hc=>?_<;>first|exact hc.elim|conv=>whnf)  |(refine kB ?_))
 ·exact OU (by omega)
 ·exact OU (by omega)
 have h16:¬(8<L.length∨16<P.length):=by omega
 refine Aa (AqY (P:=P) (by omega)) ?_
 rintro _ ⟨b,rfl⟩
 (conv=>whnf);repeat' (first|(refine Bo (Ahx hL hs) (fun h1=>?_) (fun h1=>?_)<;>conv=>whnf)|(refine Bo (Ahx hkl hk) (fun h2=>?_) (fun h2=>?_)<;>conv=>whnf)|(refine Bo (Ahz hL) (fun h3=>?_) (fun h3=>?_)<;>conv=>whnf)|(refine Bo (Ahz hkl) (fun h4=>?_) (fun h4=>?_)<;>conv=>whnf)|(refine kA ?_;conv=>whnf)|(refine Br.mk (fun hc=>?_) fun hc=>?_<;>first|exact hc.elim|conv=>whnf)|(refine kB ?_))
 all_goals first
  |exact OV h16 fun h=>h1 h.1
  |exact OV h16 fun h=>h2 h.2
  |exact LJ h16 ⟨h1,h2⟩ fun h=>h3 h.1
  |exact LJ h16 ⟨h1,h2⟩ fun h=>h4 h.2
  |skip
 refine Ae (fun m env s=>∃(i:Nat),m=P.length-i∧env=[(1,.sl pn (vs GP.av P)),(6,.int .i64 i)]∧s=⟨[],0⟩∧∀p∈P.take i,Dz p.v) ?_ _ _ _ ⟨0,rfl,rfl,rfl,by simp⟩
 rintro _ _ _ ⟨i,rfl,rfl,rfl,hx⟩
 refine⟨rfl,?_⟩
 (conv=>whnf);repeat' (first|(refine Bo (Agh (v:=(P[i]).v) (hp _ (List.getElem_mem (by omega))).2) (fun hr=>?_) (fun hr=>?_)<;>conv=>whnf)|(refine kA ?_;conv=>whnf)|(refine Br.mk (fun hc=>?_) fun hc=>?_<;>first|exact hc.elim|conv=>whnf)|(refine kB ?_))
 ·exact again.mk ⟨_,by omega,i+1,rfl,rfl,rfl,Bz (by omega) hx hr⟩
 ·exact UH h16 ⟨h1,h2⟩ ⟨h3,h4⟩ fun h=>hr (h _ (List.getElem_mem _))
 ·rw[CJ hc]at hx
  exact AdV h16 ⟨h1,h2⟩ ⟨h3,h4⟩ hx
end AI
end Go.Proofs.YtceiccjppfapjaaGreatDoor
