/- The reference's check of values that may be stored, of labels and properties. -/
import Derived.Test.YtceiccjppfapjaaGreatDoorXMaj
import Derived.Test.YtceiccjppfapjaaGreatDoorXMae
import Derived.Test.YtceiccjppfapjaaGreatDoorXMaa
set_option linter.unusedVariables false
set_option maxRecDepth 4000
namespace Go.Proofs.YtceiccjppfapjaaGreatDoor
namespace AI
theorem Ag5 {v:GV} (hv:v.ok) (hk:Iu v) {n:Int}:Ae (Ad tab) 259 [v.av,.int .i64 n] (· =.bool (decide (D5 v))):=by
 obtain⟨g1,g2,g3,g4,g5,g6,g7⟩:=hv
 unfold Ln at g4 g5
 unfold Iu at hk
 refine Ac rfl rfl ?_
 (conv=>whnf);repeat' (first|(refine kA ?_;conv=>whnf)|(refine Br.mk (fun hc=>?_) fun hc=>?_<;>first|exact hc.elim|conv=>whnf)|(refine Bj (V9 (v:=v) g5) (fun hb=>?_) (fun hb=>?_)<;>conv=>whnf)|(refine Bj (AiL (n:=v.n)) (fun hr=>?_) (fun hr=>?_)<;>conv=>whnf)|(refine Bj (Aio (s:=v.s) g4) (fun hr=>?_) (fun hr=>?_)<;>conv=>whnf)|(refine kB ?_))
 all_goals unfold KL at hb
 all_goals simp only[Bool.false_eq_true,false_or,true_or,true_and]at hb
 all_goals first
  |exact Bf (Ag6 (by omega) hb.1 hb.2.2 hb.2.1 (by omega))
  |exact Bf (Ag7 (by omega) hb.1 hb.2.2 hb.2.1 hr)
  |exact Bf (Ag8 (by omega) hb.2.1 hb.2.2 hb.1 hr)
  |exact Aw fun h=>hb ⟨h.1,Ag9 h (by omega),h.2.1⟩
  |exact Aw fun h=>hb ⟨(AcV h (by omega)).1,h.1,h.2.1⟩
  |(refine Aw fun h=>?_;have:=Aha h (by omega);omega)
  |exact Aw fun h=>hr (Ahb h (by omega))
  |exact Aw fun h=>hr (AcV h (by omega)).2
  |(exfalso;omega)
theorem Ahc {v:GV} (hv:v.ok) (hk:Iu v):Ae (Ad tab) 196 [v.av] (· =.bool (decide (D5 v))):=by
 refine Ac rfl rfl ?_
 (conv=>whnf);repeat' (first|(refine kA ?_;conv=>whnf)|(refine Br.mk (fun hc=>?_) fun hc=>?_<;>first|exact hc.elim|conv=>whnf)|(refine Bj (Ag5 (v:=v) hv hk) (fun hr=>?_) (fun hr=>?_)<;>conv=>whnf)|(refine kB ?_))
 all_goals first|exact Bf (by assumption)|exact Aw (by assumption)
theorem AcW {v:GV} (hv:v.ok):Ae (Ad tab) 169 [v.av] (· =.bool (decide (D5 v))):=by
 by_cases hk:Iu v
 ·have hk':=hk
  unfold Iu at hk'
  refine Ac rfl rfl ?_
  (conv=>whnf);repeat' (first|(refine kA ?_;conv=>whnf)|(refine Br.mk (fun hc=>?_) fun hc=>?_<;>first|exact hc.elim|conv=>whnf)|(refine Bj (Ahc (v:=v) hv hk) (fun hr=>?_) (fun hr=>?_)<;>conv=>whnf)|(refine kB ?_))
  all_goals first|exact Bf (by assumption)|exact Aw (by assumption)|(exfalso;omega)
 ·have hk':=hk
  unfold Iu at hk'
  refine Ac rfl rfl ?_
  (conv=>whnf);repeat' (first|(refine kA ?_;conv=>whnf)|(refine Br.mk (fun hc=>?_) fun hc=>?_<;>first|exact hc.elim|conv=>whnf)|(refine Aa (Valid (g:=v) hv) ?_;rintro _ ⟨b,rfl⟩;conv=>whnf)|(refine kB ?_))
  all_goals first|exact Aw (fun h=>hk (TS h))|(exfalso;omega)
theorem Ai2 {P:List GP} {nn:Bool} (hl:P.length<2^40):Ae (Ad tab) 219 [.sl nn (vs GP.av P)] (fun v=>∃b,v=.sl b (vs .str (keysOf P))):=by
 refine Ac rfl rfl ?_
 (conv=>whnf);repeat' (first|(refine kA ?_;conv=>whnf)|(refine Br.mk (fun hc=>?_) fun hc=>?_<;>first|exact hc.elim|conv=>whnf)  |(refine kB ?_))
 refine Ag (fun m env s=>∃(i c go n:Nat) (b:Bool),m=P.length-i∧i≤P.length∧n=i∧env=[(0,.sl nn (vs GP.av P)),(3,.own 0 go 0 n),(4,.int .i64 i)]∧s=⟨[.arr go 1 b true (vs .str (keysOf (P.take i)))],c⟩) ?_ _ _ _ ⟨0,_,_,0,_,rfl,by omega,rfl,rfl,rfl⟩
 rintro _ _ _ ⟨i,c,go,n,b,rfl,hi,hn,rfl,rfl⟩
 refine⟨rfl,?_⟩
 (conv=>whnf);repeat' (first|(refine Ih (x:=(P[i]).key) (fun _=>rfl) (by simp;omega) (by simp;omega) ?_;conv=>whnf)|(refine kA ?_;conv=>whnf)|(refine Br.mk (fun hc=>?_) fun hc=>?_<;>first|exact hc.elim|conv=>whnf)|(refine kB ?_))
 ·exact again.mk ⟨_,by omega,i+1,_,_,_,_,rfl,by omega,by simp;omega,rfl,by rw[PD (by omega)]⟩
 ·obtain rfl:i=P.length:=by omega
  refine⟨b,?_⟩
  rw[QI,hn]
  simp
  rw[List.take_of_length_le (by simp)]
theorem Abn {L:List (List UInt8)} {P:List GP} {ln pn:Bool} (hL:L.length<2^63) (hs:∀s∈L,s.length<2^63) (hP:P.length<2^63) (hp:∀p∈P,p.ok):Ae (Ad tab) 130 [.sl ln (vs .str L),.sl pn (vs GP.av P)] (· =.int .i64 (Dy L P)):=by
 have hk:=TF hp
 have hkl:(keysOf P).length<2^63:=by rw[MZ];exact hP
 refine Ac rfl rfl ?_
 (conv=>whnf);repeat' (first|(refine kA ?_;conv=>whnf)|(refine Br.mk (fun hc=>?_) fun hc=>?_<;>first|exact hc.elim|conv=>whnf)  |(refine kB ?_))
 ·exact Oi (by omega)
 ·exact Oi (by omega)
 have h16:¬(8<L.length∨16<P.length):=by omega
 refine Aa (Ai2 (P:=P) (by omega)) ?_
 rintro _ ⟨b,rfl⟩
 (conv=>whnf);repeat' (first|(refine Bj (Abz hL hs) (fun h1=>?_) (fun h1=>?_)<;>conv=>whnf)|(refine Bj (Abz hkl hk) (fun h2=>?_) (fun h2=>?_)<;>conv=>whnf)|(refine Bj (AbB hL) (fun h3=>?_) (fun h3=>?_)<;>conv=>whnf)|(refine Bj (AbB hkl) (fun h4=>?_) (fun h4=>?_)<;>conv=>whnf)|(refine kA ?_;conv=>whnf)|(refine Br.mk (fun hc=>?_) fun hc=>?_<;>first|exact hc.elim|conv=>whnf)|(refine kB ?_))
 all_goals first
  |exact Oj h16 fun h=>h1 h.1
  |exact Oj h16 fun h=>h2 h.2
  |exact KU h16 ⟨h1,h2⟩ fun h=>h3 h.1
  |exact KU h16 ⟨h1,h2⟩ fun h=>h4 h.2
  |skip
 refine Ag (fun m env s=>∃(i:Nat),m=P.length-i∧env=[(1,.sl pn (vs GP.av P)),(6,.int .i64 i)]∧s=⟨[],0⟩∧∀p∈P.take i,D5 p.v) ?_ _ _ _ ⟨0,rfl,rfl,rfl,by simp⟩
 rintro _ _ _ ⟨i,rfl,rfl,rfl,hx⟩
 refine⟨rfl,?_⟩
 (conv=>whnf);repeat' (first|(refine Bj (AcW (v:=(P[i]).v) (hp _ (List.getElem_mem (by omega))).2) (fun hr=>?_) (fun hr=>?_)<;>conv=>whnf)|(refine kA ?_;conv=>whnf)|(refine Br.mk (fun hc=>?_) fun hc=>?_<;>first|exact hc.elim|conv=>whnf)|(refine kB ?_))
 ·exact again.mk ⟨_,by omega,i+1,rfl,rfl,rfl,Dl (by omega) hx hr⟩
 ·exact UU h16 ⟨h1,h2⟩ ⟨h3,h4⟩ fun h=>hr (h _ (List.getElem_mem _))
 ·rw[EK hc]at hx
  exact Zb h16 ⟨h1,h2⟩ ⟨h3,h4⟩ hx
end AI
end Go.Proofs.YtceiccjppfapjaaGreatDoor
