/- The reference's check of values that may be stored, of labels and properties. -/
import Derived.Test.YthjeehjphekjmaaGreatDoorSMak
import Derived.Test.YthjeehjphekjmaaGreatDoorSMaj
import Derived.Test.YthjeehjphekjmaaGreatDoorBMaa
set_option linter.unusedVariables false
set_option maxRecDepth 4000
namespace Go.Proofs.YthjeehjphekjmaaGreatDoor
namespace AI
theorem Ac1 {v:GV} (hv:v.ok) (hk:KI v) {n:Int}:Au (Ac tab) 87 [v.av,.int .i64 n] (· =.bool (decide (Gs v))):=by
 obtain⟨g1,g2,g3,g4,g5,g6,g7⟩:=hv
 unfold Ln at g4 g5
 unfold KI at hk
 refine Af rfl rfl ?_
 (conv=>whnf);repeat' (first|(refine kA ?_;conv=>whnf)|(refine Br.mk (fun hc=>?_) fun hc=>?_<;>first|exact hc.elim|conv=>whnf)|(refine EJ (AdR (v:=v) g5) (fun hb=>?_) (fun hb=>?_)<;>conv=>whnf)|(refine EJ (Agw (n:=v.n)) (fun hr=>?_) (fun hr=>?_)<;>conv=>whnf)|(refine EJ (AfT (s:=v.s) g4) (fun hr=>?_) (fun hr=>?_)<;>conv=>whnf)|(refine kB ?_))
 all_goals unfold QI at hb
 all_goals simp only[Bool.false_eq_true,false_or,true_or,true_and]at hb
 all_goals first
  |exact Dk (Ac2 (by omega) hb.1 hb.2.2 hb.2.1 (by omega))
  |exact Dk (Ac3 (by omega) hb.1 hb.2.2 hb.2.1 hr)
  |exact Dk (Ac4 (by omega) hb.2.1 hb.2.2 hb.1 hr)
  |exact BU fun h=>hb ⟨h.1,Ac5 h (by omega),h.2.1⟩
  |exact BU fun h=>hb ⟨(Zt h (by omega)).1,h.1,h.2.1⟩
  |(refine BU fun h=>?_;have:=Ac6 h (by omega);omega)
  |exact BU fun h=>hr (Ac7 h (by omega))
  |exact BU fun h=>hr (Zt h (by omega)).2
  |(exfalso;omega)
theorem Ac8 {v:GV} (hv:v.ok) (hk:KI v):Au (Ac tab) 56 [v.av] (· =.bool (decide (Gs v))):=by
 refine Af rfl rfl ?_
 (conv=>whnf);repeat' (first|(refine kA ?_;conv=>whnf)|(refine Br.mk (fun hc=>?_) fun hc=>?_<;>first|exact hc.elim|conv=>whnf)|(refine EJ (Ac1 (v:=v) hv hk) (fun hr=>?_) (fun hr=>?_)<;>conv=>whnf)|(refine kB ?_))
 all_goals first|exact Dk (by assumption)|exact BU (by assumption)
theorem Ac9 {v:GV} (hv:v.ok):Au (Ac tab) 130 [v.av] (· =.bool (decide (Gs v))):=by
 by_cases hk:KI v
 ·have hk':=hk
  unfold KI at hk'
  refine Af rfl rfl ?_
  (conv=>whnf);repeat' (first|(refine kA ?_;conv=>whnf)|(refine Br.mk (fun hc=>?_) fun hc=>?_<;>first|exact hc.elim|conv=>whnf)|(refine EJ (Ac8 (v:=v) hv hk) (fun hr=>?_) (fun hr=>?_)<;>conv=>whnf)|(refine kB ?_))
  all_goals first|exact Dk (by assumption)|exact BU (by assumption)|(exfalso;omega)
 ·have hk':=hk
  unfold KI at hk'
  refine Af rfl rfl ?_
  (conv=>whnf);repeat' (first|(refine kA ?_;conv=>whnf)|(refine Br.mk (fun hc=>?_) fun hc=>?_<;>first|exact hc.elim|conv=>whnf)|(refine Aa (Valid (g:=v) hv) ?_;rintro _ ⟨b,rfl⟩;conv=>whnf)|(refine kB ?_))
  all_goals first|exact BU (fun h=>hk (XG h))|(exfalso;omega)
theorem AeZ {P:List GP} {nn:Bool} (hl:P.length<2^40):Au (Ac tab) 127 [.sl nn (vs GP.av P)] (fun v=>∃b,v=.sl b (vs .str (keysOf P))):=by
 refine Af rfl rfl ?_
 (conv=>whnf);repeat' (first|(refine kA ?_;conv=>whnf)|(refine Br.mk (fun hc=>?_) fun hc=>?_<;>first|exact hc.elim|conv=>whnf)  |(refine kB ?_))
 refine Ae (fun m env s=>∃(i c go n:Nat) (b:Bool),m=P.length-i∧i≤P.length∧n=i∧env=[(0,.sl nn (vs GP.av P)),(3,.own 0 go 0 n),(4,.int .i64 i)]∧s=⟨[.arr go 1 b true (vs .str (keysOf (P.take i)))],c⟩) ?_ _ _ _ ⟨0,_,_,0,_,rfl,by omega,rfl,rfl,rfl⟩
 rintro _ _ _ ⟨i,c,go,n,b,rfl,hi,hn,rfl,rfl⟩
 refine⟨rfl,?_⟩
 (conv=>whnf);repeat' (first|(refine Kz (x:=(P[i]).key) (fun _=>rfl) (by simp;omega) (by simp;omega) ?_;conv=>whnf)|(refine kA ?_;conv=>whnf)|(refine Br.mk (fun hc=>?_) fun hc=>?_<;>first|exact hc.elim|conv=>whnf)|(refine kB ?_))
 ·exact again.mk ⟨_,by omega,i+1,_,_,_,_,rfl,by omega,by simp;omega,rfl,by rw[UJ (by omega)]⟩
 ·obtain rfl:i=P.length:=by omega
  refine⟨b,?_⟩
  rw[Vz,hn]
  simp
  rw[List.take_of_length_le (by simp)]
theorem Zu {L:List (List UInt8)} {P:List GP} {ln pn:Bool} (hL:L.length<2^63) (hs:∀s∈L,s.length<2^63) (hP:P.length<2^63) (hp:∀p∈P,p.ok):Au (Ac tab) 84 [.sl ln (vs .str L),.sl pn (vs GP.av P)] (· =.int .i64 (Ei L P)):=by
 have hk:=XH hp
 have hkl:(keysOf P).length<2^63:=by rw[VL];exact hP
 refine Af rfl rfl ?_
 (conv=>whnf);repeat' (first|(refine kA ?_;conv=>whnf)|(refine Br.mk (fun hc=>?_) fun hc=>?_<;>first|exact hc.elim|conv=>whnf)  |(refine kB ?_))
 ·exact Xd (by omega)
 ·exact Xd (by omega)
 have h16:¬(8<L.length∨16<P.length):=by omega
 refine Aa (AeZ (P:=P) (by omega)) ?_
 rintro _ ⟨b,rfl⟩
 (conv=>whnf);repeat' (first|(refine EJ (Zv hL hs) (fun h1=>?_) (fun h1=>?_)<;>conv=>whnf)|(refine EJ (Zv hkl hk) (fun h2=>?_) (fun h2=>?_)<;>conv=>whnf)|(refine EJ (Zw hL) (fun h3=>?_) (fun h3=>?_)<;>conv=>whnf)|(refine EJ (Zw hkl) (fun h4=>?_) (fun h4=>?_)<;>conv=>whnf)|(refine kA ?_;conv=>whnf)|(refine Br.mk (fun hc=>?_) fun hc=>?_<;>first|exact hc.elim|conv=>whnf)|(refine kB ?_))
 all_goals first
  |exact Xe h16 fun h=>h1 h.1
  |exact Xe h16 fun h=>h2 h.2
  |exact UK h16 ⟨h1,h2⟩ fun h=>h3 h.1
  |exact UK h16 ⟨h1,h2⟩ fun h=>h4 h.2
  |skip
 refine Ae (fun m env s=>∃(i:Nat),m=P.length-i∧env=[(1,.sl pn (vs GP.av P)),(6,.int .i64 i)]∧s=⟨[],0⟩∧∀p∈P.take i,Gs p.v) ?_ _ _ _ ⟨0,rfl,rfl,rfl,by simp⟩
 rintro _ _ _ ⟨i,rfl,rfl,rfl,hx⟩
 refine⟨rfl,?_⟩
 (conv=>whnf);repeat' (first|(refine EJ (Ac9 (v:=(P[i]).v) (hp _ (List.getElem_mem (by omega))).2) (fun hr=>?_) (fun hr=>?_)<;>conv=>whnf)|(refine kA ?_;conv=>whnf)|(refine Br.mk (fun hc=>?_) fun hc=>?_<;>first|exact hc.elim|conv=>whnf)|(refine kB ?_))
 ·exact again.mk ⟨_,by omega,i+1,rfl,rfl,rfl,FZ (by omega) hx hr⟩
 ·exact AaV h16 ⟨h1,h2⟩ ⟨h3,h4⟩ fun h=>hr (h _ (List.getElem_mem _))
 ·rw[Ik hc]at hx
  exact AaW h16 ⟨h1,h2⟩ ⟨h3,h4⟩ hx
end AI
end Go.Proofs.YthjeehjphekjmaaGreatDoor
