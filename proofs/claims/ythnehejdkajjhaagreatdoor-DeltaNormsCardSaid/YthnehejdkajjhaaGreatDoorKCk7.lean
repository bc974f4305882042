/- The reference's check of values that may be stored, of labels and properties. -/
import Derived.Test.YthnehejdkajjhaaGreatDoorKMah
import Derived.Test.YthnehejdkajjhaaGreatDoorKMag
import Derived.Test.YthnehejdkajjhaaGreatDoorKMaf
import Derived.Test.YthnehejdkajjhaaGreatDoorBMaa
set_option linter.unusedVariables false
set_option maxRecDepth 4000
namespace Go.Proofs.YthnehejdkajjhaaGreatDoor
namespace AI
theorem Aol {v:GV} (hv:v.ok) (hk:KC v) {n:Int}:Ag (Ac tab) 209 [v.av,.int .i64 n] (· =.bool (decide (DW v))):=by
 obtain⟨g1,g2,g3,g4,g5,g6,g7⟩:=hv
 unfold Ln at g4 g5
 unfold KC at hk
 refine Ad rfl rfl ?_
 (conv=>whnf);repeat' (first|refine kA ?_;conv=>whnf|(apply Br.mk<;>intro hc<;>first|exact hc.elim|conv=>whnf)|(refine Bo (Aa4 (v:=v) g5) (fun hb=>?_) (fun hb=>?_)<;>conv=>whnf)|(refine Bo (Arb (n:=v.n)) (fun hr=>?_) (fun hr=>?_)<;>conv=>whnf)|(refine Bo (Arc (s:=v.s) g4) (fun hr=>?_) (fun hr=>?_)<;>conv=>whnf)|refine kB ?_)
 all_goals unfold OD at hb
 all_goals simp only[Bool.false_eq_true,false_or,true_or,true_and]at hb
 all_goals first
  |exact Bh (Aom (by omega) hb.1 hb.2.2 hb.2.1 (by omega))
  |exact Bh (Aon (by omega) hb.1 hb.2.2 hb.2.1 hr)
  |exact Bh (Aoo (by omega) hb.2.1 hb.2.2 hb.1 hr)
  |exact Ar fun h=>hb ⟨h.1,Aop h (by omega),h.2.1⟩
  |exact Ar fun h=>hb ⟨(Ahm h (by omega)).1,h.1,h.2.1⟩
  |(refine Ar fun h=>?_;have:=Aoq h (by omega);omega)
  |exact Ar fun h=>hr (Aor h (by omega))
  |exact Ar fun h=>hr (Ahm h (by omega)).2
  |(exfalso;omega)
theorem Aos {v:GV} (hv:v.ok) (hk:KC v):Ag (Ac tab) 153 [v.av] (· =.bool (decide (DW v))):=by
 refine Ad rfl rfl ?_
 (conv=>whnf);repeat' (first|refine kA ?_;conv=>whnf|(apply Br.mk<;>intro hc<;>first|exact hc.elim|conv=>whnf)|(refine Bo (Aol (v:=v) hv hk) (fun hr=>?_) (fun hr=>?_)<;>conv=>whnf)|refine kB ?_)
 all_goals first|exact Bh (by assumption)|exact Ar (by assumption)
theorem AgD {v:GV} (hv:v.ok):Ag (Ac tab) 123 [v.av] (· =.bool (decide (DW v))):=by
 by_cases hk:KC v
 ·have hk':=hk
  unfold KC at hk'
  refine Ad rfl rfl ?_
  (conv=>whnf);repeat' (first|refine kA ?_;conv=>whnf|(apply Br.mk<;>intro hc<;>first|exact hc.elim|conv=>whnf)|(refine Bo (Aos (v:=v) hv hk) (fun hr=>?_) (fun hr=>?_)<;>conv=>whnf)|refine kB ?_)
  all_goals first|exact Bh (by assumption)|exact Ar (by assumption)|(exfalso;omega)
 ·have hk':=hk
  unfold KC at hk'
  refine Ad rfl rfl ?_
  (conv=>whnf);repeat' (first|refine kA ?_;conv=>whnf|(apply Br.mk<;>intro hc<;>first|exact hc.elim|conv=>whnf)|(refine Aa (Valid (g:=v) hv) ?_;rintro _ ⟨b,rfl⟩;conv=>whnf)|refine kB ?_)
  all_goals first|exact Ar (fun h=>hk (Yw h))|(exfalso;omega)
theorem Ark {P:List GP} {nn:Bool} (hl:P.length<2^40):Ag (Ac tab) 175 [.sl nn (vs GP.av P)] (fun v=>∃b,v=.sl b (vs .str (keysOf P))):=by
 refine Ad rfl rfl ?_
 (conv=>whnf);repeat' (first|refine kA ?_;conv=>whnf|(apply Br.mk<;>intro hc<;>first|exact hc.elim|conv=>whnf)  |refine kB ?_)
 refine Af (fun m env s=>∃(i c go n:Nat) (b:Bool),m=P.length-i∧i≤P.length∧n=i∧env=[(0,.sl nn (vs GP.av P)),(3,.own 0 go 0 n),(4,.int .i64 i)]∧s=⟨[.arr go 1 b true (vs .str (keysOf (P.take i)))],c⟩) ?_ _ _ _ ⟨0,_,_,0,_,rfl,by omega,rfl,rfl,rfl⟩
 rintro _ _ _ ⟨i,c,go,n,b,rfl,hi,hn,rfl,rfl⟩
 refine⟨rfl,?_⟩
 (conv=>whnf);repeat' (first|(refine Dt (x:=(P[i]).key) (fun _=>rfl) (by simp;omega) (by simp;omega) ?_;conv=>whnf)|refine kA ?_;conv=>whnf|(apply Br.mk<;>intro hc<;>first|exact hc.elim|conv=>whnf)|refine kB ?_)
 ·exact again.mk ⟨_,by omega,i+1,_,_,_,_,rfl,by omega,by simp;omega,rfl,by rw[Uw (by omega)]⟩
 ·obtain rfl:i=P.length:=by omega
  refine⟨b,?_⟩
  rw[Ik,hn]
  simp
  rw[List.take_of_length_le (by simp)]
theorem Ahn {L:List (List UInt8)} {P:List GP} {ln pn:Bool} (hL:L.length<2^63) (hs:∀s∈L,s.length<2^63) (hP:P.length<2^63) (hp:∀p∈P,p.ok):Ag (Ac tab) 95 [.sl ln (vs .str L),.sl pn (vs GP.av P)] (· =.int .i64 (DV L P)):=by
 have hk:=Yx hp
 have hkl:(keysOf P).length<2^63:=by rw[Df];exact hP
 refine Ad rfl rfl ?_
 (conv=>whnf);repeat' (first|refine kA ?_;conv=>whnf|(apply Br.mk<;>intro hc<;>first|exact hc.elim|conv=>whnf)  |refine kB ?_)
 ·exact PD (by omega)
 ·exact PD (by omega)
 have h16:¬(8<L.length∨16<P.length):=by omega
 refine Aa (Ark (P:=P) (by omega)) ?_
 rintro _ ⟨b,rfl⟩
 (conv=>whnf);repeat' (first|(refine Bo (Aho hL hs) (fun h1=>?_) (fun h1=>?_)<;>conv=>whnf)|(refine Bo (Aho hkl hk) (fun h2=>?_) (fun h2=>?_)<;>conv=>whnf)|(refine Bo (Ahp hL) (fun h3=>?_) (fun h3=>?_)<;>conv=>whnf)|(refine Bo (Ahp hkl) (fun h4=>?_) (fun h4=>?_)<;>conv=>whnf)|refine kA ?_;conv=>whnf|(apply Br.mk<;>intro hc<;>first|exact hc.elim|conv=>whnf)|refine kB ?_)
 all_goals first
  |exact PE h16 fun h=>h1 h.1
  |exact PE h16 fun h=>h2 h.2
  |exact Md h16 ⟨h1,h2⟩ fun h=>h3 h.1
  |exact Md h16 ⟨h1,h2⟩ fun h=>h4 h.2
  |skip
 refine Af (fun m env s=>∃(i:Nat),m=P.length-i∧env=[(1,.sl pn (vs GP.av P)),(6,.int .i64 i)]∧s=⟨[],0⟩∧∀p∈P.take i,DW p.v) ?_ _ _ _ ⟨0,rfl,rfl,rfl,by simp⟩
 rintro _ _ _ ⟨i,rfl,rfl,rfl,hx⟩
 refine⟨rfl,?_⟩
 (conv=>whnf);repeat' (first|(refine Bo (AgD (v:=(P[i]).v) (hp _ (List.getElem_mem (by omega))).2) (fun hr=>?_) (fun hr=>?_)<;>conv=>whnf)|refine kA ?_;conv=>whnf|(apply Br.mk<;>intro hc<;>first|exact hc.elim|conv=>whnf)|refine kB ?_)
 ·exact again.mk ⟨_,by omega,i+1,rfl,rfl,rfl,Cb (by omega) hx hr⟩
 ·exact Vh h16 ⟨h1,h2⟩ ⟨h3,h4⟩ fun h=>hr (h _ (List.getElem_mem _))
 ·rw[CQ hc]at hx
  exact Ad3 h16 ⟨h1,h2⟩ ⟨h3,h4⟩ hx
end AI
end Go.Proofs.YthnehejdkajjhaaGreatDoor
