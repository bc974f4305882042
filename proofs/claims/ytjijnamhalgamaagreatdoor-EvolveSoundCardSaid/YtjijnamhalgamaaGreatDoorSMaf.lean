/- value.Plain and the reference's Plain: which values may be stored. Names in a list, increasing strings, labels and properties. What is wrong with labels and properties. Looking for a node among increasing ids. graph.Check: the first error of a graph. What a change leaves alone: plain. Changes as arguments. The properties of a node of a valid graph; what a migration changes at a node. Valid values, and values that are alike: plain. Valid fractions: the program's. The reference's validity of values: it answers. -/
import Derived.Test.YtjijnamhalgamaaGreatDoorSMad
import Derived.Test.YtjijnamhalgamaaGreatDoorSMab
import Derived.Test.YtjijnamhalgamaaGreatDoorSMae
set_option linter.unusedVariables false
set_option maxRecDepth 4000
namespace Go.Proofs.YtjijnamhalgamaaGreatDoor
namespace AI
theorem Aco {AP:Nat→Option Ir} {f:Nat} {sp:List AV→Am→Option (AB×Am)} {args:List AV} {R:AV→Prop} {v v':AV} {s:Am} (hf:AP f=some (.ext sp)) (h:sp args ⟨[],0⟩=some (.ok v,s)) (hs:snap s.σ EK v=some v') (hR:R v'):Ae AP f args R:=
 ⟨v',⟨1,by simp only[EI,run,hf,h];exact hs⟩,hR⟩
theorem ixP {l:List UInt8}:Ae (Ad tab) 270 [.str l,.fn 271 []] (· =.int .i64 (J6 l)):=
 Aco rfl rfl rfl rfl
theorem I5 {l:List UInt8}:J6 l<0↔∀c∈l,OW c=false:=by
 unfold J6
 cases h:List.findIdx? OW l with
 |none=>
  refine⟨fun _ c hc=>?_,fun _=>by decide⟩
  have:=List.findIdx?_eq_none_iff.1 h c hc
  simpa using this
 |some i=>
  refine⟨fun h=>?_,fun ha=>?_⟩
  ·simp at h;omega
  ·obtain⟨h1,h2,_⟩:=List.findIdx?_eq_some_iff_getElem.1 h
   rw[ha _ (List.getElem_mem h1)]at h2
   cases h2
def Ol (n:Int):Prop:=-1000000000000000≤n∧n≤1000000000000000
instance (n:Int):Decidable (Ol n):=by unfold Ol;infer_instance
theorem inP {n:Int}:Ae (Ad tab) 268 [.int .i64 n] (· =.bool (decide (Ol n))):=by
 refine Ac rfl rfl ?_
 (conv=>whnf);repeat' (first|((first|refine kA ?_|(apply Br.mk<;>intro hc))<;>first|exact hc.elim|conv=>whnf)|refine kB ?_)
 all_goals first|exact Bd (by unfold Ol;omega)|exact Au (by unfold Ol;omega)
theorem Al2 {n:Int}:Ae (Ad tab) 226 [.int .i64 n] (· =.bool (decide (Ol n))):=by
 refine Ac rfl rfl ?_
 (conv=>whnf);repeat' (first|((first|refine kA ?_|(apply Br.mk<;>intro hc))<;>first|exact hc.elim|conv=>whnf)|refine kB ?_)
 all_goals first|exact Bd (by unfold Ol;omega)|exact Au (by unfold Ol;omega)
def okS (s:List UInt8):Prop:=s.length≤100∧∀c∈s,OW c=false
instance (s:List UInt8):Decidable (okS s):=by unfold okS;infer_instance
def Dx (v:GV):Prop:=v.d=0∧v.l.length=0∧(v.k=1∧v.s=[]∧(v.n=0∨v.n=1)∨v.k=2∧v.s=[]∧Ol v.n∨v.k=4∧v.n=0∧okS v.s)
instance (v:GV):Decidable (Dx v):=by unfold Dx;infer_instance
def IG (v:GV):Prop:=v.k=1∨v.k=2∨v.k=4
instance (v:GV):Decidable (IG v):=by unfold IG;infer_instance
theorem QD {v:GV} (h:Dx v):IG v:=by unfold Dx at h;unfold IG;omega
theorem AkB {v:GV} (h:v.k=1) (h1:v.d=0) (h2:v.l.length=0) (h3:v.s=[]) (h4:v.n=0∨v.n=1):Dx v:=⟨h1,h2,.inl ⟨h,h3,h4⟩⟩
theorem AkC {v:GV} (h:v.k=2) (h1:v.d=0) (h2:v.l.length=0) (h3:v.s=[]) (h4:Ol v.n):Dx v:=⟨h1,h2,.inr (.inl ⟨h,h3,h4⟩)⟩
theorem AkD {v:GV} (h:v.k=4) (h1:v.d=0) (h2:v.l.length=0) (h3:v.n=0) (h4:okS v.s):Dx v:=⟨h1,h2,.inr (.inr ⟨h,h3,h4⟩)⟩
theorem AcR {v:GV} (h:Dx v) (hk:v.k≠4):v.s=[]:=by
 obtain⟨_,_,h⟩:=h
 rcases h with h|h|h
 ·exact h.2.1
 ·exact h.2.1
 ·exact absurd h.1 hk
theorem AkE {v:GV} (h:Dx v) (hk:v.k=1):v.n=0∨v.n=1:=by
 obtain⟨_,_,h⟩:=h;omega
theorem AkF {v:GV} (h:Dx v) (hk:v.k=2):Ol v.n:=by
 obtain⟨_,_,h⟩:=h
 rcases h with h|h|h<;>first|exact h.2.2|omega
theorem YT {v:GV} (h:Dx v) (hk:v.k=4):v.n=0∧okS v.s:=by
 obtain⟨_,_,h⟩:=h
 rcases h with h|h|h<;>first|exact h.2|omega
theorem vld {v:GV} (hv:v.ok) (hk:IG v) {n:Int}:Ae (Ad tab) 234 [v.av,.int .i64 n] (· =.bool (decide (Dx v))):=by
 obtain⟨g1,g2,g3,g4,g5,g6,g7⟩:=hv
 unfold Ln at g4 g5
 unfold IG at hk
 refine Ac rfl rfl ?_
 (conv=>whnf);repeat' (first|((first|refine kA ?_|(apply Br.mk<;>intro hc)|refine Aq (inP (n:=v.n)) (fun hr=>?_) (fun hr=>?_)|refine kE (ixP (l:=v.s)) ?_)<;>first|exact hc.elim|conv=>whnf)|refine kB ?_)
 all_goals first
  |exact Au (fun h=>by have:=h.2.1;omega)
  |(refine Bd ?_;clear g7 g6;unfold Dx okS;rw[← I5];first|(simp_all;done)|(simp_all;omega))
  |(refine Au ?_;clear g7 g6;unfold Dx okS;rw[← I5];first|(simp_all;done)|(simp_all;omega))
theorem Apo {v:GV} (hv:v.ok) (hk:IG v):Ae (Ad tab) 162 [v.av] (· =.bool (decide (Dx v))):=by
 refine Ac rfl rfl ?_
 (conv=>whnf);repeat' (first|((first|refine kA ?_|(apply Br.mk<;>intro hc)|refine Aq (vld (v:=v) hv hk) (fun hr=>?_) (fun hr=>?_))<;>first|exact hc.elim|conv=>whnf)|refine kB ?_)
 all_goals first|exact Bd (by assumption)|exact Au (by assumption)
theorem KH {v:GV} (hv:v.ok):Ae (Ad tab) 101 [v.av] (· =.bool (decide (Dx v))):=by
 refine Ac rfl rfl ?_
 (conv=>whnf);repeat' (first|((first|refine kA ?_|(apply Br.mk<;>intro hc)|refine Aq (Apo (v:=v) hv (by unfold IG;omega)) (fun hr=>?_) (fun hr=>?_))<;>first|exact hc.elim|conv=>whnf)|refine kB ?_)
 all_goals first|exact Bd (by assumption)|exact Au (by assumption)|exact Au fun h=>absurd (QD h) (by unfold IG;omega)
def allNames (l:List (List UInt8)):Prop:=∀s∈l,isName s
noncomputable instance (l:List (List UInt8)):Decidable (allNames l):=Classical.propDecidable _
def rises (l:List (List UInt8)):Prop:=∀j (h:j+1<l.length),(Op.bytesLess l[j+1] l[j]||l[j+1]==l[j])=false
noncomputable instance (l:List (List UInt8)):Decidable (rises l):=Classical.propDecidable _
theorem unn {s:List UInt8} (hl:s.length<2^63):Ae (Ad tab) 169 [.str s] (· =.bool (decide (¬ isName s))):=by
 refine Ac rfl rfl ?_
 (conv=>whnf);repeat' (first|((first|refine kA ?_|(apply Br.mk<;>intro hc)|refine Aq (name1 hl) (fun hr=>?_) (fun hr=>?_))<;>first|exact hc.elim|conv=>whnf)|refine kB ?_)
 ·exact Au (fun h=>h hr)
 ·exact Bd hr
theorem AlR {l:List (List UInt8)} {nn:Bool} (hl:l.length<2^63) (hs:∀s∈l,s.length<2^63):Ae (Ad tab) 238 [.sl nn (vs .str l),.fn 169 []] (fun v=>∃z,v=.int .i64 z∧(0≤z↔¬allNames l)):=by
 refine Ac rfl rfl ?_
 (conv=>whnf);repeat' (first|((first|refine kA ?_|(apply Br.mk<;>intro hc))<;>first|exact hc.elim|conv=>whnf)|refine kB ?_)
 refine Ag (fun m env s=>∃i:Nat,m=l.length-i∧env=[(0,.sl nn (vs .str l)),(1,.fn 169 []),(7,.int .i64 l.length),(8,.int .i64 i)]∧s=⟨[],0⟩∧∀s∈l.take i,isName s) ?_ _ _ _ ⟨0,rfl,by simp,rfl,by simp⟩
 rintro _ _ _ ⟨i,rfl,rfl,rfl,hx⟩
 refine⟨rfl,?_⟩
 (conv=>whnf);repeat' (first|((first|refine kA ?_|(apply Br.mk<;>intro hc)|refine Aq (unn (hs _ (List.getElem_mem (by omega)))) (fun hr=>?_) (fun hr=>?_))<;>first|exact hc.elim|conv=>whnf)|refine kB ?_)
 ·exact⟨_,rfl,fun _ h=>hr (h _ (List.getElem_mem _)),fun _=>by omega⟩
 ·exact again.mk ⟨_,by omega,i+1,rfl,rfl,rfl,Bl (by omega) hx (Decidable.of_not_not hr)⟩
 ·rw[BN hc]at hx;exact⟨_,rfl,fun h=>absurd h (by omega),fun h=>absurd hx h⟩
theorem AcY {l:List (List UInt8)} {nn:Bool} (hl:l.length<2^63) (hs:∀s∈l,s.length<2^63):Ae (Ad tab) 168 [.sl nn (vs .str l),.fn 169 []] (· =.bool (decide (¬ allNames l))):=by
 refine Ac rfl rfl ?_
 (conv=>whnf);repeat' (first|((first|refine kA ?_|(apply Br.mk<;>intro hc))<;>first|exact hc.elim|conv=>whnf)|refine kB ?_)
 refine Aa (AlR hl hs) ?_
 rintro _ ⟨z,rfl,hz⟩
 (conv=>whnf);repeat' (first|((first|refine kA ?_|(apply Br.mk<;>intro hc))<;>first|exact hc.elim|conv=>whnf)|refine kB ?_)
 ·exact Bd (hz.1 hc)
 ·exact Au (mt hz.2 hc)
theorem AcZ {l:List (List UInt8)} {nn:Bool} (hl:l.length<2^63) (hs:∀s∈l,s.length<2^63):Ae (Ad tab) 148 [.sl nn (vs .str l)] (· =.bool (decide (allNames l))):=by
 refine Ac rfl rfl ?_
 (conv=>whnf);repeat' (first|((first|refine kA ?_|(apply Br.mk<;>intro hc))<;>first|exact hc.elim|conv=>whnf)|refine kB ?_)
 refine Ag (fun m env s=>∃i:Nat,m=l.length-i∧env=[(0,.sl nn (vs .str l)),(3,.int .i64 i)]∧s=⟨[],0⟩∧∀s∈l.take i,isName s) ?_ _ _ _ ⟨0,rfl,rfl,rfl,by simp⟩
 rintro _ _ _ ⟨i,rfl,rfl,rfl,hx⟩
 refine⟨rfl,?_⟩
 (conv=>whnf);repeat' (first|((first|refine kA ?_|(apply Br.mk<;>intro hc)|refine Aq (name2 (hs _ (List.getElem_mem (by omega)))) (fun hr=>?_) (fun hr=>?_))<;>first|exact hc.elim|conv=>whnf)|refine kB ?_)
 ·exact again.mk ⟨_,by omega,i+1,rfl,rfl,rfl,Bl (by omega) hx hr⟩
 ·exact Au fun h=>hr (h _ (List.getElem_mem _))
 ·rw[BN hc]at hx;exact Bd hx
theorem Ac0 {l:List (List UInt8)} {nn:Bool} (hl:l.length<2^63):Ae (Ad tab) 170 [.sl nn (vs .str l)] (· =.bool (decide (rises l))):=by
 refine Ac rfl rfl ?_
 (conv=>whnf);repeat' (first|((first|refine kA ?_|(apply Br.mk<;>intro hc))<;>first|exact hc.elim|conv=>whnf)|refine kB ?_)
 refine Ag (fun m env s=>∃i:Nat,m=l.length-i∧env=[(0,.sl nn (vs .str l)),(3,.int .i64 (i+1:Nat))]∧s=⟨[],0⟩∧∀j (h:j+1<l.length),j<i→(Op.bytesLess l[j+1] l[j]||l[j+1]==l[j])=false) ?_ _ _ _ ⟨0,rfl,rfl,rfl,fun j _ h=>absurd h (by omega)⟩
 rintro _ _ _ ⟨i,rfl,rfl,rfl,hx⟩
 refine⟨rfl,?_⟩
 (conv=>whnf);repeat' (first|((first|refine kA ?_|(apply Br.mk<;>intro hc)|(apply Af;(· exact nVz i (by omega) (by omega))))<;>first|exact hc.elim|conv=>whnf)|refine kB ?_)
 ·exact Au fun h=>by simp only[show (((i+1:Nat):Int)-1).toNat=i by omega]at hc;rw[h i (by omega)]at hc;cases hc
 ·simp only[show (((i+1:Nat):Int)-1).toNat=i by omega]at hc
  exact again.mk ⟨_,by omega,i+1,rfl,rfl,rfl,fun j h hj=>by
   by_cases e:j=i
   ·subst e;simpa using hc
   ·exact hx j h (by omega)⟩
 ·exact Bd fun j h=>hx j h (by omega)
theorem Ac1 {l:List (List UInt8)} {nn:Bool} (hl:l.length<2^63):Ae (Ad tab) 149 [.sl nn (vs .str l)] (· =.bool (decide (rises l))):=by
 refine Ac rfl rfl ?_
 (conv=>whnf);repeat' (first|((first|refine kA ?_|(apply Br.mk<;>intro hc))<;>first|exact hc.elim|conv=>whnf)|refine kB ?_)
 refine Ag (fun m env s=>∃i:Nat,m=l.length-i∧env=[(0,.sl nn (vs .str l)),(3,.int .i64 (i+1:Nat))]∧s=⟨[],0⟩∧∀j (h:j+1<l.length),j<i→(Op.bytesLess l[j+1] l[j]||l[j+1]==l[j])=false) ?_ _ _ _ ⟨0,rfl,rfl,rfl,fun j _ h=>absurd h (by omega)⟩
 rintro _ _ _ ⟨i,rfl,rfl,rfl,hx⟩
 refine⟨rfl,?_⟩
 (conv=>whnf);repeat' (first|((first|refine kA ?_|(apply Br.mk<;>intro hc)|(apply Af;(· exact nVz i (by omega) (by omega))))<;>first|exact hc.elim|conv=>whnf)|refine kB ?_)
 ·exact Au fun h=>by simp only[show (((i+1:Nat):Int)-1).toNat=i by omega]at hc;rw[h i (by omega)]at hc;cases hc
 ·simp only[show (((i+1:Nat):Int)-1).toNat=i by omega]at hc
  exact again.mk ⟨_,by omega,i+1,rfl,rfl,rfl,fun j h hj=>by
   by_cases e:j=i
   ·subst e;simpa using hc
   ·exact hx j h (by omega)⟩
 ·exact Bd fun j h=>hx j h (by omega)
theorem Apw {g len:Nat} {nn cl:Bool} {l:List (List UInt8)} {x:List UInt8} {bytes:Nat} {K:Nat→Bool→Bool→List AV→Prop} (hl:len=l.length) (hr:(l.length+1)*bytes≤2 ^ 46) (h:K (len+1) true cl (vs .str (l++[x]))):
 IW g g 1 1 len nn cl true (vs .str l) [.str x] bytes K:=by
 subst hl
 refine⟨⟨rfl,rfl,by simp,XJ rfl,Jq hr⟩,?_⟩
 rw[AaC,Bool.and_true]
 simpa using h
def keysOf (P:List GP):List (List UInt8):=P.map GP.key
@[simp] theorem OL (P:List GP):(keysOf P).length=P.length:=by simp[keysOf]
theorem Vy {P:List GP} (hp:∀p∈P,p.ok):∀s∈keysOf P,s.length<2^63:=by
 intro s h
 obtain⟨p,h1,rfl⟩:=List.mem_map.1 h
 exact(hp p h1).1
theorem Ri {P:List GP} {i:Nat} (h:i<P.length):keysOf (P.take i)++[(P[i]).key]=keysOf (P.take (i+1)):=by
 rw[List.take_succ_eq_append_getElem h];unfold keysOf;rw[List.map_append];rfl
def allPlain (P:List GP):Prop:=∀p∈P,Dx p.v
noncomputable instance (P:List GP):Decidable (allPlain P):=Classical.propDecidable _
noncomputable def Dw (L:List (List UInt8)) (P:List GP):Int:=
 if 8<L.length∨16<P.length then 4 else if¬(allNames L∧allNames (keysOf P))then 6 else if¬(rises L∧rises (keysOf P))then 26 else if¬allPlain P then 8 else 0
theorem PW {L:List (List UInt8)} {P:List GP} (h:8<L.length∨16<P.length):AV.int .i64 4=AV.int .i64 (Dw L P):=by rw[Dw,if_pos h]
theorem PX {L:List (List UInt8)} {P:List GP} (h:¬(8<L.length∨16<P.length)) (h1:¬(allNames L∧allNames (keysOf P))):AV.int .i64 6=AV.int .i64 (Dw L P):=by rw[Dw,if_neg h,if_pos h1]
theorem MO {L:List (List UInt8)} {P:List GP} (h:¬(8<L.length∨16<P.length)) (h1:allNames L∧allNames (keysOf P)) (h2:¬(rises L∧rises (keysOf P))):AV.int .i64 26=AV.int .i64 (Dw L P):=by rw[Dw,if_neg h,if_neg (not_not_intro h1),if_pos h2]
theorem WM {L:List (List UInt8)} {P:List GP} (h:¬(8<L.length∨16<P.length)) (h1:allNames L∧allNames (keysOf P)) (h2:rises L∧rises (keysOf P)) (h3:¬allPlain P):AV.int .i64 8=AV.int .i64 (Dw L P):=by rw[Dw,if_neg h,if_neg (not_not_intro h1),if_neg (not_not_intro h2),if_pos h3]
theorem Abb {L:List (List UInt8)} {P:List GP} (h:¬(8<L.length∨16<P.length)) (h1:allNames L∧allNames (keysOf P)) (h2:rises L∧rises (keysOf P)) (h3:allPlain P):AV.int .i64 0=AV.int .i64 (Dw L P):=by rw[Dw,if_neg h,if_neg (not_not_intro h1),if_neg (not_not_intro h2),if_neg (not_not_intro h3)]
theorem Afy {L:List (List UInt8)} {P:List GP} {ln pn:Bool} (hL:L.length<2^63) (hs:∀s∈L,s.length<2^63) (hP:P.length<2^63) (hp:∀p∈P,p.ok):Ae (Ad tab) 103 [.sl ln (vs .str L),.sl pn (vs GP.av P)] (· =.int .i64 (Dw L P)):=by
 have hk:=Vy hp
 refine Ac rfl rfl ?_
 (conv=>whnf);repeat' (first|((first|refine kA ?_|(apply Br.mk<;>intro hc))<;>first|exact hc.elim|conv=>whnf)|refine kB ?_)
 ·exact PW (by omega)
 ·exact PW (by omega)
 have h16:¬(8<L.length∨16<P.length):=by omega
 refine Ag (fun m env s=>∃(i g:Nat),m=P.length-i∧i≤P.length∧env=[(0,.sl ln (vs .str L)),(1,.sl pn (vs GP.av P)),(5,.own 0 g 0 i),(18,.sl pn (vs GP.av P)),(19,.int .i64 P.length),(20,.int .i64 i)]∧∃nn c,s=⟨[.arr g 1 nn true (vs .str (keysOf (P.take i)))],c⟩) ?_ _ _ _ ⟨0,0,rfl,by omega,rfl,_,_,rfl⟩
 rintro _ _ _ ⟨i,g,rfl,hi,rfl,nn,c,rfl⟩
 refine⟨rfl,?_⟩
 (conv=>whnf);repeat' (first|((first|refine kA ?_|(apply Br.mk<;>intro hc))<;>first|exact hc.elim|conv=>whnf)|refine kB ?_)
 ·refine Apw (by simp;omega) (by simp;omega) ?_
  (conv=>whnf);repeat' (first|((first|refine kA ?_|(apply Br.mk<;>intro hc))<;>first|exact hc.elim|conv=>whnf)|refine kB ?_)
  rw[Ri (by omega)]
  exact again.mk ⟨_,by omega,i+1,_,rfl,by omega,rfl,_,_,rfl⟩
 ·rw[BN hc]
  obtain rfl:i=P.length:=by omega
  have hu:sub (vs AV.str (keysOf P)) 0 P.length=vs .str (keysOf P):=by rw[← OL P];exact uV
  have hkl:(keysOf P).length<2^63:=by rw[OL];exact hP
  (conv=>whnf);repeat' (first|((first|refine Aq (AcY hL hs) (fun h1=>?_) (fun h1=>?_)|(rw [hu];refine Aq (AcY hkl hk) (fun h2=>?_) (fun h2=>?_))|refine Aq (Ac0 hL) (fun h3=>?_) (fun h3=>?_)|(rw [hu];refine Aq (Ac0 hkl) (fun h4=>?_) (fun h4=>?_))|refine kA ?_|(apply Br.mk<;>intro hc))<;>first|exact hc.elim|conv=>whnf)|refine kB ?_)
  ·exact PX h16 fun h=>h1 h.1
  ·exact PX h16 fun h=>h2 h.2
  ·refine Ag (fun m env s=>∃(i:Nat),m=P.length-i∧env=[(44,.sl pn (vs GP.av P)),(45,.int .i64 P.length),(46,.int .i64 i)]∧(∃ c,s=⟨[.arr g 1 nn true (vs .str (keysOf P))],c⟩)∧∀p∈P.take i,Dx p.v) ?_ _ _ _ ⟨0,rfl,rfl,⟨_,rfl⟩,by simp⟩
   clear hc hi
   rintro _ _ _ ⟨i,rfl,rfl,⟨c,rfl⟩,hx⟩
   refine⟨rfl,?_⟩
   (conv=>whnf);repeat' (first|((first|refine Aq (KH (v:=(P[i]).v) (hp _ (List.getElem_mem (by omega))).2) (fun h5=>?_) (fun h5=>?_)|refine kA ?_|(apply Br.mk<;>intro hc))<;>first|exact hc.elim|conv=>whnf)|refine kB ?_)
   ·exact again.mk ⟨_,by omega,i+1,rfl,rfl,⟨_,rfl⟩,Bl (by omega) hx h5⟩
   ·exact WM h16 ⟨Classical.not_not.1 h1,Classical.not_not.1 h2⟩ ⟨h3,h4⟩ fun h=>h5 (h _ (List.getElem_mem _))
   ·rw[BN hc]at hx
    exact Abb h16 ⟨Classical.not_not.1 h1,Classical.not_not.1 h2⟩ ⟨h3,h4⟩ hx
  ·exact MO h16 ⟨Classical.not_not.1 h1,Classical.not_not.1 h2⟩ fun h=>h4 h.2
  ·exact MO h16 ⟨Classical.not_not.1 h1,Classical.not_not.1 h2⟩ fun h=>h3 h.1
attribute [irreducible] Dw
def incr (l:List Int):Prop:=∀j (h:j+1<l.length),l[j]<l[j+1]
noncomputable instance (l:List Int):Decidable (incr l):=Classical.propDecidable _
theorem AaG {l:List Int} (h:incr l) {i:Nat}:∀d (hd:i+d+1<l.length),l[i]<l[i+d+1]
 |0,hd=>h i hd
 |d+1,hd=>Int.lt_trans (AaG h d (by omega)) (h (i+d+1) hd)
theorem AbN {l:List Int} (h:incr l) {i j:Nat} (hij:i<j) (hj:j<l.length):l[i]<l[j]:=by
 obtain⟨d,rfl⟩:∃d,j=i+d+1:=⟨j-i-1,by omega⟩
 exact AaG h d hj
def G9 (N:List GN):List Int:=N.map GN.id
def Amf (E:List GE):List Int:=E.map GE.id
@[simp] theorem Amg (N:List GN):(G9 N).length=N.length:=by simp[G9]
@[simp] theorem Amh (N:List GE):(Amf N).length=N.length:=by simp[Amf]
theorem Nu {N:List GN} {i:Nat} (h:i<N.length):(G9 N)[i]'(by simpa using h)=(N[i]).id:=by simp[G9]
theorem Zi {N:List GN} (h:incr (G9 N)) {i j:Nat} (hij:i<j) (hj:j<N.length):(N[i]).id<(N[j]).id:=by
 have:=AbN h hij (by simpa using hj)
 rwa [Nu (by omega),Nu hj]at this
theorem Aom {n:GN} {x:Int}:Ae (Ad tab) 172 [n.av,.int .i64 x] (· =.int .i64 (GK n.id x)):=by
 refine Ac rfl rfl ?_
 (conv=>whnf);repeat' (first|((first|refine kA ?_|(apply Br.mk<;>intro hc)|refine kE compare ?_)<;>first|exact hc.elim|conv=>whnf)|refine kB ?_)
 rfl
theorem bsearch {N:List GN} {nn:Bool} {x:Int} (hN:N.length<2^62) (hi:incr (G9 N)):Ae (Ad tab) 171 [.sl nn (vs GN.av N),.int .i64 x,.fn 172 []] (fun v=>∃z b,v=.BD [.int .i64 z,.bool b]∧(b=true↔x∈G9 N)):=by
 have fin:∀i:Nat,i≤N.length→(∀ k (h:k<N.length),k<i→(N[k]).id<x)→(∀ k (h:k<N.length),i≤k→x≤(N[k]).id)→(x∈G9 N↔∃h:i<N.length,(N[i]).id=x):=by
  intro i h0 h1 h2
  constructor
  ·intro h
   obtain⟨k,hk,e⟩:=List.getElem_of_mem h
   have hk':k<N.length:=by simpa using hk
   rw[Nu hk']at e
   have a1:=h1 k hk'
   have:i≤k:=by
        rcases Nat.lt_or_ge k i with h|h
        ·have:=a1 h;omega
        ·exact h
   rcases Nat.lt_or_ge i k with h|h
   ·have:=Zi hi h hk'
    have:=h2 i (by omega) (Nat.le_refl _)
    omega
   ·obtain rfl:i=k:=by omega
    exact⟨hk',e⟩
  ·rintro⟨h,e⟩
   rw[← e,←Nu h]
   exact List.getElem_mem _
 refine Ac rfl rfl ?_
 (conv=>whnf);repeat' (first|((first|refine kA ?_|(apply Br.mk<;>intro hc))<;>first|exact hc.elim|conv=>whnf)|refine kB ?_)
 refine Ag (fun m env s=>∃(i j:Nat),m=j-i∧i≤j∧j≤N.length∧env=[(0,.sl nn (vs GN.av N)),(1,.int .i64 x),(2,.fn 172 []),(8,.int .i64 N.length),(9,.int .i64 i),(10,.int .i64 j)]∧s=⟨[],0⟩∧
  (∀ k (h:k<N.length),k<i→(N[k]).id<x)∧(∀ k (h:k<N.length),j≤k→x≤(N[k]).id)) ?_ _ _ _ ⟨0,N.length,rfl,by omega,by omega,by simp,rfl,fun k _ h=>absurd h (by omega),fun k h1 h=>absurd h (by omega)⟩
 rintro _ _ _ ⟨i,j,rfl,hij,hj,rfl,rfl,h1,h2⟩
 refine⟨rfl,?_⟩
 (conv=>whnf);repeat' (first|((first|refine UQ (i+j) (by omega) (by omega) ?_|(apply Cb;(· exact Abr _))|refine kE Aom ?_|refine kA ?_|(apply Br.mk<;>intro hc))<;>first|exact hc.elim|conv=>whnf)|refine kB ?_)
 ·have hm:=OV.1 hc
  exact again.mk ⟨_,by omega,(i+j) / 2+1,j,rfl,by omega,hj,rfl,rfl,fun k hk hlt=>by
   rcases Nat.lt_or_ge k ((i+j) / 2)with h|h
   ·exact Int.lt_trans (Zi hi h (by omega)) hm
   ·obtain rfl:k=(i+j) / 2:=by omega
    exact hm,h2⟩
 ·have hm:=mt OV.2 hc
  exact again.mk ⟨_,by omega,i,(i+j) / 2,rfl,by omega,by omega,rfl,rfl,h1,fun k hk hle=>by
   rcases Nat.lt_or_ge ((i+j) / 2) k with h|h
   ·have:=Zi hi h hk;omega
   ·obtain rfl:k=(i+j) / 2:=by omega
    omega⟩
 all_goals have hf:=fin i (by omega) h1 (fun k hk h=>h2 k hk (by omega))
 ·exact⟨_,_,rfl,fun _=>hf.2 ⟨by omega,Gj.1 hc⟩,fun _=>rfl⟩
 ·exact⟨_,_,rfl,fun h=>(Bool.noConfusion h),fun h=>absurd (Gj.2 (hf.1 h).2) hc⟩
 ·exact⟨_,_,rfl,fun h=>(Bool.noConfusion h),fun h=>absurd (hf.1 h).1 (by omega)⟩
theorem Aon {N:List GN} {nn:Bool} {x:Int} (hN:N.length<2^62) (hi:incr (G9 N)):Ae (Ad tab) 104 [.sl nn (vs GN.av N),.int .i64 x] (· =.bool (decide (x∈G9 N))):=by
 refine Ac rfl rfl ?_
 (conv=>whnf);repeat' (first|((first|refine kA ?_|(apply Br.mk<;>intro hc))<;>first|exact hc.elim|conv=>whnf)|refine kB ?_)
 refine Aa (bsearch hN hi) ?_
 rintro _ ⟨z,b,rfl,hb⟩
 (conv=>whnf);repeat' (first|((first|refine kA ?_|(apply Br.mk<;>intro hc))<;>first|exact hc.elim|conv=>whnf)|refine kB ?_)
 ·exact Bd (hb.1 hc)
 ·exact Au fun h=>by rw[hb.2 h]at hc;cases hc
def Jt (f:Nat→Int):Nat→Int
 |0=>0
 |n+1=>if Jt f n=0 then f n else Jt f n
theorem Ep {f:Nat→Int}:∀{n:Nat},Jt f n=0↔∀k,k<n→f k=0
 |0=>by simp[Jt]
 |n+1=>by
  unfold Jt
  split
  ·rename_i h
   have:=Ep.1 h
   refine⟨fun h0 k hk=>?_,fun h0=>h0 n (by omega)⟩
   rcases Nat.lt_or_ge k n with h1|h1
   ·exact this k h1
   ·obtain rfl:k=n:=by omega
    exact h0
  ·rename_i h
   exact⟨fun h0=>absurd h0 h,fun h0=>absurd (Ep.2 fun k hk=>h0 k (by omega)) h⟩
theorem QI {f:Nat→Int} {i:Nat} (h:∀k,k<i→f k=0) (hi:f i≠0):∀{n:Nat},i<n→Jt f n=f i
 |0,hn=>absurd hn (by omega)
 |n+1,hn=>by
  unfold Jt
  rcases Nat.lt_or_ge i n with h1|h1
  ·rw[QI h hi h1,if_neg hi]
  ·obtain rfl:i=n:=by omega
   rw[if_pos (Ep.2 h)]
noncomputable def Fg (N:List GN) (nx:Int) (i:Nat):Int:=
 match N[i]? with
 |none=>0
 |some n=>if 0<i∧(∃ m,N[i-1]?=some m∧n.id≤m.id)then 26 else if n.id<1∨nx≤n.id then 1 else Dw n.labels n.props
noncomputable def FM (N:List GN) (E:List GE) (nx:Int) (i:Nat):Int:=
 match E[i]? with
 |none=>0
 |some e=>if 0<i∧(∃ m,E[i-1]?=some m∧e.id≤m.id)then 26 else if e.id<1∨nx≤e.id then 1 else if¬(e.fr∈G9 N∧e.to∈G9 N)then 10 else if¬isName e.ty then 6 else Dw [] e.props
theorem Aaa {N:List GN} {nx:Int} {i:Nat} (h:i<N.length) (h0:0<i) (h1:(N[i]).id≤(N[i-1]).id):Fg N nx i=26:=by
 unfold Fg;rw[List.getElem?_eq_getElem h];exact if_pos ⟨h0,_,List.getElem?_eq_getElem (by omega),h1⟩
theorem Abk {N:List GN} {i:Nat} (h:i<N.length) (h1:0<i→¬(N[i]).id≤(N[i-1]).id):¬(0<i∧∃m,N[i-1]?=some m∧(N[i]).id≤m.id):=by
 rintro⟨a,m,b,c⟩;rw[List.getElem?_eq_getElem (by omega)]at b;rw[← Option.some.inj b]at c;exact h1 a c
theorem node1 {N:List GN} {nx:Int} {i:Nat} (h:i<N.length) (h1:0<i→¬(N[i]).id≤(N[i-1]).id) (h2:(N[i]).id<1∨nx≤(N[i]).id):Fg N nx i=1:=by
 unfold Fg;rw[List.getElem?_eq_getElem h];dsimp only;rw[if_neg (Abk h h1),if_pos h2]
theorem XU {N:List GN} {nx:Int} {i:Nat} (h:i<N.length) (h1:0<i→¬(N[i]).id≤(N[i-1]).id) (h2:¬((N[i]).id<1∨nx≤(N[i]).id)):Fg N nx i=Dw (N[i]).labels (N[i]).props:=by
 unfold Fg;rw[List.getElem?_eq_getElem h];dsimp only;rw[if_neg (Abk h h1),if_neg h2]
theorem Py {N:List GN} {nx:Int} {i:Nat} (h:i<N.length) (h0:Fg N nx i=0):(0<i→(N[i-1]).id<(N[i]).id)∧1≤(N[i]).id∧(N[i]).id<nx∧Dw (N[i]).labels (N[i]).props=0:=by
 by_cases h1:0<i∧(N[i]).id≤(N[i-1]).id
 ·rw[Aaa h h1.1 h1.2]at h0;omega
 have h1':0<i→¬(N[i]).id≤(N[i-1]).id:=fun a b=>h1 ⟨a,b⟩
 by_cases h2:(N[i]).id<1∨nx≤(N[i]).id
 ·rw[node1 h h1' h2]at h0;omega
 rw[XU h h1' h2]at h0
 exact⟨fun a=>by have:=h1' a;omega,by omega,by omega,h0⟩
theorem Aab {N:List GN} {E:List GE} {nx:Int} {i:Nat} (h:i<E.length) (h0:0<i) (h1:(E[i]).id≤(E[i-1]).id):FM N E nx i=26:=by
 unfold FM;rw[List.getElem?_eq_getElem h];exact if_pos ⟨h0,_,List.getElem?_eq_getElem (by omega),h1⟩
theorem RP {E:List GE} {i:Nat} (h:i<E.length) (h1:0<i→¬(E[i]).id≤(E[i-1]).id):¬(0<i∧∃m,E[i-1]?=some m∧(E[i]).id≤m.id):=by
 rintro⟨a,m,b,c⟩;rw[List.getElem?_eq_getElem (by omega)]at b;rw[← Option.some.inj b]at c;exact h1 a c
theorem Afp {N:List GN} {E:List GE} {nx:Int} {i:Nat} (h:i<E.length) (h1:0<i→¬(E[i]).id≤(E[i-1]).id) (h2:(E[i]).id<1∨nx≤(E[i]).id):FM N E nx i=1:=by
 unfold FM;rw[List.getElem?_eq_getElem h];dsimp only;rw[if_neg (RP h h1),if_pos h2]
theorem Aac {N:List GN} {E:List GE} {nx:Int} {i:Nat} (h:i<E.length) (h1:0<i→¬(E[i]).id≤(E[i-1]).id) (h2:¬((E[i]).id<1∨nx≤(E[i]).id)) (h3:¬((E[i]).fr∈G9 N∧(E[i]).to∈G9 N)):FM N E nx i=10:=by
 unfold FM;rw[List.getElem?_eq_getElem h];dsimp only;rw[if_neg (RP h h1),if_neg h2,if_pos h3]
theorem Afq {N:List GN} {E:List GE} {nx:Int} {i:Nat} (h:i<E.length) (h1:0<i→¬(E[i]).id≤(E[i-1]).id) (h2:¬((E[i]).id<1∨nx≤(E[i]).id)) (h3:(E[i]).fr∈G9 N∧(E[i]).to∈G9 N) (h4:¬isName (E[i]).ty):FM N E nx i=6:=by
 unfold FM;rw[List.getElem?_eq_getElem h];dsimp only;rw[if_neg (RP h h1),if_neg h2,if_neg (not_not_intro h3),if_pos h4]
theorem XV {N:List GN} {E:List GE} {nx:Int} {i:Nat} (h:i<E.length) (h1:0<i→¬(E[i]).id≤(E[i-1]).id) (h2:¬((E[i]).id<1∨nx≤(E[i]).id)) (h3:(E[i]).fr∈G9 N∧(E[i]).to∈G9 N) (h4:isName (E[i]).ty):FM N E nx i=Dw [] (E[i]).props:=by
 unfold FM;rw[List.getElem?_eq_getElem h];dsimp only;rw[if_neg (RP h h1),if_neg h2,if_neg (not_not_intro h3),if_neg (not_not_intro h4)]
theorem Pz {N:List GN} {E:List GE} {nx:Int} {i:Nat} (h:i<E.length) (h0:FM N E nx i=0):(0<i→(E[i-1]).id<(E[i]).id)∧1≤(E[i]).id∧(E[i]).id<nx∧(E[i]).fr∈G9 N∧(E[i]).to∈G9 N∧isName (E[i]).ty∧Dw [] (E[i]).props=0:=by
 by_cases h1:0<i∧(E[i]).id≤(E[i-1]).id
 ·rw[Aab h h1.1 h1.2]at h0;omega
 have h1':0<i→¬(E[i]).id≤(E[i-1]).id:=fun a b=>h1 ⟨a,b⟩
 by_cases h2:(E[i]).id<1∨nx≤(E[i]).id
 ·rw[Afp h h1' h2]at h0;omega
 by_cases h3:(E[i]).fr∈G9 N∧(E[i]).to∈G9 N
 case neg=>rw[Aac h h1' h2 h3]at h0;omega
 by_cases h4:isName (E[i]).ty
 case neg=>rw[Afq h h1' h2 h3 h4]at h0;omega
 rw[XV h h1' h2 h3 h4]at h0
 exact⟨fun a=>by have:=h1' a;omega,by omega,by omega,h3.1,h3.2,h4,h0⟩
def Gv (g:GG):Prop:=g.nodes.length≤2000∧g.edges.length≤4000
def Hg (g:GG):Prop:=1≤g.Df∧g.Df≤1000001∧1≤g.DC∧g.DC≤1000001
instance (g:GG):Decidable (Gv g):=by unfold Gv;infer_instance
instance (g:GG):Decidable (Hg g):=by unfold Hg;infer_instance
noncomputable def AZ (g:GG):Int:=
 if¬Gv g then 4 else if¬Hg g then 1 else
  if Jt (Fg g.nodes g.Df) g.nodes.length=0 then Jt (FM g.nodes g.edges g.DC) g.edges.length else Jt (Fg g.nodes g.Df) g.nodes.length
theorem Afr {g:GG} (h:¬Gv g):AV.int .i64 4=AV.int .i64 (AZ g):=by unfold AZ;rw[if_pos h]
theorem Afs {g:GG} (h:Gv g) (h1:¬Hg g):AV.int .i64 1=AV.int .i64 (AZ g):=by unfold AZ;rw[if_neg (not_not_intro h),if_pos h1]
theorem checkN {g:GG} (h:Gv g) (h1:Hg g) {i:Nat} (hi:i<g.nodes.length) (h2:∀k,k<i→Fg g.nodes g.Df k=0) {r:Int} (h3:Fg g.nodes g.Df i=r) (hr:r≠0):AV.int .i64 r=AV.int .i64 (AZ g):=by
 subst h3
 unfold AZ
 rw[if_neg (not_not_intro h),if_neg (not_not_intro h1),QI h2 hr hi,if_neg hr]
theorem NG {g:GG} (h:Gv g) (h1:Hg g) (hn:∀k,k<g.nodes.length→Fg g.nodes g.Df k=0) {i:Nat} (hi:i<g.edges.length) (h2:∀k,k<i→FM g.nodes g.edges g.DC k=0) {r:Int} (h3:FM g.nodes g.edges g.DC i=r) (hr:r≠0):AV.int .i64 r=AV.int .i64 (AZ g):=by
 subst h3
 unfold AZ
 rw[if_neg (not_not_intro h),if_neg (not_not_intro h1),if_pos (Ep.2 hn),QI h2 hr hi]
theorem Zr {g:GG} (h:Gv g) (h1:Hg g) (hn:∀k,k<g.nodes.length→Fg g.nodes g.Df k=0) (h2:∀k,k<g.edges.length→FM g.nodes g.edges g.DC k=0):AV.int .i64 0=AV.int .i64 (AZ g):=by
 unfold AZ
 rw[if_neg (not_not_intro h),if_neg (not_not_intro h1),if_pos (Ep.2 hn),Ep.2 h2]
theorem Aad {N:List GN} {nx:Int} (h:∀k,k<N.length→Fg N nx k=0):incr (G9 N):=by
 intro j hj
 have hj':j+1<N.length:=by simpa using hj
 rw[Nu (by omega),Nu hj']
 exact(Py hj' (h _ hj')).1 (by omega)
theorem TG {g:GG} (h:AZ g=0):Gv g∧Hg g∧(∀ k,k<g.nodes.length→Fg g.nodes g.Df k=0)∧∀k,k<g.edges.length→FM g.nodes g.edges g.DC k=0:=by
 unfold AZ at h
 by_cases h1:Gv g
 case neg=>rw[if_pos h1]at h;omega
 by_cases h2:Hg g
 case neg=>rw[if_neg (not_not_intro h1),if_pos h2]at h;omega
 rw[if_neg (not_not_intro h1),if_neg (not_not_intro h2)]at h
 split at h
 ·rename_i h3
  exact⟨h1,h2,Ep.1 h3,Ep.1 h⟩
 ·rename_i h3;exact absurd h h3
attribute [irreducible] Fg FM AZ Jt
structure GC where
 op:Int
 id:Int
 fr:Int
 to:Int
 name:List UInt8
 v:GV
def GC.av (c:GC):AV:=.agg [.int .i64 c.op,.int .i64 c.id,.int .i64 c.fr,.int .i64 c.to,.str c.name,.int .i64 c.v.k,.int .i64 c.v.n,.int .i64 c.v.d,.str c.v.s,.sl c.v.nn c.v.l]
def GC.ok (c:GC):Prop:=I64 c.op∧I64 c.id∧I64 c.fr∧I64 c.to∧Ln c.name∧c.v.ok
def Aip (ns:List Int) (N:List GN):List GN:=N.filter fun n=>decide (n.id∉ns)
def Aiq (es:List Int) (E:List GE):List GE:=E.filter fun e=>decide (e.id∉es)
def Qy (ns es:List Int) (g h:GG):Prop:=Aip ns h.nodes=Aip ns g.nodes∧Aiq es h.edges=Aiq es g.edges
theorem Qy.refl (ns es:List Int) (g:GG):Qy ns es g g:=⟨rfl,rfl⟩
theorem Qy.trans {ns es:List Int} {g h k:GG} (h1:Qy ns es g h) (h2:Qy ns es h k):Qy ns es g k:=⟨h2.1.trans h1.1,h2.2.trans h1.2⟩
def AiF (l:List GP):Prop:=∀p∈l,Dx p.v
def hasK (l:List GP) (k:List UInt8):Prop:=∃p∈l,p.key=k
instance (l:List GP) (k:List UInt8):Decidable (hasK l k):=by unfold hasK;infer_instance
def ET (l:List GP) (k:List UInt8):GV:=match l.find? (isK k)with
 |some p=>p.v
 |none=>V0
theorem Vg (l:List GP) (k:List UInt8):Yo l k=(ET l k).av:=by
 unfold Yo ET;cases l.find? (isK k)<;>rfl
theorem Akv {v:GV} (h:Dx v):v.k≠0:=by have:=QD h;unfold IG at this;omega
theorem Akw {l:List GP} (h:AiF l) (k:List UInt8):(ET l k).k=0↔¬hasK l k:=by
 unfold ET hasK
 cases hf:l.find? (isK k)with
 |none=>
  refine⟨fun _=>?_,fun _=>rfl⟩
  rintro⟨p,hp,rfl⟩
  have:=List.find?_eq_none.1 hf p hp
  simp[isK]at this
 |some p=>
  have h1:=List.mem_of_find?_eq_some hf
  have h2:=List.find?_some hf
  refine⟨fun h0=>absurd h0 (Akv (h p h1)),fun h0=>absurd ⟨p,h1,of_decide_eq_true h2⟩ h0⟩
def NT (l:List GP):Prop:=AiG l∧AiF l
theorem NT.len {l:List GP} (h:NT l):l.length<2^63:=by have:=h.1.1;omega
theorem AaK {l:List GP} {nn:Bool} (h:NT l) {k:List UInt8}:Ae (Ad tab) 111 [.sl nn (vs GP.av l),.str k] (· =.bool (decide (hasK l k))):=by
 have hp:=Aiw (nn:=nn) h.len h.1.2 (k:=k)
 rw[Vg]at hp
 have hk:=Akw h.2 k
 refine Ac rfl rfl ?_
 (conv=>whnf);repeat' (first|((first|refine kE hp ?_|refine kA ?_|(apply Br.mk<;>intro hc))<;>first|exact hc.elim|conv=>whnf)|refine kB ?_)
 all_goals first|exact Bd (by grind)|exact Au (by grind)
def Uz (op id:Int) (k:List UInt8) (v:GV):GC:=⟨op,id,0,0,k,v⟩
def CW (n:GN) (m:GM):List GC:=
 if m.k=1 then if m.fr∈n.labels then[Uz 4 n.id m.fr V0,Uz 3 n.id m.to V0]else[]
 else if¬m.label∈n.labels then[]
 else if m.k=3 then if hasK n.props m.fr then[Uz 5 n.id m.fr V0,Uz 5 n.id m.to (ET n.props m.fr)]else[]
 else if m.k=4 then if hasK n.props m.fr then[Uz 5 n.id m.fr V0]else[]
 else if m.k=5 then if hasK n.props m.to then[]else[Uz 5 n.id m.to m.v]
 else[]
def FI (e:GE) (m:GM):List GC:=
 if m.k=2∧e.ty=m.fr then⟨7,e.id,0,0,[],V0⟩::⟨6,e.id,e.fr,e.to,m.to,V0⟩::e.props.map fun p=>Uz 8 e.id p.key p.v else[]
theorem AgE {n:GN} {m:GM} (h:m.k=1) (h1:m.fr∈n.labels):CW n m=[Uz 4 n.id m.fr V0,Uz 3 n.id m.to V0]:=by simp[CW,h,h1]
theorem Ad3 {n:GN} {m:GM} (h:m.k=1) (h1:m.fr∉n.labels):CW n m=[]:=by simp[CW,h,h1]
theorem AgF {n:GN} {m:GM} (h:m.k≠1) (h1:m.label∉n.labels):CW n m=[]:=by simp[CW,h,h1]
theorem AgG {n:GN} {m:GM} (h:m.k=3) (h1:m.label∈n.labels) (h2:hasK n.props m.fr):CW n m=[Uz 5 n.id m.fr V0,Uz 5 n.id m.to (ET n.props m.fr)]:=by simp[CW,h,h1,h2]
theorem Ad4 {n:GN} {m:GM} (h:m.k=3) (h2:¬hasK n.props m.fr):CW n m=[]:=by simp[CW,h,h2]
theorem AgH {n:GN} {m:GM} (h:m.k=4) (h1:m.label∈n.labels) (h2:hasK n.props m.fr):CW n m=[Uz 5 n.id m.fr V0]:=by simp[CW,h,h1,h2]
theorem Ad5 {n:GN} {m:GM} (h:m.k=4) (h2:¬hasK n.props m.fr):CW n m=[]:=by simp[CW,h,h2]
theorem AgI {n:GN} {m:GM} (h:m.k=5) (h1:m.label∈n.labels) (h2:¬hasK n.props m.to):CW n m=[Uz 5 n.id m.to m.v]:=by simp[CW,h,h1,h2]
theorem Ad6 {n:GN} {m:GM} (h:m.k=5) (h2:hasK n.props m.to):CW n m=[]:=by simp[CW,h,h2]
theorem AaL {n:GN} {m:GM} (h:m.k≠1) (h3:m.k≠3) (h4:m.k≠4) (h5:m.k≠5):CW n m=[]:=by simp[CW,h,h3,h4,h5]
theorem Vu (n:GN) (m:GM):(CW n m).length≤2:=by unfold CW;grind
theorem AgJ {e:GE} {m:GM} (h:m.k=2) (h1:e.ty=m.fr):FI e m=⟨7,e.id,0,0,[],V0⟩::⟨6,e.id,e.fr,e.to,m.to,V0⟩::e.props.map fun p=>Uz 8 e.id p.key p.v:=by simp[FI,h,h1]
theorem Aa5 {e:GE} {m:GM} (h:¬(m.k=2∧e.ty=m.fr)):FI e m=[]:=by simp[FI,h]
theorem Vw (e:GE) (m:GM):(FI e m).length≤e.props.length+2:=by unfold FI;split<;>simp
theorem Uc {m:GM} (h:m.k≠1) (h3:m.k≠3) (h4:m.k≠4) (h5:m.k≠5) (N:List GN):N.flatMap (CW · m)=[]:=by
 rw[List.flatMap_eq_nil_iff];intro n _;exact AaL h h3 h4 h5
theorem Ud {m:GM} (h:m.k≠2) (E:List GE):E.flatMap (FI · m)=[]:=by
 rw[List.flatMap_eq_nil_iff];intro n _;exact Aa5 fun h0=>h h0.1
theorem Aa6 {α β:Type} {f:α→List β} {l:List α} {i:Nat} (h:i<l.length):(l.take (i+1)).flatMap f=(l.take i).flatMap f++f l[i]:=by
 rw[List.take_succ_eq_append_getElem h,List.flatMap_append];simp
theorem Agv {a b c d:Nat} (hb:0<b) (hd:0<d) (h1:Nat.gcd a b=1) (h2:Nat.gcd c d=1) (h:a*d=c*b):a=c∧b=d:=by
 have e1:b ∣ d:=(Nat.Coprime.dvd_of_dvd_mul_left (k:=b) (m:=a) (n:=d) (by rw[Nat.Coprime,Nat.gcd_comm];exact h1) ⟨c,by rw[h,Nat.mul_comm]⟩)
 have e2:d ∣ b:=(Nat.Coprime.dvd_of_dvd_mul_left (k:=d) (m:=c) (n:=b) (by rw[Nat.Coprime,Nat.gcd_comm];exact h2) ⟨a,by rw[← h,Nat.mul_comm]⟩)
 have e3:=Nat.dvd_antisymm e1 e2
 subst e3
 exact⟨Nat.eq_of_mul_eq_mul_right hb h,rfl⟩
def VF (n d:Int):Prop:=1≤d∧d≤1000000000000000∧Ol n∧Nat.gcd n.natAbs d.natAbs=1
instance (n d:Int):Decidable (VF n d):=by unfold VF;infer_instance
def VB (g:GV):Prop:=g.l.length=0∧(g.k=0∧g.n=0∧g.d=0∧g.s=[]∨g.k=1∧(g.n=0∨g.n=1)∧g.d=0∧g.s=[]∨g.k=2∧Ol g.n∧g.d=0∧g.s=[]∨
 g.k=3∧2≤g.d∧VF g.n g.d∧g.s=[]∨g.k=4∧g.n=0∧g.d=0∧okS g.s∨(g.k=5∨g.k=6)∧1≤g.n∧g.n≤1000000∧g.d=0∧g.s=[])
instance (g:GV):Decidable (VB g):=by unfold VB;infer_instance
def VPa (l:List AV):Prop:=l.length % 2=1∧l.length≤25∧∀i (h:i<l.length),∃x:GV,l[i]=x.av∧x.k=5+i % 2∧VB x
def VV:Nat→GV→Prop
 |0,g=>VB g∨g.k=7∧g.n=0∧g.d=0∧g.s=[]∧VPa g.l
 |m+1,g=>VB g∨g.k=7∧g.n=0∧g.d=0∧g.s=[]∧VPa g.l∨g.k=8∧g.n=0∧g.d=0∧g.s=[]∧g.l.length≤64∧∀i (h:i<g.l.length),∃x:GV,g.l[i]=x.av∧VV m x
theorem AaF:∀{m:Nat} {g:GV},VV m g→VV (m+1) g
 |0,g,h=>by
  rcases h with h|h
  ·exact .inl h
  ·exact .inr (.inl h)
 |m+1,g,h=>by
  rcases h with h|h|⟨h1,h2,h3,h4,h5,h6⟩
  ·exact .inl h
  ·exact .inr (.inl h)
  ·exact .inr (.inr ⟨h1,h2,h3,h4,h5,fun i hi=>by obtain⟨x,e,hx⟩:=h6 i hi;exact⟨x,e,AaF hx⟩⟩)
theorem GV.JV {g h:GV} (e:g.av=h.av):g=h:=by
 obtain⟨k,n,d,s,nn,l⟩:=g
 obtain⟨k',n',d',s',nn',l'⟩:=h
 simp only[GV.av,AV.agg.injEq,List.cons.injEq,AV.int.injEq,AV.str.injEq,AV.sl.injEq,true_and,and_true]at e
 obtain⟨rfl,rfl,rfl,rfl,rfl,rfl⟩:=e
 rfl
theorem X0 (x y:Nat):Nat.gcd y (x % y)=Nat.gcd x y:=by
 rw[Nat.gcd_comm x y,Nat.gcd_rec y x,Nat.gcd_comm]
theorem absP {n:Int} (h:Ol n):Ae (Ad tab) 313 [.int .i64 n] (· =.int .i64 n.natAbs):=by
 unfold Ol at h
 have e:(if 0-n>n then 0-n else n)=(n.natAbs:Int):=by split<;>omega
 refine Ac rfl rfl ?_
 (conv=>whnf);repeat' (first|((first|refine kA ?_|(apply Br.mk<;>intro hc))<;>first|exact hc.elim|conv=>whnf)|refine kB ?_)
 rw[← e];rfl
theorem AoL {n d:Int} (hn:Ol n) (hd:Ol d):Ae (Ad tab) 296 [.int .i64 n,.int .i64 d] (· =.int .i64 (Nat.gcd n.natAbs d.natAbs)):=by
 have hn':=hn
 have hd':=hd
 unfold Ol at hn' hd'
 refine Ac rfl rfl ?_
 (conv=>whnf);repeat' (first|((first|refine Aq (inP (n:=n)) (fun hr=>?_) (fun hr=>absurd hn hr)|refine Aq (inP (n:=d)) (fun hr=>?_) (fun hr=>absurd hd hr)|refine kE (absP hn) ?_|refine kE (absP hd) ?_|refine kA ?_|(apply Br.mk<;>intro hc))<;>first|exact hc.elim|conv=>whnf)|refine kB ?_)
 refine Ag (fun m env s=>∃(x y:Nat),m=1*y∧x<2^63∧y<2^63∧Nat.gcd x y=Nat.gcd n.natAbs d.natAbs∧env=[(0,.int .i64 x),(1,.int .i64 y)]∧s=⟨[],0⟩) ?_ _ _ _ ⟨n.natAbs,d.natAbs,(Nat.one_mul _).symm,by omega,by omega,rfl,rfl,rfl⟩
 clear hn hd hn' hd'
 rintro m _ _ ⟨x,y,hm,hx,hy,hg,rfl,rfl⟩
 have hm2:y=m:=by omega
 subst hm2
 refine⟨rfl,?_⟩
 (conv=>whnf);repeat' (first|((first|refine kA ?_|(apply Br.mk<;>intro hc))<;>first|exact hc.elim|conv=>whnf)|refine kB ?_)
 ·have h0:y=0:=by omega
  subst h0
  rw[Nat.gcd_zero_right]at hg
  rw[← hg];rfl
 ·have h0:0<y:=by omega
  have:=Nat.mod_lt x h0
  exact again.mk ⟨_,this,y,x % y,(Nat.one_mul _).symm,hy,by omega,by rw[X0];exact hg,by rw[Int.ofNat_tmod],rfl⟩
theorem Ad2 {n d:Int} (h:¬(1≤d∧d≤1000000000000000∧Ol n)):¬VF n d:=fun hv=>h ⟨hv.1,hv.2.1,hv.2.2.1⟩
theorem fvP {n d:Int}:Ae (Ad tab) 269 [.agg [.int .i64 n,.int .i64 d]] (· =.bool (decide (VF n d))):=by
 by_cases h:1≤d∧d≤1000000000000000∧Ol n
 ·obtain⟨h1,h2,h3⟩:=h
  have hg:=AoL h3 (show Ol d by unfold Ol;omega)
  refine Ac rfl rfl ?_
  (conv=>whnf);repeat' (first|((first|refine Aq (inP (n:=n)) (fun hr=>?_) (fun hr=>absurd h3 hr)|refine kE hg ?_|refine kA ?_|(apply Br.mk<;>intro hc))<;>first|exact hc.elim|conv=>whnf)|refine kB ?_)
  all_goals first
   |exact Bd ⟨h1,h2,h3,by omega⟩
   |exact Au fun hv=>by have:=hv.2.2.2;omega
   |trace_state
 ·have hno:=Ad2 h
  have hnr:¬Ol n∨¬(1≤d∧d≤1000000000000000):=by
   by_cases h3:Ol n
   ·exact .inr fun h12=>h ⟨h12.1,h12.2,h3⟩
   ·exact .inl h3
  refine Ac rfl rfl ?_
  (conv=>whnf);repeat' (first|((first|refine Aq (inP (n:=n)) (fun hr=>?_) (fun hr=>?_)|refine kA ?_|(apply Br.mk<;>intro hc))<;>first|exact hc.elim|conv=>whnf)|refine kB ?_)
  all_goals first
   |exact Au hno
   |(exfalso;rcases hnr with h|h;exact h hr;omega)
   |trace_state
theorem bare {g:GV} {n d s l:Bool}:Ae (Ad tab) 225 [g.av,.bool n,.bool d,.bool s,.bool l] (fun v=>∃b,v=.bool b):=by
 cases n<;>cases d<;>cases s<;>cases l<;>(
 refine Ac rfl rfl ?_
 (conv=>whnf);repeat' (first|((first|refine kA ?_|(apply Br.mk<;>intro hc))<;>first|exact hc.elim|conv=>whnf)|refine kB ?_)
 all_goals exact⟨_,rfl⟩)
theorem Aps {n:Int}:Ae (Ad tab) 226 [.int .i64 n] (fun v=>∃b,v=.bool b):=by
 refine Ac rfl rfl ?_
 (conv=>whnf);repeat' (first|((first|refine kA ?_|(apply Br.mk<;>intro hc))<;>first|exact hc.elim|conv=>whnf)|refine kB ?_)
 all_goals exact⟨_,rfl⟩
theorem size {n:Int} (h1:-2^62≤n) (h2:n≤2^62):Ae (Ad tab) 161 [.int .i64 n] (fun v=>∃z,v=.int .i64 z∧0≤z∧(z=n∨z=-n)):=by
 refine Ac rfl rfl ?_
 (conv=>whnf);repeat' (first|((first|refine kA ?_|(apply Br.mk<;>intro hc))<;>first|exact hc.elim|conv=>whnf)|refine kB ?_)
 all_goals exact⟨_,rfl,by omega,by omega⟩
theorem gcd {a b:Int} (h1:0≤a) (h2:0≤b):Ae (Ad tab) 230 [.int .i64 a,.int .i64 b] (fun v=>∃z,v=.int .i64 z):=by
 refine Ac rfl rfl ?_
 (conv=>whnf);repeat' (first|((first|refine kA ?_|(apply Br.mk<;>intro hc))<;>first|exact hc.elim|conv=>whnf)|refine kB ?_)
 refine Ag (fun m env s=>∃(a b:Int),m=b.toNat∧0≤a∧0≤b∧env=[(0,.int .i64 a),(1,.int .i64 b)]∧s=⟨[],0⟩) ?_ _ _ _ ⟨a,b,rfl,h1,h2,rfl,rfl⟩
 clear h1 h2 a b
 rintro _ _ _ ⟨a,b,rfl,h1,h2,rfl,rfl⟩
 refine⟨rfl,?_⟩
 (conv=>whnf);repeat' (first|((first|refine kA ?_|(apply Br.mk<;>intro hc))<;>first|exact hc.elim|conv=>whnf)|refine kB ?_)
 ·have e:a.tmod b=a % b:=Int.tmod_eq_emod_of_nonneg h1
  have:=Int.emod_lt_of_pos a (by omega:0<b)
  have:=Int.emod_nonneg a (by omega:b≠0)
  exact again.mk ⟨_,by rw[e];omega,_,_,rfl,h2,by rw[e];omega,rfl,rfl⟩
 ·exact⟨_,rfl⟩
theorem Alk {n d:Int}:Ae (Ad tab) 157 [.agg [.int .i64 n,.int .i64 d]] (fun v=>∃b,v=.bool b∧(b=true→1≤d∧d≤1000000000000000∧-1000000000000000≤n∧n≤1000000000000000)):=by
 refine Ac rfl rfl ?_
 (conv=>whnf);repeat' (first|((first|refine kA ?_|(apply Br.mk<;>intro hc)|(refine Aa (size (n:=n) (by omega) (by omega)) ?_;rintro _ ⟨z,rfl,hz1,hz2⟩)|(refine Aa (gcd (by omega) (by omega)) ?_;rintro _ ⟨z2,rfl⟩))<;>first|exact hc.elim|conv=>whnf)|refine kB ?_)
 all_goals first|exact⟨_,rfl,fun _=>by omega⟩|exact⟨_,rfl,fun h=>absurd h Bool.false_ne_true⟩
theorem Anx {s:List UInt8} (hl:s.length<2^63):Ae (Ad tab) 227 [.str s] (fun v=>∃b,v=.bool b):=by
 refine Ac rfl rfl ?_
 (conv=>whnf);repeat' (first|((first|refine kA ?_|(apply Br.mk<;>intro hc))<;>first|exact hc.elim|conv=>whnf)|refine kB ?_)
 refine Ag (fun m env s'=>∃i:Nat,m=s.length-i∧env=[(0,.str s),(3,.int .i64 i)]∧s'=⟨[],0⟩) ?_ _ _ _ ⟨0,rfl,rfl,rfl⟩
 rintro _ _ _ ⟨i,rfl,rfl,rfl⟩
 refine⟨rfl,?_⟩
 (conv=>whnf);repeat' (first|((first|refine kA ?_|(apply Br.mk<;>intro hc))<;>first|exact hc.elim|conv=>whnf)|refine kB ?_)
 all_goals first|exact⟨_,rfl⟩|exact again.mk ⟨_,by omega,i+1,rfl,rfl,rfl⟩
theorem Acs {g:GV} {n:Int} (h:g.k=5∨g.k=6):Ae (Ad tab) 154 [g.av,.int .i64 n] (fun v=>∃b,v=.bool b):=by
 refine Ac rfl rfl ?_
 (conv=>whnf);repeat' (first|((first|refine kA ?_|(apply Br.mk<;>intro hc)|(refine Aa (bare (g:=g)) ?_;rintro _ ⟨b,rfl⟩))<;>first|exact hc.elim|conv=>whnf)|refine kB ?_)
 all_goals exact⟨_,rfl⟩
theorem Alm {l:List AV} {nn:Bool} (hl:l.length<2^63) (h:∀x∈l,Like Tryz.prog 42 x):Ae (Ad tab) 228 [.sl nn l] (fun v=>∃b,v=.bool b):=by
 refine Ac rfl rfl ?_
 (conv=>whnf);repeat' (first|((first|refine kA ?_|(apply Br.mk<;>intro hc))<;>first|exact hc.elim|conv=>whnf)|refine kB ?_)
 all_goals first|exact⟨_,rfl⟩|skip
 refine Ag (fun m env s'=>∃i:Nat,m=l.length-i∧env=[(0,.sl nn l),(3,.int .i64 i)]∧s'=⟨[],0⟩) ?_ _ _ _ ⟨0,rfl,rfl,rfl⟩
 rintro _ _ _ ⟨i,rfl,rfl,rfl⟩
 refine⟨rfl,?_⟩
 obtain⟨gx,hgx⟩:=DX h i
 (conv=>whnf);repeat' (first|((first|refine kA ?_|(apply Br.mk<;>intro hc)|(apply Af;(· exact(hgx (by omega)).1))|(refine Aa (Acs (g:=gx) (by omega)) ?_;rintro _ ⟨b,rfl⟩))<;>first|exact hc.elim|conv=>whnf)|refine kB ?_)
 all_goals first|exact⟨_,rfl⟩|exact again.mk ⟨_,by omega,i+1,rfl,rfl,rfl⟩
end AI
end Go.Proofs.YtjijnamhalgamaaGreatDoor
