/- The null value. The program's order of a value and null. The order of values: plain. Names in a list, increasing strings, labels and properties. What is wrong with labels and properties. Looking for a node among increasing ids. graph.Check: the first error of a graph. Small graphs, few strings. Properties looked up. -/
import Derived.Test.YtjijnamhalgamaaGreatDoorTMad
import Derived.Test.YtjijnamhalgamaaGreatDoorTMaf
import Derived.Test.YtjijnamhalgamaaGreatDoorTMae
set_option linter.unusedVariables false
set_option maxRecDepth 4000
namespace Go.Proofs.YtjijnamhalgamaaGreatDoor
namespace AI
def XO:GV:=⟨0,0,0,[],false,[]⟩
theorem AjL:XO.ok:=⟨by unfold I64 XO;dsimp only;omega,by unfold I64 XO;dsimp only;omega,by unfold I64 XO;dsimp only;omega,by simp[Ln,XO],by simp[Ln,XO],fun _=>rfl,by simp[XO]⟩
def AaO (v:GV):Prop:=v.k=0∧v.n=0∧v.d=0∧v.s=[]∧v.l.length=0
instance (v:GV):Decidable (AaO v):=by unfold AaO;infer_instance
theorem AdE:AaO XO:=⟨rfl,rfl,rfl,rfl,rfl⟩
theorem Ws {v:GV} (hk:v.k=0):VV 8 v↔AaO v:=by
 rw[Zh (by omega) (by omega)]
 unfold VB AaO
 constructor
 ·rintro⟨h1,h⟩
  rcases h with h|h|h|h|h|h<;>first|exact⟨hk,h.2.1,h.2.2.1,h.2.2.2,h1⟩|omega
 ·rintro⟨_,h1,h2,h3,h4⟩
  exact⟨h4,.inl ⟨hk,h1,h2,h3⟩⟩
def Tz (k:Int):Int:=if k=3 then 2 else if k=7 then 9 else k
theorem Wu {v:GV}:Ae (Ad tab) 235 [v.av] (· =.int .i64 (Tz v.k)):=by
 refine Ac rfl rfl ?_
 (conv=>whnf);repeat' (first|((first|refine kA ?_|(apply Br.mk<;>intro hc))<;>first|exact hc.elim|conv=>whnf)|refine kB ?_)
 all_goals first|(unfold Tz;rw[if_pos ‹_›];rfl)|(unfold Tz;rw[if_neg ‹_›,if_pos ‹_›];rfl)|(unfold Tz;rw[if_neg ‹_›,if_neg ‹_›];rfl)
theorem Amn {k:Int}:Tz k=0↔k=0:=by unfold Tz;split<;>(try split)<;>omega
theorem Amo:Ae (Ad tab) 123 [.str [],.str []] (· =.int .i64 0):=⟨_,⟨20,by kernel_rfl⟩,rfl⟩
theorem or3 {nn:Bool}:Ae (Ad tab) 121 [.sl nn [.int .i64 0,.int .i64 0,.int .i64 0]] (· =.int .i64 0):=by
 cases nn
 ·exact⟨_,⟨20,by kernel_rfl⟩,rfl⟩
 ·exact⟨_,⟨20,by kernel_rfl⟩,rfl⟩
theorem Amq {nn:Bool} {f:Nat}:Ae (Ad tab) 164 [.sl nn [],.sl false [],.fn f []] (· =.int .i64 0):=by
 refine Ac rfl rfl ?_
 (conv=>whnf);repeat' (first|((first|refine kA ?_|(apply Br.mk<;>intro hc))<;>first|exact hc.elim|conv=>whnf)|refine kB ?_)
 refine Ag (fun m env s=>m=0∧env=[(0,.sl nn []),(1,.sl false []),(2,.fn f []),(11,.sl nn []),(12,.int .i64 0),(13,.int .i64 0)]∧s=⟨[],0⟩) ?_ _ _ _ ⟨rfl,rfl,rfl⟩
 rintro _ _ _ ⟨rfl,rfl,rfl⟩
 refine⟨rfl,?_⟩
 (conv=>whnf);repeat' (first|((first|refine kA ?_|(apply Br.mk<;>intro hc))<;>first|exact hc.elim|conv=>whnf)|refine kB ?_)
 all_goals first|rfl|(exfalso;simp_all)
theorem AjR {v:GV} (h:AaO v):Ae (Ad tab) 163 [v.av,XO.av] (· =.int .i64 0):=by
 obtain⟨k,n,d,s,nn,l⟩:=v
 obtain⟨h1,h2,h3,h4,h5⟩:=h
 dsimp only at h1 h2 h3 h4 h5
 subst h1 h2 h3 h4
 obtain rfl:l=[]:=List.eq_nil_of_length_eq_zero h5
 have hc1:Ae (Ad tab) 235 [GV.av ⟨0,0,0,[],nn,[]⟩] (· =.int .i64 0):=Wu (v:=⟨0,0,0,[],nn,[]⟩)
 have hc2:Ae (Ad tab) 235 [XO.av] (· =.int .i64 0):=Wu (v:=XO)
 have hc3:Ae (Ad tab) 122 [.int .i64 0,.int .i64 0] (· =.int .i64 0):=compare
 refine Ac rfl rfl ?_
 (conv=>whnf);repeat' (first|((first|apply kE hc1|apply kE hc2|apply kE hc3|apply kE Amo|apply kE Amq|apply kE or3|refine kA ?_|(apply Br.mk<;>intro hc))<;>first|exact hc.elim|conv=>whnf)|refine kB ?_)
 all_goals first|rfl|(exfalso;simp_all)
theorem Agz {v:GV} (h:v.k≠0):Ae (Ad tab) 163 [v.av,XO.av] (fun w=>∃z,w=.int .i64 z∧z≠0):=by
 have hc2:Ae (Ad tab) 235 [XO.av] (· =.int .i64 0):=Wu (v:=XO)
 obtain⟨z,hz,hz0⟩:∃z,GK (Tz v.k) 0=z∧z≠0:=⟨_,rfl,fun h0=>h (Amn.1 (Gj.1 h0))⟩
 have hc3:Ae (Ad tab) 122 [.int .i64 (Tz v.k),.int .i64 0] (· =.int .i64 z):=hz▸compare
 refine Ac rfl rfl ?_
 (conv=>whnf);repeat' (first|((first|apply kE (Wu (v:=v))|apply kE hc2|apply kE hc3|refine kA ?_|(apply Br.mk<;>intro hc))<;>first|exact hc.elim|conv=>whnf)|refine kB ?_)
 all_goals first|exact⟨_,rfl,hz0⟩|omega
theorem IJ {v:GV} (hv:v.ok):Ae (Ad tab) 98 [v.av,XO.av] (fun w=>∃z,w=.int .i64 z∧(z=0↔AaO v)):=by
 have hq:Ae (Ad tab) 162 [XO.av] (· =.bool true):=by
  have:=Wv AjL;rwa [decide_eq_true ((Ws rfl).2 AdE)]at this
 have hp:=Wv hv
 by_cases hVV:VV 8 v
 ·rw[decide_eq_true hVV]at hp
  by_cases hk:v.k=0
  ·have hn:=(Ws hk).1 hVV
   refine Ac rfl rfl ?_
   (conv=>whnf);repeat' (first|((first|apply kE hp|apply kE hq|apply kE (AjR hn)|refine kA ?_|(apply Br.mk<;>intro hc))<;>first|exact hc.elim|conv=>whnf)|refine kB ?_)
   all_goals first|exact⟨_,rfl,fun _=>hn,fun _=>rfl⟩
  ·refine Ac rfl rfl ?_
   (conv=>whnf);repeat' (first|((first|apply kE hp|apply kE hq|(refine Aa (Agz hk) ?_;rintro _ ⟨z,rfl,hz⟩)|refine kA ?_|(apply Br.mk<;>intro hc))<;>first|exact hc.elim|conv=>whnf)|refine kB ?_)
   all_goals first|exact⟨_,rfl,fun h=>absurd h hz,fun h=>absurd h.1 hk⟩
 ·rw[decide_eq_false hVV]at hp
  have hn:¬AaO v:=fun h=>hVV ((Ws h.1).2 h)
  refine Ac rfl rfl ?_
  (conv=>whnf);repeat' (first|((first|apply kE hp|apply kE hq|refine kA ?_|(apply Br.mk<;>intro hc))<;>first|exact hc.elim|conv=>whnf)|refine kB ?_)
  all_goals first|exact⟨_,rfl,fun h=>absurd h (by decide),fun h=>absurd h hn⟩
section
open Go.Sort
def Ahh:AV→GV
 | .agg [.int _ k,.int _ n,.int _ d,.str s,.sl nn l]=>⟨k,n,d,s,nn,l⟩
 |_=>⟨0,0,0,[],false,[]⟩
def MS (c:AV→AV→Int):List AV→List AV→Int
 |[],[]=>0
 |[],_::_=>-1
 |_::_,[]=>1
 |a::x,b::y=>Iw (c a b) (MS c x y)
theorem TW {c:AV→AV→Int} (hc:PC c):∀x y,MS c y x=-MS c x y
 |[],[]=>rfl
 |[],_::_=>rfl
 |_::_,[]=>rfl
 |a::x,b::y=>by
  have h1:=hc.anti a b
  have h2:=TW hc x y
  simp only[MS,Iw]
  split<;>split<;>omega
theorem Q8 {c:AV→AV→Int} (hc:PC c):∀x y z,MS c x y≤0→MS c y z≤0→MS c x z≤0
 |[],_,[],_,_=>Int.le_refl 0
 |[],_,_::_,_,_=>by show(-1:Int)≤0;omega
 |_::_,[],_,h,_=>absurd h (by show¬(1:Int)≤0;omega)
 |_::_,_::_,[],_,h=>absurd h (by show¬(1:Int)≤0;omega)
 |a::x,b::y,d::z,h1,h2=>by
  have ih:=Q8 hc x y z
  have a1:=hc.trans a b d
  have a2:=hc.trans b d a
  have a3:=hc.trans d a b
  have b1:=hc.anti a b
  have b2:=hc.anti b d
  have b3:=hc.anti a d
  simp only[MS,Iw]at*
  split at h1<;>split at h2<;>split<;>omega
theorem PC.lists {c:AV→AV→Int} (hc:PC c):PC (MS c):=⟨TW hc,Q8 hc⟩
def pd (g:GV):Int:=if dn g≤0 then 1 else dn g
def AmL (a b:GV):Int:=Qi (a.n*pd b-b.n*pd a)
def AmM:Nat→GV→GV→Int
 |0,_,_=>0
 |m+1,a,b=>Iw (GK (Tz a.k) (Tz b.k)) (if Tz a.k=2 then AmL a b else Iw (cS a.s b.s) (Iw (GK a.n b.n) (MS (fun x y=>AmM m (Ahh x) (Ahh y)) a.l b.l)))
theorem PC.two {α:Type} {d e:α→α→Int} {p:α→Prop} [DecidablePred p] (hd:PC d) (he:PC e):PC fun x y=>if p x then if p y then d x y else -1 else if p y then 1 else e x y where
 anti x y:=by
  have h2:=hd.anti x y
  have h3:=he.anti x y
  by_cases hx:p x<;>by_cases hy:p y<;>simp only[hx,hy,if_true,if_false]<;>first|assumption|rfl
 trans x y z h1 h2:=by
  have d1:=hd.trans x y z
  have e1:=he.trans x y z
  by_cases hx:p x<;>by_cases hy:p y<;>by_cases hz:p z<;>simp only[hx,hy,hz,if_true,if_false]at* <;>first|exact d1 h1 h2|exact e1 h1 h2|omega
noncomputable def AmN:Nat→GV→GV→Int
 |0,_,_=>0
 |m+1,a,b=>if VV 8 a then if VV 8 b then AmM (m+1) a b else -1 else if VV 8 b then 1 else
   Iw (GK a.k b.k) (Iw (GK a.n b.n) (Iw (GK a.d b.d) (Iw (cS a.s b.s) (MS (fun x y=>AmN m (Ahh x) (Ahh y)) a.l b.l))))
end
def Aak (l:List (List UInt8)):Prop:=∀s∈l,AaA s
noncomputable instance (l:List (List UInt8)):Decidable (Aak l):=Classical.propDecidable _
def rises (l:List (List UInt8)):Prop:=∀j (h:j+1<l.length),(Op.bytesLess l[j+1] l[j]||l[j+1]==l[j])=false
noncomputable instance (l:List (List UInt8)):Decidable (rises l):=Classical.propDecidable _
theorem unn {s:List UInt8} (hl:s.length<2^63):Ae (Ad tab) 169 [.str s] (· =.bool (decide (¬ AaA s))):=by
 refine Ac rfl rfl ?_
 (conv=>whnf);repeat' (first|((first|refine kA ?_|(apply Br.mk<;>intro hc)|refine Aq (AbU hl) (fun hr=>?_) (fun hr=>?_))<;>first|exact hc.elim|conv=>whnf)|refine kB ?_)
 ·exact Au (fun h=>h hr)
 ·exact Bd hr
theorem AlR {l:List (List UInt8)} {nn:Bool} (hl:l.length<2^63) (hs:∀s∈l,s.length<2^63):Ae (Ad tab) 238 [.sl nn (vs .str l),.fn 169 []] (fun v=>∃z,v=.int .i64 z∧(0≤z↔¬Aak l)):=by
 refine Ac rfl rfl ?_
 (conv=>whnf);repeat' (first|((first|refine kA ?_|(apply Br.mk<;>intro hc))<;>first|exact hc.elim|conv=>whnf)|refine kB ?_)
 refine Ag (fun m env s=>∃i:Nat,m=l.length-i∧env=[(0,.sl nn (vs .str l)),(1,.fn 169 []),(7,.int .i64 l.length),(8,.int .i64 i)]∧s=⟨[],0⟩∧∀s∈l.take i,AaA s) ?_ _ _ _ ⟨0,rfl,by simp,rfl,by simp⟩
 rintro _ _ _ ⟨i,rfl,rfl,rfl,hx⟩
 refine⟨rfl,?_⟩
 (conv=>whnf);repeat' (first|((first|refine kA ?_|(apply Br.mk<;>intro hc)|refine Aq (unn (hs _ (List.getElem_mem (by omega)))) (fun hr=>?_) (fun hr=>?_))<;>first|exact hc.elim|conv=>whnf)|refine kB ?_)
 ·exact⟨_,rfl,fun _ h=>hr (h _ (List.getElem_mem _)),fun _=>by omega⟩
 ·exact again.mk ⟨_,by omega,i+1,rfl,rfl,rfl,Bl (by omega) hx (Decidable.of_not_not hr)⟩
 ·rw[BN hc]at hx;exact⟨_,rfl,fun h=>absurd h (by omega),fun h=>absurd hx h⟩
theorem AcY {l:List (List UInt8)} {nn:Bool} (hl:l.length<2^63) (hs:∀s∈l,s.length<2^63):Ae (Ad tab) 168 [.sl nn (vs .str l),.fn 169 []] (· =.bool (decide (¬ Aak l))):=by
 refine Ac rfl rfl ?_
 (conv=>whnf);repeat' (first|((first|refine kA ?_|(apply Br.mk<;>intro hc))<;>first|exact hc.elim|conv=>whnf)|refine kB ?_)
 refine Aa (AlR hl hs) ?_
 rintro _ ⟨z,rfl,hz⟩
 (conv=>whnf);repeat' (first|((first|refine kA ?_|(apply Br.mk<;>intro hc))<;>first|exact hc.elim|conv=>whnf)|refine kB ?_)
 ·exact Bd (hz.1 hc)
 ·exact Au (mt hz.2 hc)
theorem AcZ {l:List (List UInt8)} {nn:Bool} (hl:l.length<2^63) (hs:∀s∈l,s.length<2^63):Ae (Ad tab) 148 [.sl nn (vs .str l)] (· =.bool (decide (Aak l))):=by
 refine Ac rfl rfl ?_
 (conv=>whnf);repeat' (first|((first|refine kA ?_|(apply Br.mk<;>intro hc))<;>first|exact hc.elim|conv=>whnf)|refine kB ?_)
 refine Ag (fun m env s=>∃i:Nat,m=l.length-i∧env=[(0,.sl nn (vs .str l)),(3,.int .i64 i)]∧s=⟨[],0⟩∧∀s∈l.take i,AaA s) ?_ _ _ _ ⟨0,rfl,rfl,rfl,by simp⟩
 rintro _ _ _ ⟨i,rfl,rfl,rfl,hx⟩
 refine⟨rfl,?_⟩
 (conv=>whnf);repeat' (first|((first|refine kA ?_|(apply Br.mk<;>intro hc)|refine Aq (name2 (hs _ (List.getElem_mem (by omega)))) (fun hr=>?_) (fun hr=>?_))<;>first|exact hc.elim|conv=>whnf)|refine kB ?_)
 ·exact again.mk ⟨_,by omega,i+1,rfl,rfl,rfl,Bl (by omega) hx hr⟩
 ·exact Au fun h=>hr (h _ (List.getElem_mem _))
 ·rw[BN hc]at hx;exact Bd hx
theorem Ac0 {l:List (List UInt8)} {nn:Bool} (hl:l.length<2^63):Ae (Ad tab) 170 [.sl nn (vs .str l)] (· =.bool (decide (rises l))):=by
 refine Ac rfl rfl ?_
 (conv=>whnf);repeat' (first|((first|refine kA ?_|(apply Br.mk<;>intro hc))<;>first|exact hc.elim|conv=>whnf)|refine kB ?_)
 refine Ag (fun m env s=>∃i:Nat,m=l.length-i∧env=[(0,.sl nn (vs .str l)),(3,.int .i64 (i+1:Nat))]∧s=⟨[],0⟩∧∀j (h:j+1<l.length),j<i→(Op.bytesLess l[j+1] l[j]||l[j+1]==l[j])=false) ?_ _ _ _ ⟨0,rfl,rfl,rfl,fun j _ h=>absurd h (by omega)⟩
 rintro _ _ _ ⟨i,rfl,rfl,rfl,hx⟩
 refine⟨rfl,?_⟩
 (conv=>whnf);repeat' (first|((first|refine kA ?_|(apply Br.mk<;>intro hc)|(apply Af;(· exact nVz i (by omega) (by omega))))<;>first|exact hc.elim|conv=>whnf)|refine kB ?_)
 ·exact Au fun h=>by simp only[show (((i+1:Nat):Int)-1).toNat=i by omega]at hc;rw[h i (by omega)]at hc;cases hc
 ·simp only[show (((i+1:Nat):Int)-1).toNat=i by omega]at hc
  exact again.mk ⟨_,by omega,i+1,rfl,rfl,rfl,fun j h hj=>by
   by_cases e:j=i
   ·subst e;simpa using hc
   ·exact hx j h (by omega)⟩
 ·exact Bd fun j h=>hx j h (by omega)
theorem Ac1 {l:List (List UInt8)} {nn:Bool} (hl:l.length<2^63):Ae (Ad tab) 149 [.sl nn (vs .str l)] (· =.bool (decide (rises l))):=by
 refine Ac rfl rfl ?_
 (conv=>whnf);repeat' (first|((first|refine kA ?_|(apply Br.mk<;>intro hc))<;>first|exact hc.elim|conv=>whnf)|refine kB ?_)
 refine Ag (fun m env s=>∃i:Nat,m=l.length-i∧env=[(0,.sl nn (vs .str l)),(3,.int .i64 (i+1:Nat))]∧s=⟨[],0⟩∧∀j (h:j+1<l.length),j<i→(Op.bytesLess l[j+1] l[j]||l[j+1]==l[j])=false) ?_ _ _ _ ⟨0,rfl,rfl,rfl,fun j _ h=>absurd h (by omega)⟩
 rintro _ _ _ ⟨i,rfl,rfl,rfl,hx⟩
 refine⟨rfl,?_⟩
 (conv=>whnf);repeat' (first|((first|refine kA ?_|(apply Br.mk<;>intro hc)|(apply Af;(· exact nVz i (by omega) (by omega))))<;>first|exact hc.elim|conv=>whnf)|refine kB ?_)
 ·exact Au fun h=>by simp only[show (((i+1:Nat):Int)-1).toNat=i by omega]at hc;rw[h i (by omega)]at hc;cases hc
 ·simp only[show (((i+1:Nat):Int)-1).toNat=i by omega]at hc
  exact again.mk ⟨_,by omega,i+1,rfl,rfl,rfl,fun j h hj=>by
   by_cases e:j=i
   ·subst e;simpa using hc
   ·exact hx j h (by omega)⟩
 ·exact Bd fun j h=>hx j h (by omega)
theorem Apw {g len:Nat} {nn cl:Bool} {l:List (List UInt8)} {x:List UInt8} {bytes:Nat} {K:Nat→Bool→Bool→List AV→Prop} (hl:len=l.length) (hr:(l.length+1)*bytes≤2 ^ 46) (h:K (len+1) true cl (vs .str (l++[x]))):
 IW g g 1 1 len nn cl true (vs .str l) [.str x] bytes K:=by
 subst hl
 refine⟨⟨rfl,rfl,by simp,XJ rfl,Jq hr⟩,?_⟩
 rw[AaC,Bool.and_true]
 simpa using h
def keysOf (P:List GP):List (List UInt8):=P.map GP.key
@[simp] theorem OL (P:List GP):(keysOf P).length=P.length:=by simp[keysOf]
theorem Vy {P:List GP} (hp:∀p∈P,p.ok):∀s∈keysOf P,s.length<2^63:=by
 intro s h
 obtain⟨p,h1,rfl⟩:=List.mem_map.1 h
 exact(hp p h1).1
theorem Ri {P:List GP} {i:Nat} (h:i<P.length):keysOf (P.take i)++[(P[i]).key]=keysOf (P.take (i+1)):=by
 rw[List.take_succ_eq_append_getElem h];unfold keysOf;rw[List.map_append];rfl
def Abc (P:List GP):Prop:=∀p∈P,Dx p.v
noncomputable instance (P:List GP):Decidable (Abc P):=Classical.propDecidable _
noncomputable def Dw (L:List (List UInt8)) (P:List GP):Int:=
 if 8<L.length∨16<P.length then 4 else if¬(Aak L∧Aak (keysOf P))then 6 else if¬(rises L∧rises (keysOf P))then 26 else if¬Abc P then 8 else 0
theorem PW {L:List (List UInt8)} {P:List GP} (h:8<L.length∨16<P.length):AV.int .i64 4=AV.int .i64 (Dw L P):=by rw[Dw,if_pos h]
theorem PX {L:List (List UInt8)} {P:List GP} (h:¬(8<L.length∨16<P.length)) (h1:¬(Aak L∧Aak (keysOf P))):AV.int .i64 6=AV.int .i64 (Dw L P):=by rw[Dw,if_neg h,if_pos h1]
theorem MO {L:List (List UInt8)} {P:List GP} (h:¬(8<L.length∨16<P.length)) (h1:Aak L∧Aak (keysOf P)) (h2:¬(rises L∧rises (keysOf P))):AV.int .i64 26=AV.int .i64 (Dw L P):=by rw[Dw,if_neg h,if_neg (not_not_intro h1),if_pos h2]
theorem WM {L:List (List UInt8)} {P:List GP} (h:¬(8<L.length∨16<P.length)) (h1:Aak L∧Aak (keysOf P)) (h2:rises L∧rises (keysOf P)) (h3:¬Abc P):AV.int .i64 8=AV.int .i64 (Dw L P):=by rw[Dw,if_neg h,if_neg (not_not_intro h1),if_neg (not_not_intro h2),if_pos h3]
theorem Abb {L:List (List UInt8)} {P:List GP} (h:¬(8<L.length∨16<P.length)) (h1:Aak L∧Aak (keysOf P)) (h2:rises L∧rises (keysOf P)) (h3:Abc P):AV.int .i64 0=AV.int .i64 (Dw L P):=by rw[Dw,if_neg h,if_neg (not_not_intro h1),if_neg (not_not_intro h2),if_neg (not_not_intro h3)]
theorem Afy {L:List (List UInt8)} {P:List GP} {ln pn:Bool} (hL:L.length<2^63) (hs:∀s∈L,s.length<2^63) (hP:P.length<2^63) (hp:∀p∈P,p.ok):Ae (Ad tab) 103 [.sl ln (vs .str L),.sl pn (vs GP.av P)] (· =.int .i64 (Dw L P)):=by
 have hk:=Vy hp
 refine Ac rfl rfl ?_
 (conv=>whnf);repeat' (first|((first|refine kA ?_|(apply Br.mk<;>intro hc))<;>first|exact hc.elim|conv=>whnf)|refine kB ?_)
 ·exact PW (by omega)
 ·exact PW (by omega)
 have h16:¬(8<L.length∨16<P.length):=by omega
 refine Ag (fun m env s=>∃(i g:Nat),m=P.length-i∧i≤P.length∧env=[(0,.sl ln (vs .str L)),(1,.sl pn (vs GP.av P)),(5,.own 0 g 0 i),(18,.sl pn (vs GP.av P)),(19,.int .i64 P.length),(20,.int .i64 i)]∧∃nn c,s=⟨[.arr g 1 nn true (vs .str (keysOf (P.take i)))],c⟩) ?_ _ _ _ ⟨0,0,rfl,by omega,rfl,_,_,rfl⟩
 rintro _ _ _ ⟨i,g,rfl,hi,rfl,nn,c,rfl⟩
 refine⟨rfl,?_⟩
 (conv=>whnf);repeat' (first|((first|refine kA ?_|(apply Br.mk<;>intro hc))<;>first|exact hc.elim|conv=>whnf)|refine kB ?_)
 ·refine Apw (by simp;omega) (by simp;omega) ?_
  (conv=>whnf);repeat' (first|((first|refine kA ?_|(apply Br.mk<;>intro hc))<;>first|exact hc.elim|conv=>whnf)|refine kB ?_)
  rw[Ri (by omega)]
  exact again.mk ⟨_,by omega,i+1,_,rfl,by omega,rfl,_,_,rfl⟩
 ·rw[BN hc]
  obtain rfl:i=P.length:=by omega
  have hu:sub (vs AV.str (keysOf P)) 0 P.length=vs .str (keysOf P):=by rw[← OL P];exact uV
  have hkl:(keysOf P).length<2^63:=by rw[OL];exact hP
  (conv=>whnf);repeat' (first|((first|refine Aq (AcY hL hs) (fun h1=>?_) (fun h1=>?_)|(rw [hu];refine Aq (AcY hkl hk) (fun h2=>?_) (fun h2=>?_))|refine Aq (Ac0 hL) (fun h3=>?_) (fun h3=>?_)|(rw [hu];refine Aq (Ac0 hkl) (fun h4=>?_) (fun h4=>?_))|refine kA ?_|(apply Br.mk<;>intro hc))<;>first|exact hc.elim|conv=>whnf)|refine kB ?_)
  ·exact PX h16 fun h=>h1 h.1
  ·exact PX h16 fun h=>h2 h.2
  ·refine Ag (fun m env s=>∃(i:Nat),m=P.length-i∧env=[(44,.sl pn (vs GP.av P)),(45,.int .i64 P.length),(46,.int .i64 i)]∧(∃ c,s=⟨[.arr g 1 nn true (vs .str (keysOf P))],c⟩)∧∀p∈P.take i,Dx p.v) ?_ _ _ _ ⟨0,rfl,rfl,⟨_,rfl⟩,by simp⟩
   clear hc hi
   rintro _ _ _ ⟨i,rfl,rfl,⟨c,rfl⟩,hx⟩
   refine⟨rfl,?_⟩
   (conv=>whnf);repeat' (first|((first|refine Aq (KH (v:=(P[i]).v) (hp _ (List.getElem_mem (by omega))).2) (fun h5=>?_) (fun h5=>?_)|refine kA ?_|(apply Br.mk<;>intro hc))<;>first|exact hc.elim|conv=>whnf)|refine kB ?_)
   ·exact again.mk ⟨_,by omega,i+1,rfl,rfl,⟨_,rfl⟩,Bl (by omega) hx h5⟩
   ·exact WM h16 ⟨Classical.not_not.1 h1,Classical.not_not.1 h2⟩ ⟨h3,h4⟩ fun h=>h5 (h _ (List.getElem_mem _))
   ·rw[BN hc]at hx
    exact Abb h16 ⟨Classical.not_not.1 h1,Classical.not_not.1 h2⟩ ⟨h3,h4⟩ hx
  ·exact MO h16 ⟨Classical.not_not.1 h1,Classical.not_not.1 h2⟩ fun h=>h4 h.2
  ·exact MO h16 ⟨Classical.not_not.1 h1,Classical.not_not.1 h2⟩ fun h=>h3 h.1
attribute [irreducible] Dw
def incr (l:List Int):Prop:=∀j (h:j+1<l.length),l[j]<l[j+1]
noncomputable instance (l:List Int):Decidable (incr l):=Classical.propDecidable _
theorem AaG {l:List Int} (h:incr l) {i:Nat}:∀d (hd:i+d+1<l.length),l[i]<l[i+d+1]
 |0,hd=>h i hd
 |d+1,hd=>Int.lt_trans (AaG h d (by omega)) (h (i+d+1) hd)
theorem AbN {l:List Int} (h:incr l) {i j:Nat} (hij:i<j) (hj:j<l.length):l[i]<l[j]:=by
 obtain⟨d,rfl⟩:∃d,j=i+d+1:=⟨j-i-1,by omega⟩
 exact AaG h d hj
def G9 (N:List GN):List Int:=N.map GN.id
def Amf (E:List GE):List Int:=E.map GE.id
@[simp] theorem Amg (N:List GN):(G9 N).length=N.length:=by simp[G9]
@[simp] theorem Amh (N:List GE):(Amf N).length=N.length:=by simp[Amf]
theorem Nu {N:List GN} {i:Nat} (h:i<N.length):(G9 N)[i]'(by simpa using h)=(N[i]).id:=by simp[G9]
theorem Zi {N:List GN} (h:incr (G9 N)) {i j:Nat} (hij:i<j) (hj:j<N.length):(N[i]).id<(N[j]).id:=by
 have:=AbN h hij (by simpa using hj)
 rwa [Nu (by omega),Nu hj]at this
theorem Aom {n:GN} {x:Int}:Ae (Ad tab) 172 [n.av,.int .i64 x] (· =.int .i64 (GK n.id x)):=by
 refine Ac rfl rfl ?_
 (conv=>whnf);repeat' (first|((first|refine kA ?_|(apply Br.mk<;>intro hc)|refine kE compare ?_)<;>first|exact hc.elim|conv=>whnf)|refine kB ?_)
 rfl
theorem bsearch {N:List GN} {nn:Bool} {x:Int} (hN:N.length<2^62) (hi:incr (G9 N)):Ae (Ad tab) 171 [.sl nn (vs GN.av N),.int .i64 x,.fn 172 []] (fun v=>∃z b,v=.BD [.int .i64 z,.bool b]∧(b=true↔x∈G9 N)):=by
 have fin:∀i:Nat,i≤N.length→(∀ k (h:k<N.length),k<i→(N[k]).id<x)→(∀ k (h:k<N.length),i≤k→x≤(N[k]).id)→(x∈G9 N↔∃h:i<N.length,(N[i]).id=x):=by
  intro i h0 h1 h2
  constructor
  ·intro h
   obtain⟨k,hk,e⟩:=List.getElem_of_mem h
   have hk':k<N.length:=by simpa using hk
   rw[Nu hk']at e
   have a1:=h1 k hk'
   have:i≤k:=by
        rcases Nat.lt_or_ge k i with h|h
        ·have:=a1 h;omega
        ·exact h
   rcases Nat.lt_or_ge i k with h|h
   ·have:=Zi hi h hk'
    have:=h2 i (by omega) (Nat.le_refl _)
    omega
   ·obtain rfl:i=k:=by omega
    exact⟨hk',e⟩
  ·rintro⟨h,e⟩
   rw[← e,←Nu h]
   exact List.getElem_mem _
 refine Ac rfl rfl ?_
 (conv=>whnf);repeat' (first|((first|refine kA ?_|(apply Br.mk<;>intro hc))<;>first|exact hc.elim|conv=>whnf)|refine kB ?_)
 refine Ag (fun m env s=>∃(i j:Nat),m=j-i∧i≤j∧j≤N.length∧env=[(0,.sl nn (vs GN.av N)),(1,.int .i64 x),(2,.fn 172 []),(8,.int .i64 N.length),(9,.int .i64 i),(10,.int .i64 j)]∧s=⟨[],0⟩∧
  (∀ k (h:k<N.length),k<i→(N[k]).id<x)∧(∀ k (h:k<N.length),j≤k→x≤(N[k]).id)) ?_ _ _ _ ⟨0,N.length,rfl,by omega,by omega,by simp,rfl,fun k _ h=>absurd h (by omega),fun k h1 h=>absurd h (by omega)⟩
 rintro _ _ _ ⟨i,j,rfl,hij,hj,rfl,rfl,h1,h2⟩
 refine⟨rfl,?_⟩
 (conv=>whnf);repeat' (first|((first|refine UQ (i+j) (by omega) (by omega) ?_|(apply Cb;(· exact Abr _))|apply kE Aom|refine kA ?_|(apply Br.mk<;>intro hc))<;>first|exact hc.elim|conv=>whnf)|refine kB ?_)
 ·have hm:=OV.1 hc
  exact again.mk ⟨_,by omega,(i+j) / 2+1,j,rfl,by omega,hj,rfl,rfl,fun k hk hlt=>by
   rcases Nat.lt_or_ge k ((i+j) / 2)with h|h
   ·exact Int.lt_trans (Zi hi h (by omega)) hm
   ·obtain rfl:k=(i+j) / 2:=by omega
    exact hm,h2⟩
 ·have hm:=mt OV.2 hc
  exact again.mk ⟨_,by omega,i,(i+j) / 2,rfl,by omega,by omega,rfl,rfl,h1,fun k hk hle=>by
   rcases Nat.lt_or_ge ((i+j) / 2) k with h|h
   ·have:=Zi hi h hk;omega
   ·obtain rfl:k=(i+j) / 2:=by omega
    omega⟩
 all_goals have hf:=fin i (by omega) h1 (fun k hk h=>h2 k hk (by omega))
 ·exact⟨_,_,rfl,fun _=>hf.2 ⟨by omega,Gj.1 hc⟩,fun _=>rfl⟩
 ·exact⟨_,_,rfl,fun h=>(Bool.noConfusion h),fun h=>absurd (Gj.2 (hf.1 h).2) hc⟩
 ·exact⟨_,_,rfl,fun h=>(Bool.noConfusion h),fun h=>absurd (hf.1 h).1 (by omega)⟩
theorem Aon {N:List GN} {nn:Bool} {x:Int} (hN:N.length<2^62) (hi:incr (G9 N)):Ae (Ad tab) 104 [.sl nn (vs GN.av N),.int .i64 x] (· =.bool (decide (x∈G9 N))):=by
 refine Ac rfl rfl ?_
 (conv=>whnf);repeat' (first|((first|refine kA ?_|(apply Br.mk<;>intro hc))<;>first|exact hc.elim|conv=>whnf)|refine kB ?_)
 refine Aa (bsearch hN hi) ?_
 rintro _ ⟨z,b,rfl,hb⟩
 (conv=>whnf);repeat' (first|((first|refine kA ?_|(apply Br.mk<;>intro hc))<;>first|exact hc.elim|conv=>whnf)|refine kB ?_)
 ·exact Bd (hb.1 hc)
 ·exact Au fun h=>by rw[hb.2 h]at hc;cases hc
def Jt (f:Nat→Int):Nat→Int
 |0=>0
 |n+1=>if Jt f n=0 then f n else Jt f n
theorem Ep {f:Nat→Int}:∀{n:Nat},Jt f n=0↔∀k,k<n→f k=0
 |0=>by simp[Jt]
 |n+1=>by
  unfold Jt
  split
  ·rename_i h
   have:=Ep.1 h
   refine⟨fun h0 k hk=>?_,fun h0=>h0 n (by omega)⟩
   rcases Nat.lt_or_ge k n with h1|h1
   ·exact this k h1
   ·obtain rfl:k=n:=by omega
    exact h0
  ·rename_i h
   exact⟨fun h0=>absurd h0 h,fun h0=>absurd (Ep.2 fun k hk=>h0 k (by omega)) h⟩
theorem QI {f:Nat→Int} {i:Nat} (h:∀k,k<i→f k=0) (hi:f i≠0):∀{n:Nat},i<n→Jt f n=f i
 |0,hn=>absurd hn (by omega)
 |n+1,hn=>by
  unfold Jt
  rcases Nat.lt_or_ge i n with h1|h1
  ·rw[QI h hi h1,if_neg hi]
  ·obtain rfl:i=n:=by omega
   rw[if_pos (Ep.2 h)]
noncomputable def Fg (N:List GN) (nx:Int) (i:Nat):Int:=
 match N[i]? with
 |none=>0
 |some n=>if 0<i∧(∃ m,N[i-1]?=some m∧n.id≤m.id)then 26 else if n.id<1∨nx≤n.id then 1 else Dw n.labels n.props
noncomputable def FM (N:List GN) (E:List GE) (nx:Int) (i:Nat):Int:=
 match E[i]? with
 |none=>0
 |some e=>if 0<i∧(∃ m,E[i-1]?=some m∧e.id≤m.id)then 26 else if e.id<1∨nx≤e.id then 1 else if¬(e.fr∈G9 N∧e.to∈G9 N)then 10 else if¬AaA e.ty then 6 else Dw [] e.props
theorem Aaa {N:List GN} {nx:Int} {i:Nat} (h:i<N.length) (h0:0<i) (h1:(N[i]).id≤(N[i-1]).id):Fg N nx i=26:=by
 unfold Fg;rw[List.getElem?_eq_getElem h];exact if_pos ⟨h0,_,List.getElem?_eq_getElem (by omega),h1⟩
theorem Abk {N:List GN} {i:Nat} (h:i<N.length) (h1:0<i→¬(N[i]).id≤(N[i-1]).id):¬(0<i∧∃m,N[i-1]?=some m∧(N[i]).id≤m.id):=by
 rintro⟨a,m,b,c⟩;rw[List.getElem?_eq_getElem (by omega)]at b;rw[← Option.some.inj b]at c;exact h1 a c
theorem node1 {N:List GN} {nx:Int} {i:Nat} (h:i<N.length) (h1:0<i→¬(N[i]).id≤(N[i-1]).id) (h2:(N[i]).id<1∨nx≤(N[i]).id):Fg N nx i=1:=by
 unfold Fg;rw[List.getElem?_eq_getElem h];dsimp only;rw[if_neg (Abk h h1),if_pos h2]
theorem XU {N:List GN} {nx:Int} {i:Nat} (h:i<N.length) (h1:0<i→¬(N[i]).id≤(N[i-1]).id) (h2:¬((N[i]).id<1∨nx≤(N[i]).id)):Fg N nx i=Dw (N[i]).labels (N[i]).props:=by
 unfold Fg;rw[List.getElem?_eq_getElem h];dsimp only;rw[if_neg (Abk h h1),if_neg h2]
theorem Py {N:List GN} {nx:Int} {i:Nat} (h:i<N.length) (h0:Fg N nx i=0):(0<i→(N[i-1]).id<(N[i]).id)∧1≤(N[i]).id∧(N[i]).id<nx∧Dw (N[i]).labels (N[i]).props=0:=by
 by_cases h1:0<i∧(N[i]).id≤(N[i-1]).id
 ·rw[Aaa h h1.1 h1.2]at h0;omega
 have h1':0<i→¬(N[i]).id≤(N[i-1]).id:=fun a b=>h1 ⟨a,b⟩
 by_cases h2:(N[i]).id<1∨nx≤(N[i]).id
 ·rw[node1 h h1' h2]at h0;omega
 rw[XU h h1' h2]at h0
 exact⟨fun a=>by have:=h1' a;omega,by omega,by omega,h0⟩
theorem Aab {N:List GN} {E:List GE} {nx:Int} {i:Nat} (h:i<E.length) (h0:0<i) (h1:(E[i]).id≤(E[i-1]).id):FM N E nx i=26:=by
 unfold FM;rw[List.getElem?_eq_getElem h];exact if_pos ⟨h0,_,List.getElem?_eq_getElem (by omega),h1⟩
theorem RP {E:List GE} {i:Nat} (h:i<E.length) (h1:0<i→¬(E[i]).id≤(E[i-1]).id):¬(0<i∧∃m,E[i-1]?=some m∧(E[i]).id≤m.id):=by
 rintro⟨a,m,b,c⟩;rw[List.getElem?_eq_getElem (by omega)]at b;rw[← Option.some.inj b]at c;exact h1 a c
theorem Afp {N:List GN} {E:List GE} {nx:Int} {i:Nat} (h:i<E.length) (h1:0<i→¬(E[i]).id≤(E[i-1]).id) (h2:(E[i]).id<1∨nx≤(E[i]).id):FM N E nx i=1:=by
 unfold FM;rw[List.getElem?_eq_getElem h];dsimp only;rw[if_neg (RP h h1),if_pos h2]
theorem Aac {N:List GN} {E:List GE} {nx:Int} {i:Nat} (h:i<E.length) (h1:0<i→¬(E[i]).id≤(E[i-1]).id) (h2:¬((E[i]).id<1∨nx≤(E[i]).id)) (h3:¬((E[i]).fr∈G9 N∧(E[i]).to∈G9 N)):FM N E nx i=10:=by
 unfold FM;rw[List.getElem?_eq_getElem h];dsimp only;rw[if_neg (RP h h1),if_neg h2,if_pos h3]
theorem Afq {N:List GN} {E:List GE} {nx:Int} {i:Nat} (h:i<E.length) (h1:0<i→¬(E[i]).id≤(E[i-1]).id) (h2:¬((E[i]).id<1∨nx≤(E[i]).id)) (h3:(E[i]).fr∈G9 N∧(E[i]).to∈G9 N) (h4:¬AaA (E[i]).ty):FM N E nx i=6:=by
 unfold FM;rw[List.getElem?_eq_getElem h];dsimp only;rw[if_neg (RP h h1),if_neg h2,if_neg (not_not_intro h3),if_pos h4]
theorem XV {N:List GN} {E:List GE} {nx:Int} {i:Nat} (h:i<E.length) (h1:0<i→¬(E[i]).id≤(E[i-1]).id) (h2:¬((E[i]).id<1∨nx≤(E[i]).id)) (h3:(E[i]).fr∈G9 N∧(E[i]).to∈G9 N) (h4:AaA (E[i]).ty):FM N E nx i=Dw [] (E[i]).props:=by
 unfold FM;rw[List.getElem?_eq_getElem h];dsimp only;rw[if_neg (RP h h1),if_neg h2,if_neg (not_not_intro h3),if_neg (not_not_intro h4)]
theorem Pz {N:List GN} {E:List GE} {nx:Int} {i:Nat} (h:i<E.length) (h0:FM N E nx i=0):(0<i→(E[i-1]).id<(E[i]).id)∧1≤(E[i]).id∧(E[i]).id<nx∧(E[i]).fr∈G9 N∧(E[i]).to∈G9 N∧AaA (E[i]).ty∧Dw [] (E[i]).props=0:=by
 by_cases h1:0<i∧(E[i]).id≤(E[i-1]).id
 ·rw[Aab h h1.1 h1.2]at h0;omega
 have h1':0<i→¬(E[i]).id≤(E[i-1]).id:=fun a b=>h1 ⟨a,b⟩
 by_cases h2:(E[i]).id<1∨nx≤(E[i]).id
 ·rw[Afp h h1' h2]at h0;omega
 by_cases h3:(E[i]).fr∈G9 N∧(E[i]).to∈G9 N
 case neg=>rw[Aac h h1' h2 h3]at h0;omega
 by_cases h4:AaA (E[i]).ty
 case neg=>rw[Afq h h1' h2 h3 h4]at h0;omega
 rw[XV h h1' h2 h3 h4]at h0
 exact⟨fun a=>by have:=h1' a;omega,by omega,by omega,h3.1,h3.2,h4,h0⟩
def Gv (g:GG):Prop:=g.nodes.length≤2000∧g.edges.length≤4000
def Hg (g:GG):Prop:=1≤g.Df∧g.Df≤1000001∧1≤g.DC∧g.DC≤1000001
instance (g:GG):Decidable (Gv g):=by unfold Gv;infer_instance
instance (g:GG):Decidable (Hg g):=by unfold Hg;infer_instance
noncomputable def AZ (g:GG):Int:=
 if¬Gv g then 4 else if¬Hg g then 1 else
  if Jt (Fg g.nodes g.Df) g.nodes.length=0 then Jt (FM g.nodes g.edges g.DC) g.edges.length else Jt (Fg g.nodes g.Df) g.nodes.length
theorem Afr {g:GG} (h:¬Gv g):AV.int .i64 4=AV.int .i64 (AZ g):=by unfold AZ;rw[if_pos h]
theorem Afs {g:GG} (h:Gv g) (h1:¬Hg g):AV.int .i64 1=AV.int .i64 (AZ g):=by unfold AZ;rw[if_neg (not_not_intro h),if_pos h1]
theorem checkN {g:GG} (h:Gv g) (h1:Hg g) {i:Nat} (hi:i<g.nodes.length) (h2:∀k,k<i→Fg g.nodes g.Df k=0) {r:Int} (h3:Fg g.nodes g.Df i=r) (hr:r≠0):AV.int .i64 r=AV.int .i64 (AZ g):=by
 subst h3
 unfold AZ
 rw[if_neg (not_not_intro h),if_neg (not_not_intro h1),QI h2 hr hi,if_neg hr]
theorem NG {g:GG} (h:Gv g) (h1:Hg g) (hn:∀k,k<g.nodes.length→Fg g.nodes g.Df k=0) {i:Nat} (hi:i<g.edges.length) (h2:∀k,k<i→FM g.nodes g.edges g.DC k=0) {r:Int} (h3:FM g.nodes g.edges g.DC i=r) (hr:r≠0):AV.int .i64 r=AV.int .i64 (AZ g):=by
 subst h3
 unfold AZ
 rw[if_neg (not_not_intro h),if_neg (not_not_intro h1),if_pos (Ep.2 hn),QI h2 hr hi]
theorem Zr {g:GG} (h:Gv g) (h1:Hg g) (hn:∀k,k<g.nodes.length→Fg g.nodes g.Df k=0) (h2:∀k,k<g.edges.length→FM g.nodes g.edges g.DC k=0):AV.int .i64 0=AV.int .i64 (AZ g):=by
 unfold AZ
 rw[if_neg (not_not_intro h),if_neg (not_not_intro h1),if_pos (Ep.2 hn),Ep.2 h2]
theorem Aad {N:List GN} {nx:Int} (h:∀k,k<N.length→Fg N nx k=0):incr (G9 N):=by
 intro j hj
 have hj':j+1<N.length:=by simpa using hj
 rw[Nu (by omega),Nu hj']
 exact(Py hj' (h _ hj')).1 (by omega)
theorem TG {g:GG} (h:AZ g=0):Gv g∧Hg g∧(∀ k,k<g.nodes.length→Fg g.nodes g.Df k=0)∧∀k,k<g.edges.length→FM g.nodes g.edges g.DC k=0:=by
 unfold AZ at h
 by_cases h1:Gv g
 case neg=>rw[if_pos h1]at h;omega
 by_cases h2:Hg g
 case neg=>rw[if_neg (not_not_intro h1),if_pos h2]at h;omega
 rw[if_neg (not_not_intro h1),if_neg (not_not_intro h2)]at h
 split at h
 ·rename_i h3
  exact⟨h1,h2,Ep.1 h3,Ep.1 h⟩
 ·rename_i h3;exact absurd h h3
attribute [irreducible] Fg FM AZ Jt
theorem weigh {ps:List GP} {nn:Bool} (hl:Ln ps) (hp:∀p∈ps,p.ok) {left:Int} (h1:-9223372036854775808≤left) (h2:left≤2000):
 Ae (Ad tab) 46 [.sl nn (vs GP.av ps),.int .i64 left] (fun v=>∃r,v=.int .i64 r∧-9223372036854775808≤r∧r≤2000∧(0≤r→r+ps.length≤left∧∀p∈ps,p.key.length≤101000∧Gx 12 p.v.av)):=by
 unfold Ln at hl
 refine Ac rfl rfl ?_
 (conv=>whnf);repeat' (first|((first|refine kA ?_|(apply Br.mk<;>intro hc))<;>first|exact hc.elim|conv=>whnf)|refine kB ?_)
 refine Ag (fun m env s=>∃(i:Nat) (cur:Int),m=ps.length-i∧env=[(0,.sl nn (vs GP.av ps)),(1,.int .i64 cur),(5,.int .i64 i)]∧s=⟨[],0⟩∧
  -9223372036854775808≤cur∧cur≤2000∧(0≤cur→cur+i≤left∧∀p∈ps.take i,p.key.length≤101000∧Gx 12 p.v.av)) ?_ _ _ _ ⟨0,_,rfl,rfl,rfl,by omega,by omega,fun h=>⟨by omega,by simp⟩⟩
 rintro _ _ _ ⟨i,cur,rfl,rfl,rfl,b1,b2,hx⟩
 refine⟨rfl,?_⟩
 have hat:∀(h:i<ps.length),(ps[i]).ok:=fun h=>hp _ (List.getElem_mem _)
 have hk:∀(h:i<ps.length),(ps[i]).key.length<2^63:=fun h=>(hat h).1
 (conv=>whnf);repeat' (first|((first|refine kA ?_|(apply Br.mk<;>intro hc)|refine VD (hk (by omega)) ?_|(have hwr:=hk (by omega);apply BI;(· exact wrap_i64 (by omega) (by omega));clear hwr))<;>first|exact hc.elim|conv=>whnf)|refine kB ?_)
 ·refine Aa (wei 12 (by omega) (hat (by omega)).2 (by have:=hk (by omega);omega) (by omega)) ?_
  rintro _ ⟨r,rfl,r1,r2,r3⟩
  (conv=>whnf);repeat' (first|((first|refine kA ?_|(apply Br.mk<;>intro hc))<;>first|exact hc.elim|conv=>whnf)|refine kB ?_)
  exact again.mk ⟨_,by omega,i+1,r,rfl,rfl,rfl,by omega,by omega,fun h=>⟨by have:=hx (by omega);have:=r3 h;omega,Bl (by omega) (hx (by omega)).2 ⟨by have:=r3 h;omega,(r3 h).2⟩⟩⟩
 ·exact⟨_,rfl,by omega,by omega,fun h=>absurd h (by omega)⟩
 ·refine⟨_,rfl,by omega,by omega,fun h=>?_⟩
  obtain⟨x1,x2⟩:=hx h
  rw[BN hc]at x2
  exact⟨by omega,x2⟩
def SmP (ps:List GP):Prop:=ps.length≤2000∧∀p∈ps,p.key.length≤101000∧Gx 12 p.v.av
def SmN (n:GN):Prop:=n.labels.length≤2000∧(∀ s∈n.labels,s.length≤101000)∧SmP n.props
def SmE (e:GE):Prop:=e.ty.length≤101000∧SmP e.props
def SmG (g:GG) (n e:Int):Prop:=g.nodes.length≤n∧g.edges.length≤e∧(∀ n∈g.nodes,SmN n)∧∀e∈g.edges,SmE e
theorem small {g:GG} (hg:g.ok) {n e:Int}:Ae (Ad tab) 22 [g.av,.int .i64 n,.int .i64 e] (fun v=>∃b,v=.bool b∧(b=true→SmG g n e)):=by
 obtain⟨g1,g2,g3,g4,g5,g6,g7,g8⟩:=hg
 unfold Ln at g1 g4
 refine Ac rfl rfl ?_
 (conv=>whnf);repeat' (first|((first|refine kA ?_|(apply Br.mk<;>intro hc))<;>first|exact hc.elim|conv=>whnf)|refine kB ?_)
 ·exact⟨_,rfl,fun h=>by cases h⟩
 ·exact⟨_,rfl,fun h=>by cases h⟩
 refine Ag (fun m env s=>∃(i c:Nat) (left:Int),m=g.nodes.length-i∧env=[(3,.ref 0 0 0 0),(7,.int .i64 left),(8,.int .i64 i)]∧s=⟨[.arr 0 4 true true [g.av]],c⟩∧-9223372036854775808≤left∧left≤2000∧(0≤left→∀n∈g.nodes.take i,SmN n)) ?_ _ _ _ ⟨0,1,2000,rfl,rfl,rfl,by omega,by omega,fun _=>by simp⟩
 rintro _ _ _ ⟨i,c,left,rfl,rfl,rfl,b1,b2,hx⟩
 refine⟨rfl,?_⟩
 have hat:∀h:i<g.nodes.length,(g.nodes[i]).ok:=fun h=>g3 _ (List.getElem_mem _)
 have hk:∀h:i<g.nodes.length,(g.nodes[i]).labels.length<2^63:=fun h=>(hat h).2.1
 (conv=>whnf);repeat' (first|((first|refine kA ?_|(apply Br.mk<;>intro hc)|(have hwr:=hk (by omega);apply BI;(· exact wrap_i64 (by omega) (by omega));clear hwr))<;>first|exact hc.elim|conv=>whnf)|refine kB ?_)
 rotate_left
 ·have hN:0≤left→∀n∈g.nodes,SmN n:=fun h=>absurd h (by omega)
  refine Ag (fun m env s=>∃(i c:Nat) (left:Int),m=g.edges.length-i∧env=[(3,.ref 0 0 0 0),(7,.int .i64 left),(11,.int .i64 i)]∧s=⟨[.arr 0 4 true true [g.av]],c⟩∧-9223372036854775808≤left∧left≤2000∧(0≤left→(∀ n∈g.nodes,SmN n)∧∀n∈g.edges.take i,SmE n)) ?_ _ _ _ ⟨0,_,left,rfl,rfl,rfl,by omega,by omega,fun h=>⟨hN h,by simp⟩⟩
  clear hN hx hat hk b1 b2 hc
  rintro _ _ _ ⟨i,c,left,rfl,rfl,rfl,b1,b2,hx⟩
  refine⟨rfl,?_⟩
  have hat:∀h:i<g.edges.length,(g.edges[i]).ok:=fun h=>g6 _ (List.getElem_mem _)
  have hk:∀h:i<g.edges.length,(g.edges[i]).ty.length<2^63:=fun h=>(hat h).2.2.2.1
  (conv=>whnf);repeat' (first|((first|refine kA ?_|(apply Br.mk<;>intro hc)|refine VD (hk (by omega)) ?_|(have hwr:=hk (by omega);apply BI;(· exact wrap_i64 (by omega) (by omega));clear hwr))<;>first|exact hc.elim|conv=>whnf)|refine kB ?_)
  ·refine Aa (weigh (hat (by omega)).2.2.2.2.1 (hat (by omega)).2.2.2.2.2.2 (by have:=hk (by omega);omega) (by omega)) ?_
   rintro _ ⟨r,rfl,r1,r2,r3⟩
   (conv=>whnf);repeat' (first|((first|refine kA ?_|(apply Br.mk<;>intro hc))<;>first|exact hc.elim|conv=>whnf)|refine kB ?_)
   have hk1:=hk (by omega)
   exact again.mk ⟨_,by omega,i+1,_,r,rfl,rfl,rfl,by omega,by omega,fun h=>⟨(hx (by omega)).1,Bl (by omega) (hx (by omega)).2 ⟨by have:=r3 h;omega,by have:=r3 h;omega,(r3 h).2⟩⟩⟩
  all_goals first
   |exact⟨_,rfl,fun h=>absurd h Bool.false_ne_true⟩
   |(refine ⟨_,rfl,fun h=>?_⟩
     rename_i hc1
     obtain⟨x1,x2⟩:=hx hc
     rw[BN hc1]at x2
     exact⟨by omega,by omega,x1,x2⟩)
 ·have hN:0≤left→∀n∈g.nodes,SmN n:=by rw[BN hc]at hx;exact hx
  refine Ag (fun m env s=>∃(i c:Nat) (left:Int),m=g.edges.length-i∧env=[(3,.ref 0 0 0 0),(7,.int .i64 left),(11,.int .i64 i)]∧s=⟨[.arr 0 4 true true [g.av]],c⟩∧-9223372036854775808≤left∧left≤2000∧(0≤left→(∀ n∈g.nodes,SmN n)∧∀n∈g.edges.take i,SmE n)) ?_ _ _ _ ⟨0,_,left,rfl,rfl,rfl,by omega,by omega,fun h=>⟨hN h,by simp⟩⟩
  clear hN hx hat hk b1 b2 hc
  rintro _ _ _ ⟨i,c,left,rfl,rfl,rfl,b1,b2,hx⟩
  refine⟨rfl,?_⟩
  have hat:∀h:i<g.edges.length,(g.edges[i]).ok:=fun h=>g6 _ (List.getElem_mem _)
  have hk:∀h:i<g.edges.length,(g.edges[i]).ty.length<2^63:=fun h=>(hat h).2.2.2.1
  (conv=>whnf);repeat' (first|((first|refine kA ?_|(apply Br.mk<;>intro hc)|refine VD (hk (by omega)) ?_|(have hwr:=hk (by omega);apply BI;(· exact wrap_i64 (by omega) (by omega));clear hwr))<;>first|exact hc.elim|conv=>whnf)|refine kB ?_)
  ·refine Aa (weigh (hat (by omega)).2.2.2.2.1 (hat (by omega)).2.2.2.2.2.2 (by have:=hk (by omega);omega) (by omega)) ?_
   rintro _ ⟨r,rfl,r1,r2,r3⟩
   (conv=>whnf);repeat' (first|((first|refine kA ?_|(apply Br.mk<;>intro hc))<;>first|exact hc.elim|conv=>whnf)|refine kB ?_)
   have hk1:=hk (by omega)
   exact again.mk ⟨_,by omega,i+1,_,r,rfl,rfl,rfl,by omega,by omega,fun h=>⟨(hx (by omega)).1,Bl (by omega) (hx (by omega)).2 ⟨by have:=r3 h;omega,by have:=r3 h;omega,(r3 h).2⟩⟩⟩
  all_goals first
   |exact⟨_,rfl,fun h=>absurd h Bool.false_ne_true⟩
   |(refine ⟨_,rfl,fun h=>?_⟩
     rename_i hc1
     obtain⟨x1,x2⟩:=hx hc
     rw[BN hc1]at x2
     exact⟨by omega,by omega,x1,x2⟩)
 refine Aa (weigh (hat (by omega)).2.2.2.2.1 (hat (by omega)).2.2.2.2.2.2 (by have:=hk (by omega);omega) (by omega)) ?_
 rintro _ ⟨r,rfl,r1,r2,r3⟩
 (conv=>whnf);repeat' (first|((first|refine kA ?_|(apply Br.mk<;>intro hc))<;>first|exact hc.elim|conv=>whnf)|refine kB ?_)
 refine Ag (fun m env s=>∃(j:Nat) (l2:Int),m=(g.nodes[i]).labels.length-j∧env=[(3,.ref 0 0 0 0),(7,.int .i64 l2),(8,.int .i64 i),(9,.ref 1 c 0 0),(10,.int .i64 j)]∧s=⟨[.arr 0 4 true true [g.av],.arr c 3 true true [(g.nodes[i]).av]],c+1⟩∧-9223372036854775808≤l2∧l2≤2000∧(0≤l2→0≤r∧∀s∈(g.nodes[i]).labels.take j,s.length≤101000)) ?_ _ _ _ ⟨0,r,rfl,rfl,rfl,by omega,by omega,fun h=>⟨h,by simp⟩⟩
 rintro _ _ _ ⟨j,l2,rfl,rfl,rfl,d1,d2,hy⟩
 refine⟨rfl,?_⟩
 have hlb:∀h:j<(g.nodes[i]).labels.length,((g.nodes[i]).labels[j]).length<2^63:=fun h=>(hat (by omega)).2.2.2.1 _ (List.getElem_mem _)
 have hk1:=hk (by omega)
 (conv=>whnf);repeat' (first|((first|refine kA ?_|(apply Br.mk<;>intro hc)|refine VD (hlb (by omega)) ?_|(have hwr:=hlb (by omega);apply BI;(· exact wrap_i64 (by omega) (by omega));clear hwr))<;>first|exact hc.elim|conv=>whnf)|refine kB ?_)
 ·have:=hlb (by omega)
  exact again.mk ⟨_,by omega,j+1,_,rfl,rfl,rfl,by omega,by omega,fun h=>⟨(hy (by omega)).1,Bl (by omega) (hy (by omega)).2 (by omega)⟩⟩
 ·exact again.mk ⟨_,by omega,i+1,_,l2,rfl,rfl,rfl,by omega,by omega,fun h=>absurd h (by omega)⟩
 ·refine again.mk ⟨_,by omega,i+1,_,l2,rfl,rfl,rfl,by omega,by omega,fun h=>?_⟩
  obtain⟨y1,y2⟩:=hy h
  rw[BN hc]at y2
  have:=r3 y1
  exact Bl (by omega) (hx (by omega)) ⟨by omega,y2,by omega,this.2⟩
def V0:GV:=⟨0,0,0,[],false,[]⟩
def isK (k:List UInt8) (p:GP):Bool:=decide (p.key=k)
def Yo (l:List GP) (k:List UInt8):AV:=match l.find? (isK k)with
 |some n=>n.v.av
 |none=>V0.av
theorem propB {l:List GP} {nn:Bool} (hl:l.length<2^63) {k:List UInt8}:Ae (Ad tab) 44 [.sl nn (vs GP.av l),.str k] (· =Yo l k):=by
 refine Ac rfl rfl ?_
 (conv=>whnf);repeat' (first|((first|refine kA ?_|(apply Br.mk<;>intro hc))<;>first|exact hc.elim|conv=>whnf)|refine kB ?_)
 refine Ag (fun m env s=>∃i:Nat,m=l.length-i∧(∀ x∈l.take i,isK k x=false)∧env=[(0,.sl nn (vs GP.av l)),(1,.str k),(4,.ref 0 0 0 0),(5,.int .i64 i)]∧s=⟨[.arr 0 5 true true [.agg [.int .i64 0,.int .i64 0,.int .i64 0,.str [],.sl false []]]],1⟩) ?_ _ _ _ ⟨0,rfl,by simp,rfl,rfl⟩
 rintro _ _ _ ⟨i,rfl,hx,rfl,rfl⟩
 refine⟨rfl,?_⟩
 (conv=>whnf);repeat' (first|((first|refine kA ?_|(apply Br.mk<;>intro hc))<;>first|exact hc.elim|conv=>whnf)|refine kB ?_)
 ·rw[Yo,O8 (by omega) hx (decide_eq_true hc)];rfl
 ·exact again.mk ⟨_,by omega,i+1,rfl,WT (by omega) hx (decide_eq_false hc),rfl,rfl⟩
 ·rw[BN hc]at hx
  rw[Yo,WS hx];rfl
theorem Aix:Ae (Ad tab) 99 [] (· =V0.av):=by
 refine Ac rfl rfl ?_
 (conv=>whnf);repeat' (first|((first|refine kA ?_|(apply Br.mk<;>intro hc))<;>first|exact hc.elim|conv=>whnf)|refine kB ?_)
 rfl
theorem Aiw {l:List GP} {nn:Bool} (hl:l.length<2^63) (hg:∀p∈l,p.ok∧Gx 12 p.v.av) {k:List UInt8}:Ae (Ad tab) 113 [.sl nn (vs GP.av l),.str k] (· =Yo l k):=by
 refine Ac rfl rfl ?_
 (conv=>whnf);repeat' (first|((first|refine kA ?_|(apply Br.mk<;>intro hc))<;>first|exact hc.elim|conv=>whnf)|refine kB ?_)
 refine Ag (fun m env s=>∃i c:Nat,m=l.length-i∧(∀ x∈l.take i,isK k x=false)∧env=[(1,.str k),(4,.ref 0 0 0 0),(7,.sl nn (vs GP.av l)),(8,.int .i64 l.length),(9,.int .i64 i)]∧s=⟨[.arr 0 5 true true [.agg [.int .i64 0,.int .i64 0,.int .i64 0,.str [],.sl false []]]],c⟩) ?_ _ _ _ ⟨0,_,rfl,by simp,by rw[← lV (f:=GP.av) l];rfl,rfl⟩
 rintro _ _ _ ⟨i,c,rfl,hx,rfl,rfl⟩
 refine⟨rfl,?_⟩
 have ho:∀h:i<l.length,(l[i]).v.ok∧Gx 12 (l[i]).v.av:=fun h=>⟨(hg _ (List.getElem_mem h)).1.2,(hg _ (List.getElem_mem h)).2⟩
 (conv=>whnf);repeat' (first|((first|refine kA ?_|(apply Br.mk<;>intro hc)|apply kE (RZ 12 (g:=l[i].v) (ho (by omega)).1 (ho (by omega)).2)|refine kE Aix ?_)<;>first|exact hc.elim|conv=>whnf)|refine kB ?_)
 ·rw[Yo,O8 (by omega) hx (decide_eq_true hc)];rfl
 ·exact again.mk ⟨_,by omega,i+1,_,rfl,WT (by omega) hx (decide_eq_false hc),rfl,rfl⟩
 ·rw[BN hc]at hx
  rw[Yo,WS hx];rfl
end AI
end Go.Proofs.YtjijnamhalgamaaGreatDoor
