/- Names: the program's and the reference's. value.Plain and the reference's Plain: which values may be stored. Names in a list, increasing strings, labels and properties. What is wrong with labels and properties. Looking for a node among increasing ids. graph.Check: the first error of a graph. graph.Check, walked. -/
import Derived.Test.YtchcadfjbkkgmaaGreatDoorDMag
import Derived.Test.YtchcadfjbkkgmaaGreatDoorDMab
import Derived.Test.YtchcadfjbkkgmaaGreatDoorDMae
set_option linter.unusedVariables false
set_option maxRecDepth 4000
namespace Go.Proofs.YtchcadfjbkkgmaaGreatDoor
namespace AI
def Du (c:Int):Prop:=(97≤c∧c≤122)∨(65≤c∧c≤90)
instance (c:Int):Decidable (Du c):=by unfold Du;infer_instance
theorem Abc {c:Int}:Ah (Ac tab) 102 [.int .u8 c] (· =.bool (decide (Du c))):=by
 refine Ad rfl rfl ?_
 (conv=>whnf);repeat' (first|(refine kA ?_;conv=>whnf)|(refine Br.mk (fun hc=>?_) fun hc=>?_<;>first|exact hc.elim|conv=>whnf)  |(refine kB ?_))
 all_goals first|exact BN (by unfold Du;omega)|exact Bf (by unfold Du;omega)
theorem Abd {c:Int}:Ah (Ac tab) 118 [.int .u8 c] (· =.bool (decide (Du c))):=by
 refine Ad rfl rfl ?_
 (conv=>whnf);repeat' (first|(refine kA ?_;conv=>whnf)|(refine Br.mk (fun hc=>?_) fun hc=>?_<;>first|exact hc.elim|conv=>whnf)  |(refine kB ?_))
 all_goals first|exact BN (by unfold Du;omega)|exact Bf (by unfold Du;omega)
def Hu (c:Int):Prop:=Du c∨(48≤c∧c≤57)∨c=95
instance (c:Int):Decidable (Hu c):=by unfold Hu;infer_instance
def isName (s:List UInt8):Prop:=0<s.length∧s.length≤20∧(∀ c,s[0]?=some c→Du c.toNat)∧∀c∈s,Hu c.toNat
instance (s:List UInt8):Decidable (isName s):=by unfold isName;infer_instance
theorem Nu {s:List UInt8} (hs:0<s.length) (h:isName s):Du s[0].toNat:=h.2.2.1 _ (List.getElem?_eq_getElem hs)
theorem VA {s:List UInt8} {i:Nat} (hi:i<s.length) (h:isName s):Hu s[i].toNat:=h.2.2.2 _ (List.getElem_mem _)
theorem AiC {s:List UInt8} (hs:0<s.length) (h:Hu s[0].toNat):∀c∈s.take 1,Hu c.toNat:=by
 cases s with
 |nil=>simp at hs
 |cons a l=>simpa using h
theorem name1 {s:List UInt8} (hl:s.length<2^63):Ah (Ac tab) 62 [.str s] (· =.bool (decide (isName s))):=by
 by_cases h0:s.length=0
 ·obtain rfl:s=[]:=List.length_eq_zero_iff.1 h0
  refine Ad rfl rfl ?_
  (conv=>whnf);repeat' (first|(refine kA ?_;conv=>whnf)|(refine Br.mk (fun hc=>?_) fun hc=>?_<;>first|exact hc.elim|conv=>whnf)  |(refine kB ?_))
  all_goals exact Bf (by simp[isName])
 have hs:0<s.length:=by omega
 have hne:s≠[]:=by rintro rfl;simp at h0
 have hz:s[0]?=some s[0]:=List.getElem?_eq_getElem hs
 refine Ad rfl rfl ?_
 (conv=>whnf);repeat' (first|(refine kA ?_;conv=>whnf)|(refine Br.mk (fun hc=>?_) fun hc=>?_<;>first|exact hc.elim|conv=>whnf)|(refine CP (Abc) (fun hc=>?_) (fun hc=>?_)<;>conv=>whnf)|(refine kB ?_))
 all_goals first|exact absurd hc hne|exact Bf (by unfold isName;omega)|exact Bf fun h=>hc (Nu hs h)|skip
 refine Ai (fun m env s'=>∃i:Nat,m=s.length-i∧env=[(0,.str s),(18,.int .i64 s.length),(19,.int .i64 i)]∧s'=⟨[],0⟩∧∀c∈s.take i,Hu c.toNat) ?_ _ _ _ ⟨0,rfl,by simp,rfl,by simp⟩
 rintro _ _ _ ⟨i,rfl,rfl,rfl,hx⟩
 refine⟨rfl,?_⟩
 (conv=>whnf);repeat' (first|(refine kA ?_;conv=>whnf)|(refine Br.mk (fun hc=>?_) fun hc=>?_<;>first|exact hc.elim|conv=>whnf)|(refine CP (Abc) (fun hc=>?_) (fun hc=>?_)<;>conv=>whnf)|(refine kB ?_))
 all_goals first
  |exact again.mk ⟨_,by omega,i+1,rfl,rfl,rfl,BG (by omega) hx (by unfold Hu Du at *;omega)⟩
  |(refine Bf fun h=>?_;have:=VA (i:=i) (by omega) h;unfold Hu Du at *;omega)
  |(rename_i hc1;exact BN ⟨hs,by omega,fun c h=>by rw[hz]at h;cases h;assumption,by rw[Di hc]at hx;exact hx⟩)
theorem name2 {s:List UInt8} (hl:s.length<2^63):Ah (Ac tab) 81 [.str s] (· =.bool (decide (isName s))):=by
 by_cases h0:s.length=0
 ·obtain rfl:s=[]:=List.length_eq_zero_iff.1 h0
  refine Ad rfl rfl ?_
  (conv=>whnf);repeat' (first|(refine kA ?_;conv=>whnf)|(refine Br.mk (fun hc=>?_) fun hc=>?_<;>first|exact hc.elim|conv=>whnf)  |(refine kB ?_))
  all_goals exact Bf (by simp[isName])
 have hs:0<s.length:=by omega
 have hne:s≠[]:=by rintro rfl;simp at h0
 have hz:s[0]?=some s[0]:=List.getElem?_eq_getElem hs
 refine Ad rfl rfl ?_
 (conv=>whnf);repeat' (first|(refine kA ?_;conv=>whnf)|(refine Br.mk (fun hc=>?_) fun hc=>?_<;>first|exact hc.elim|conv=>whnf)|(refine CP (Abd) (fun hc=>?_) (fun hc=>?_)<;>conv=>whnf)|(refine kB ?_))
 all_goals first|exact absurd hc hne|exact Bf (by unfold isName;omega)|exact Bf fun h=>hc (Nu hs h)|skip
 refine Ai (fun m env s'=>∃i:Nat,m=s.length-i∧env=[(0,.str s),(3,.int .i64 i)]∧s'=⟨[],0⟩∧∀c∈s.take i,Hu c.toNat) ?_ _ _ _ ⟨1,rfl,rfl,rfl,AiC hs (Or.inl hc)⟩
 rintro _ _ _ ⟨i,rfl,rfl,rfl,hx⟩
 refine⟨rfl,?_⟩
 (conv=>whnf);repeat' (first|(refine kA ?_;conv=>whnf)|(refine Br.mk (fun hc=>?_) fun hc=>?_<;>first|exact hc.elim|conv=>whnf)|(refine CP (Abd) (fun hc=>?_) (fun hc=>?_)<;>conv=>whnf)|(refine kB ?_))
 all_goals first
  |exact again.mk ⟨_,by omega,i+1,rfl,rfl,rfl,BG (by omega) hx (by unfold Hu Du at *;omega)⟩
  |(refine Bf fun h=>?_;have:=VA (i:=i) (by omega) h;unfold Hu Du at *;omega)
  |(rename_i hc1;exact BN ⟨hs,by omega,fun c h=>by rw[hz]at h;cases h;assumption,by rw[Di hc]at hx;exact hx⟩)
theorem Qd {AP:Nat→Option Hy} {f:Nat} {sp:List AV→Aj→Option (AA×Aj)} {args:List AV} {R:AV→Prop} {v v':AV} {s:Aj} (hf:AP f=some (.ext sp)) (h:sp args ⟨[],0⟩=some (.ok v,s)) (hs:snap s.σ EY v=some v') (hR:R v'):Ah AP f args R:=
 ⟨v',⟨1,by simp only[CB,run,hf,h];exact hs⟩,hR⟩
theorem ixP {l:List UInt8}:Ah (Ac tab) 185 [.str l,.fn 186 []] (· =.int .i64 (JJ l)):=
 Qd rfl rfl rfl rfl
theorem Pj {l:List UInt8}:JJ l<0↔∀c∈l,OH c=false:=by
 unfold JJ
 cases h:List.findIdx? OH l with
 |none=>
  refine⟨fun _ c hc=>?_,fun _=>by decide⟩
  have:=List.findIdx?_eq_none_iff.1 h c hc
  simpa using this
 |some i=>
  refine⟨fun h=>?_,fun ha=>?_⟩
  ·simp at h;omega
  ·obtain⟨h1,h2,_⟩:=List.findIdx?_eq_some_iff_getElem.1 h
   rw[ha _ (List.getElem_mem h1)]at h2
   cases h2
def KL (n:Int):Prop:=-1000000000000000≤n∧n≤1000000000000000
instance (n:Int):Decidable (KL n):=by unfold KL;infer_instance
theorem inP {n:Int}:Ah (Ac tab) 68 [.int .i64 n] (· =.bool (decide (KL n))):=by
 refine Ad rfl rfl ?_
 (conv=>whnf);repeat' (first|(refine kA ?_;conv=>whnf)|(refine Br.mk (fun hc=>?_) fun hc=>?_<;>first|exact hc.elim|conv=>whnf)  |(refine kB ?_))
 all_goals first|exact BN (by unfold KL;omega)|exact Bf (by unfold KL;omega)
theorem Amn {n:Int}:Ah (Ac tab) 190 [.int .i64 n] (· =.bool (decide (KL n))):=by
 refine Ad rfl rfl ?_
 (conv=>whnf);repeat' (first|(refine kA ?_;conv=>whnf)|(refine Br.mk (fun hc=>?_) fun hc=>?_<;>first|exact hc.elim|conv=>whnf)  |(refine kB ?_))
 all_goals first|exact BN (by unfold KL;omega)|exact Bf (by unfold KL;omega)
def okS (s:List UInt8):Prop:=s.length≤100∧∀c∈s,OH c=false
instance (s:List UInt8):Decidable (okS s):=by unfold okS;infer_instance
def Ew (v:GV):Prop:=v.d=0∧v.l.length=0∧(v.k=1∧v.s=[]∧(v.n=0∨v.n=1)∨v.k=2∧v.s=[]∧KL v.n∨v.k=4∧v.n=0∧okS v.s)
instance (v:GV):Decidable (Ew v):=by unfold Ew;infer_instance
def IY (v:GV):Prop:=v.k=1∨v.k=2∨v.k=4
instance (v:GV):Decidable (IY v):=by unfold IY;infer_instance
theorem Vl {v:GV} (h:Ew v):IY v:=by unfold Ew at h;unfold IY;omega
theorem Ah4 {v:GV} (h:v.k=1) (h1:v.d=0) (h2:v.l.length=0) (h3:v.s=[]) (h4:v.n=0∨v.n=1):Ew v:=⟨h1,h2,.inl ⟨h,h3,h4⟩⟩
theorem Ah5 {v:GV} (h:v.k=2) (h1:v.d=0) (h2:v.l.length=0) (h3:v.s=[]) (h4:KL v.n):Ew v:=⟨h1,h2,.inr (.inl ⟨h,h3,h4⟩)⟩
theorem Ah6 {v:GV} (h:v.k=4) (h1:v.d=0) (h2:v.l.length=0) (h3:v.n=0) (h4:okS v.s):Ew v:=⟨h1,h2,.inr (.inr ⟨h,h3,h4⟩)⟩
theorem Ah7 {v:GV} (h:Ew v) (hk:v.k≠4):v.s=[]:=by
 obtain⟨_,_,h⟩:=h
 rcases h with h|h|h
 ·exact h.2.1
 ·exact h.2.1
 ·exact absurd h.1 hk
theorem Ah8 {v:GV} (h:Ew v) (hk:v.k=1):v.n=0∨v.n=1:=by
 obtain⟨_,_,h⟩:=h;omega
theorem Ah9 {v:GV} (h:Ew v) (hk:v.k=2):KL v.n:=by
 obtain⟨_,_,h⟩:=h
 rcases h with h|h|h<;>first|exact h.2.2|omega
theorem Aec {v:GV} (h:Ew v) (hk:v.k=4):v.n=0∧okS v.s:=by
 obtain⟨_,_,h⟩:=h
 rcases h with h|h|h<;>first|exact h.2|omega
theorem vld {v:GV} (hv:v.ok) (hk:IY v) {n:Int}:Ah (Ac tab) 157 [v.av,.int .i64 n] (· =.bool (decide (Ew v))):=by
 obtain⟨g1,g2,g3,g4,g5,g6,g7⟩:=hv
 unfold Ln at g4 g5
 unfold IY at hk
 refine Ad rfl rfl ?_
 (conv=>whnf);repeat' (first|(refine kA ?_;conv=>whnf)|(refine Br.mk (fun hc=>?_) fun hc=>?_<;>first|exact hc.elim|conv=>whnf)|(refine CP (inP (n:=v.n)) (fun hr=>?_) (fun hr=>?_)<;>conv=>whnf)|(refine Aa (ixP (l:=v.s)) ?_;rintro _ rfl;conv=>whnf)|(refine kB ?_))
 all_goals first
  |exact Bf (fun h=>by have:=h.2.1;omega)
  |(refine BN ?_;clear g7 g6;unfold Ew okS;rw[← Pj];first|(simp_all;done)|(simp_all;omega))
  |(refine Bf ?_;clear g7 g6;unfold Ew okS;rw[← Pj];first|(simp_all;done)|(simp_all;omega))
theorem AmF {v:GV} (hv:v.ok) (hk:IY v):Ah (Ac tab) 133 [v.av] (· =.bool (decide (Ew v))):=by
 refine Ad rfl rfl ?_
 (conv=>whnf);repeat' (first|(refine kA ?_;conv=>whnf)|(refine Br.mk (fun hc=>?_) fun hc=>?_<;>first|exact hc.elim|conv=>whnf)|(refine CP (vld (v:=v) hv hk) (fun hr=>?_) (fun hr=>?_)<;>conv=>whnf)|(refine kB ?_))
 all_goals first|exact BN (by assumption)|exact Bf (by assumption)
theorem Aiq {v:GV} (hv:v.ok):Ah (Ac tab) 98 [v.av] (· =.bool (decide (Ew v))):=by
 refine Ad rfl rfl ?_
 (conv=>whnf);repeat' (first|(refine kA ?_;conv=>whnf)|(refine Br.mk (fun hc=>?_) fun hc=>?_<;>first|exact hc.elim|conv=>whnf)|(refine CP (AmF (v:=v) hv (by unfold IY;omega)) (fun hr=>?_) (fun hr=>?_)<;>conv=>whnf)|(refine kB ?_))
 all_goals first|exact BN (by assumption)|exact Bf (by assumption)|exact Bf fun h=>absurd (Vl h) (by unfold IY;omega)
def allNames (l:List (List UInt8)):Prop:=∀s∈l,isName s
noncomputable instance (l:List (List UInt8)):Decidable (allNames l):=Classical.propDecidable _
def rises (l:List (List UInt8)):Prop:=∀j (h:j+1<l.length),(Op.bytesLess l[j+1] l[j]||l[j+1]==l[j])=false
noncomputable instance (l:List (List UInt8)):Decidable (rises l):=Classical.propDecidable _
theorem unn {s:List UInt8} (hl:s.length<2^63):Ah (Ac tab) 96 [.str s] (· =.bool (decide (¬ isName s))):=by
 refine Ad rfl rfl ?_
 (conv=>whnf);repeat' (first|(refine kA ?_;conv=>whnf)|(refine Br.mk (fun hc=>?_) fun hc=>?_<;>first|exact hc.elim|conv=>whnf)|(refine CP (name1 hl) (fun hr=>?_) (fun hr=>?_)<;>conv=>whnf)|(refine kB ?_))
 ·exact Bf (fun h=>h hr)
 ·exact BN hr
theorem AjW {l:List (List UInt8)} {nn:Bool} (hl:l.length<2^63) (hs:∀s∈l,s.length<2^63):Ah (Ac tab) 132 [.sl nn (vs .str l),.fn 96 []] (fun v=>∃z,v=.int .i64 z∧(0≤z↔¬allNames l)):=by
 refine Ad rfl rfl ?_
 (conv=>whnf);repeat' (first|(refine kA ?_;conv=>whnf)|(refine Br.mk (fun hc=>?_) fun hc=>?_<;>first|exact hc.elim|conv=>whnf)  |(refine kB ?_))
 refine Ai (fun m env s=>∃i:Nat,m=l.length-i∧env=[(0,.sl nn (vs .str l)),(1,.fn 96 []),(7,.int .i64 l.length),(8,.int .i64 i)]∧s=⟨[],0⟩∧∀s∈l.take i,isName s) ?_ _ _ _ ⟨0,rfl,by simp,rfl,by simp⟩
 rintro _ _ _ ⟨i,rfl,rfl,rfl,hx⟩
 refine⟨rfl,?_⟩
 (conv=>whnf);repeat' (first|(refine kA ?_;conv=>whnf)|(refine Br.mk (fun hc=>?_) fun hc=>?_<;>first|exact hc.elim|conv=>whnf)|(refine CP (unn (hs _ (List.getElem_mem (by omega)))) (fun hr=>?_) (fun hr=>?_)<;>conv=>whnf)|(refine kB ?_))
 ·exact⟨_,rfl,fun _ h=>hr (h _ (List.getElem_mem _)),fun _=>by omega⟩
 ·exact again.mk ⟨_,by omega,i+1,rfl,rfl,rfl,BG (by omega) hx (Decidable.of_not_not hr)⟩
 ·rw[Di hc]at hx;exact⟨_,rfl,fun h=>absurd h (by omega),fun h=>absurd hx h⟩
theorem Ad7 {l:List (List UInt8)} {nn:Bool} (hl:l.length<2^63) (hs:∀s∈l,s.length<2^63):Ah (Ac tab) 95 [.sl nn (vs .str l),.fn 96 []] (· =.bool (decide (¬ allNames l))):=by
 refine Ad rfl rfl ?_
 (conv=>whnf);repeat' (first|(refine kA ?_;conv=>whnf)|(refine Br.mk (fun hc=>?_) fun hc=>?_<;>first|exact hc.elim|conv=>whnf)  |(refine kB ?_))
 refine Aa (AjW hl hs) ?_
 rintro _ ⟨z,rfl,hz⟩
 (conv=>whnf);repeat' (first|(refine kA ?_;conv=>whnf)|(refine Br.mk (fun hc=>?_) fun hc=>?_<;>first|exact hc.elim|conv=>whnf)  |(refine kB ?_))
 ·exact BN (hz.1 hc)
 ·exact Bf (mt hz.2 hc)
theorem Ad8 {l:List (List UInt8)} {nn:Bool} (hl:l.length<2^63) (hs:∀s∈l,s.length<2^63):Ah (Ac tab) 115 [.sl nn (vs .str l)] (· =.bool (decide (allNames l))):=by
 refine Ad rfl rfl ?_
 (conv=>whnf);repeat' (first|(refine kA ?_;conv=>whnf)|(refine Br.mk (fun hc=>?_) fun hc=>?_<;>first|exact hc.elim|conv=>whnf)  |(refine kB ?_))
 refine Ai (fun m env s=>∃i:Nat,m=l.length-i∧env=[(0,.sl nn (vs .str l)),(3,.int .i64 i)]∧s=⟨[],0⟩∧∀s∈l.take i,isName s) ?_ _ _ _ ⟨0,rfl,rfl,rfl,by simp⟩
 rintro _ _ _ ⟨i,rfl,rfl,rfl,hx⟩
 refine⟨rfl,?_⟩
 (conv=>whnf);repeat' (first|(refine kA ?_;conv=>whnf)|(refine Br.mk (fun hc=>?_) fun hc=>?_<;>first|exact hc.elim|conv=>whnf)|(refine CP (name2 (hs _ (List.getElem_mem (by omega)))) (fun hr=>?_) (fun hr=>?_)<;>conv=>whnf)|(refine kB ?_))
 ·exact again.mk ⟨_,by omega,i+1,rfl,rfl,rfl,BG (by omega) hx hr⟩
 ·exact Bf fun h=>hr (h _ (List.getElem_mem _))
 ·rw[Di hc]at hx;exact BN hx
theorem Ad9 {l:List (List UInt8)} {nn:Bool} (hl:l.length<2^63):Ah (Ac tab) 97 [.sl nn (vs .str l)] (· =.bool (decide (rises l))):=by
 refine Ad rfl rfl ?_
 (conv=>whnf);repeat' (first|(refine kA ?_;conv=>whnf)|(refine Br.mk (fun hc=>?_) fun hc=>?_<;>first|exact hc.elim|conv=>whnf)  |(refine kB ?_))
 refine Ai (fun m env s=>∃i:Nat,m=l.length-i∧env=[(0,.sl nn (vs .str l)),(3,.int .i64 (i+1:Nat))]∧s=⟨[],0⟩∧∀j (h:j+1<l.length),j<i→(Op.bytesLess l[j+1] l[j]||l[j+1]==l[j])=false) ?_ _ _ _ ⟨0,rfl,rfl,rfl,fun j _ h=>absurd h (by omega)⟩
 rintro _ _ _ ⟨i,rfl,rfl,rfl,hx⟩
 refine⟨rfl,?_⟩
 (conv=>whnf);repeat' (first|(refine kA ?_;conv=>whnf)|(refine Br.mk (fun hc=>?_) fun hc=>?_<;>first|exact hc.elim|conv=>whnf)|(apply Au;(· exact nVz i (by omega) (by omega));conv=>whnf)|(refine kB ?_))
 ·exact Bf fun h=>by simp only[show (((i+1:Nat):Int)-1).toNat=i by omega]at hc;rw[h i (by omega)]at hc;cases hc
 ·simp only[show (((i+1:Nat):Int)-1).toNat=i by omega]at hc
  exact again.mk ⟨_,by omega,i+1,rfl,rfl,rfl,fun j h hj=>by
   by_cases e:j=i
   ·subst e;simpa using hc
   ·exact hx j h (by omega)⟩
 ·exact BN fun j h=>hx j h (by omega)
theorem Aea {l:List (List UInt8)} {nn:Bool} (hl:l.length<2^63):Ah (Ac tab) 116 [.sl nn (vs .str l)] (· =.bool (decide (rises l))):=by
 refine Ad rfl rfl ?_
 (conv=>whnf);repeat' (first|(refine kA ?_;conv=>whnf)|(refine Br.mk (fun hc=>?_) fun hc=>?_<;>first|exact hc.elim|conv=>whnf)  |(refine kB ?_))
 refine Ai (fun m env s=>∃i:Nat,m=l.length-i∧env=[(0,.sl nn (vs .str l)),(3,.int .i64 (i+1:Nat))]∧s=⟨[],0⟩∧∀j (h:j+1<l.length),j<i→(Op.bytesLess l[j+1] l[j]||l[j+1]==l[j])=false) ?_ _ _ _ ⟨0,rfl,rfl,rfl,fun j _ h=>absurd h (by omega)⟩
 rintro _ _ _ ⟨i,rfl,rfl,rfl,hx⟩
 refine⟨rfl,?_⟩
 (conv=>whnf);repeat' (first|(refine kA ?_;conv=>whnf)|(refine Br.mk (fun hc=>?_) fun hc=>?_<;>first|exact hc.elim|conv=>whnf)|(apply Au;(· exact nVz i (by omega) (by omega));conv=>whnf)|(refine kB ?_))
 ·exact Bf fun h=>by simp only[show (((i+1:Nat):Int)-1).toNat=i by omega]at hc;rw[h i (by omega)]at hc;cases hc
 ·simp only[show (((i+1:Nat):Int)-1).toNat=i by omega]at hc
  exact again.mk ⟨_,by omega,i+1,rfl,rfl,rfl,fun j h hj=>by
   by_cases e:j=i
   ·subst e;simpa using hc
   ·exact hx j h (by omega)⟩
 ·exact BN fun j h=>hx j h (by omega)
theorem AmG {g len:Nat} {nn cl:Bool} {l:List (List UInt8)} {x:List UInt8} {bytes:Nat} {K:Nat→Bool→Bool→List AV→Prop} (hl:len=l.length) (hr:(l.length+1)*bytes≤2 ^ 46) (h:K (len+1) true cl (vs .str (l++[x]))):
 WJ g g 1 1 len nn cl true (vs .str l) [.str x] bytes K:=by
 subst hl
 refine⟨⟨rfl,rfl,by simp,Yl rfl,Tt hr⟩,?_⟩
 rw[Aax,Bool.and_true]
 simpa using h
def keysOf (P:List GP):List (List UInt8):=P.map GP.key
@[simp] theorem NZ (P:List GP):(keysOf P).length=P.length:=by simp[keysOf]
theorem Vm {P:List GP} (hp:∀p∈P,p.ok):∀s∈keysOf P,s.length<2^63:=by
 intro s h
 obtain⟨p,h1,rfl⟩:=List.mem_map.1 h
 exact(hp p h1).1
theorem QA {P:List GP} {i:Nat} (h:i<P.length):keysOf (P.take i)++[(P[i]).key]=keysOf (P.take (i+1)):=by
 rw[List.take_succ_eq_append_getElem h];unfold keysOf;rw[List.map_append];rfl
def allPlain (P:List GP):Prop:=∀p∈P,Ew p.v
noncomputable instance (P:List GP):Decidable (allPlain P):=Classical.propDecidable _
noncomputable def DF (L:List (List UInt8)) (P:List GP):Int:=
 if 8<L.length∨16<P.length then 4 else if¬(allNames L∧allNames (keysOf P))then 6 else if¬(rises L∧rises (keysOf P))then 26 else if¬allPlain P then 8 else 0
theorem Rq {L:List (List UInt8)} {P:List GP} (h:8<L.length∨16<P.length):AV.int .i64 4=AV.int .i64 (DF L P):=by rw[DF,if_pos h]
theorem Rt {L:List (List UInt8)} {P:List GP} (h:¬(8<L.length∨16<P.length)) (h1:¬(allNames L∧allNames (keysOf P))):AV.int .i64 6=AV.int .i64 (DF L P):=by rw[DF,if_neg h,if_pos h1]
theorem O7 {L:List (List UInt8)} {P:List GP} (h:¬(8<L.length∨16<P.length)) (h1:allNames L∧allNames (keysOf P)) (h2:¬(rises L∧rises (keysOf P))):AV.int .i64 26=AV.int .i64 (DF L P):=by rw[DF,if_neg h,if_neg (not_not_intro h1),if_pos h2]
theorem AaM {L:List (List UInt8)} {P:List GP} (h:¬(8<L.length∨16<P.length)) (h1:allNames L∧allNames (keysOf P)) (h2:rises L∧rises (keysOf P)) (h3:¬allPlain P):AV.int .i64 8=AV.int .i64 (DF L P):=by rw[DF,if_neg h,if_neg (not_not_intro h1),if_neg (not_not_intro h2),if_pos h3]
theorem AaN {L:List (List UInt8)} {P:List GP} (h:¬(8<L.length∨16<P.length)) (h1:allNames L∧allNames (keysOf P)) (h2:rises L∧rises (keysOf P)) (h3:allPlain P):AV.int .i64 0=AV.int .i64 (DF L P):=by rw[DF,if_neg h,if_neg (not_not_intro h1),if_neg (not_not_intro h2),if_neg (not_not_intro h3)]
theorem Ac7 {L:List (List UInt8)} {P:List GP} {ln pn:Bool} (hL:L.length<2^63) (hs:∀s∈L,s.length<2^63) (hP:P.length<2^63) (hp:∀p∈P,p.ok):Ah (Ac tab) 60 [.sl ln (vs .str L),.sl pn (vs GP.av P)] (· =.int .i64 (DF L P)):=by
 have hk:=Vm hp
 refine Ad rfl rfl ?_
 (conv=>whnf);repeat' (first|(refine kA ?_;conv=>whnf)|(refine Br.mk (fun hc=>?_) fun hc=>?_<;>first|exact hc.elim|conv=>whnf)  |(refine kB ?_))
 ·exact Rq (by omega)
 ·exact Rq (by omega)
 have h16:¬(8<L.length∨16<P.length):=by omega
 refine Ai (fun m env s=>∃(i g:Nat),m=P.length-i∧i≤P.length∧env=[(0,.sl ln (vs .str L)),(1,.sl pn (vs GP.av P)),(5,.own 0 g 0 i),(18,.sl pn (vs GP.av P)),(19,.int .i64 P.length),(20,.int .i64 i)]∧∃nn c,s=⟨[.arr g 1 nn true (vs .str (keysOf (P.take i)))],c⟩) ?_ _ _ _ ⟨0,0,rfl,by omega,rfl,_,_,rfl⟩
 rintro _ _ _ ⟨i,g,rfl,hi,rfl,nn,c,rfl⟩
 refine⟨rfl,?_⟩
 (conv=>whnf);repeat' (first|(refine kA ?_;conv=>whnf)|(refine Br.mk (fun hc=>?_) fun hc=>?_<;>first|exact hc.elim|conv=>whnf)  |(refine kB ?_))
 ·refine AmG (by simp;omega) (by simp;omega) ?_
  (conv=>whnf);repeat' (first|(refine kA ?_;conv=>whnf)|(refine Br.mk (fun hc=>?_) fun hc=>?_<;>first|exact hc.elim|conv=>whnf)  |(refine kB ?_))
  rw[QA (by omega)]
  exact again.mk ⟨_,by omega,i+1,_,rfl,by omega,rfl,_,_,rfl⟩
 ·rw[Di hc]
  obtain rfl:i=P.length:=by omega
  have hu:sub (vs AV.str (keysOf P)) 0 P.length=vs .str (keysOf P):=by rw[← NZ P];exact uV
  have hkl:(keysOf P).length<2^63:=by rw[NZ];exact hP
  (conv=>whnf);repeat' (first|(refine CP (Ad7 hL hs) (fun h1=>?_) (fun h1=>?_)<;>conv=>whnf)|(rw [hu];refine CP (Ad7 hkl hk) (fun h2=>?_) (fun h2=>?_)<;>conv=>whnf)|(refine CP (Ad9 hL) (fun h3=>?_) (fun h3=>?_)<;>conv=>whnf)|(rw [hu];refine CP (Ad9 hkl) (fun h4=>?_) (fun h4=>?_)<;>conv=>whnf)|(refine kA ?_;conv=>whnf)|(refine Br.mk (fun hc=>?_) fun hc=>?_<;>first|exact hc.elim|conv=>whnf)|(refine kB ?_))
  ·exact Rt h16 fun h=>h1 h.1
  ·exact Rt h16 fun h=>h2 h.2
  ·refine Ai (fun m env s=>∃(i:Nat),m=P.length-i∧env=[(44,.sl pn (vs GP.av P)),(45,.int .i64 P.length),(46,.int .i64 i)]∧(∃ c,s=⟨[.arr g 1 nn true (vs .str (keysOf P))],c⟩)∧∀p∈P.take i,Ew p.v) ?_ _ _ _ ⟨0,rfl,rfl,⟨_,rfl⟩,by simp⟩
   clear hc hi
   rintro _ _ _ ⟨i,rfl,rfl,⟨c,rfl⟩,hx⟩
   refine⟨rfl,?_⟩
   (conv=>whnf);repeat' (first|(refine CP (Aiq (v:=(P[i]).v) (hp _ (List.getElem_mem (by omega))).2) (fun h5=>?_) (fun h5=>?_)<;>conv=>whnf)|(refine kA ?_;conv=>whnf)|(refine Br.mk (fun hc=>?_) fun hc=>?_<;>first|exact hc.elim|conv=>whnf)|(refine kB ?_))
   ·exact again.mk ⟨_,by omega,i+1,rfl,rfl,⟨_,rfl⟩,BG (by omega) hx h5⟩
   ·exact AaM h16 ⟨Classical.not_not.1 h1,Classical.not_not.1 h2⟩ ⟨h3,h4⟩ fun h=>h5 (h _ (List.getElem_mem _))
   ·rw[Di hc]at hx
    exact AaN h16 ⟨Classical.not_not.1 h1,Classical.not_not.1 h2⟩ ⟨h3,h4⟩ hx
  ·exact O7 h16 ⟨Classical.not_not.1 h1,Classical.not_not.1 h2⟩ fun h=>h4 h.2
  ·exact O7 h16 ⟨Classical.not_not.1 h1,Classical.not_not.1 h2⟩ fun h=>h3 h.1
attribute [irreducible] DF
def incr (l:List Int):Prop:=∀j (h:j+1<l.length),l[j]<l[j+1]
noncomputable instance (l:List Int):Decidable (incr l):=Classical.propDecidable _
theorem Aa1 {l:List Int} (h:incr l) {i:Nat}:∀d (hd:i+d+1<l.length),l[i]<l[i+d+1]
 |0,hd=>h i hd
 |d+1,hd=>Int.lt_trans (Aa1 h d (by omega)) (h (i+d+1) hd)
theorem Ace {l:List Int} (h:incr l) {i j:Nat} (hij:i<j) (hj:j<l.length):l[i]<l[j]:=by
 obtain⟨d,rfl⟩:∃d,j=i+d+1:=⟨j-i-1,by omega⟩
 exact Aa1 h d hj
def Gt (N:List GN):List Int:=N.map GN.id
def Aki (E:List GE):List Int:=E.map GE.id
@[simp] theorem Akj (N:List GN):(Gt N).length=N.length:=by simp[Gt]
@[simp] theorem Akk (N:List GE):(Aki N).length=N.length:=by simp[Aki]
theorem MO {N:List GN} {i:Nat} (h:i<N.length):(Gt N)[i]'(by simpa using h)=(N[i]).id:=by simp[Gt]
theorem ZQ {N:List GN} (h:incr (Gt N)) {i j:Nat} (hij:i<j) (hj:j<N.length):(N[i]).id<(N[j]).id:=by
 have:=Ace h hij (by simpa using hj)
 rwa [MO (by omega),MO hj]at this
theorem AmE {n:GN} {x:Int}:Ah (Ac tab) 100 [n.av,.int .i64 x] (· =.int .i64 (MW n.id x)):=by
 refine Ad rfl rfl ?_
 (conv=>whnf);repeat' (first|(refine kA ?_;conv=>whnf)|(refine Br.mk (fun hc=>?_) fun hc=>?_<;>first|exact hc.elim|conv=>whnf)|(refine Aa compare ?_;rintro _ rfl;conv=>whnf)|(refine kB ?_))
 rfl
theorem bsearch {N:List GN} {nn:Bool} {x:Int} (hN:N.length<2^62) (hi:incr (Gt N)):Ah (Ac tab) 99 [.sl nn (vs GN.av N),.int .i64 x,.fn 100 []] (fun v=>∃z b,v=.Ce [.int .i64 z,.bool b]∧(b=true↔x∈Gt N)):=by
 have fin:∀i:Nat,i≤N.length→(∀ k (h:k<N.length),k<i→(N[k]).id<x)→(∀ k (h:k<N.length),i≤k→x≤(N[k]).id)→(x∈Gt N↔∃h:i<N.length,(N[i]).id=x):=by
  intro i h0 h1 h2
  constructor
  ·intro h
   obtain⟨k,hk,e⟩:=List.getElem_of_mem h
   have hk':k<N.length:=by simpa using hk
   rw[MO hk']at e
   have a1:=h1 k hk'
   have:i≤k:=by
        rcases Nat.lt_or_ge k i with h|h
        ·have:=a1 h;omega
        ·exact h
   rcases Nat.lt_or_ge i k with h|h
   ·have:=ZQ hi h hk'
    have:=h2 i (by omega) (Nat.le_refl _)
    omega
   ·obtain rfl:i=k:=by omega
    exact⟨hk',e⟩
  ·rintro⟨h,e⟩
   rw[← e,←MO h]
   exact List.getElem_mem _
 refine Ad rfl rfl ?_
 (conv=>whnf);repeat' (first|(refine kA ?_;conv=>whnf)|(refine Br.mk (fun hc=>?_) fun hc=>?_<;>first|exact hc.elim|conv=>whnf)  |(refine kB ?_))
 refine Ai (fun m env s=>∃(i j:Nat),m=j-i∧i≤j∧j≤N.length∧env=[(0,.sl nn (vs GN.av N)),(1,.int .i64 x),(2,.fn 100 []),(8,.int .i64 N.length),(9,.int .i64 i),(10,.int .i64 j)]∧s=⟨[],0⟩∧
  (∀ k (h:k<N.length),k<i→(N[k]).id<x)∧(∀ k (h:k<N.length),j≤k→x≤(N[k]).id)) ?_ _ _ _ ⟨0,N.length,rfl,by omega,by omega,by simp,rfl,fun k _ h=>absurd h (by omega),fun k h1 h=>absurd h (by omega)⟩
 rintro _ _ _ ⟨i,j,rfl,hij,hj,rfl,rfl,h1,h2⟩
 refine⟨rfl,?_⟩
 (conv=>whnf);repeat' (first|(refine Aaj (i+j) (by omega) (by omega) ?_;conv=>whnf)|(apply AU;(· exact Afm _);conv=>whnf)|(refine Aa AmE ?_;rintro _ rfl;conv=>whnf)|(refine kA ?_;conv=>whnf)|(refine Br.mk (fun hc=>?_) fun hc=>?_<;>first|exact hc.elim|conv=>whnf)|(refine kB ?_))
 ·have hm:=OA.1 hc
  exact again.mk ⟨_,by omega,(i+j) / 2+1,j,rfl,by omega,hj,rfl,rfl,fun k hk hlt=>by
   rcases Nat.lt_or_ge k ((i+j) / 2)with h|h
   ·exact Int.lt_trans (ZQ hi h (by omega)) hm
   ·obtain rfl:k=(i+j) / 2:=by omega
    exact hm,h2⟩
 ·have hm:=mt OA.2 hc
  exact again.mk ⟨_,by omega,i,(i+j) / 2,rfl,by omega,by omega,rfl,rfl,h1,fun k hk hle=>by
   rcases Nat.lt_or_ge ((i+j) / 2) k with h|h
   ·have:=ZQ hi h hk;omega
   ·obtain rfl:k=(i+j) / 2:=by omega
    omega⟩
 all_goals have hf:=fin i (by omega) h1 (fun k hk h=>h2 k hk (by omega))
 ·exact⟨_,_,rfl,fun _=>hf.2 ⟨by omega,Md.1 hc⟩,fun _=>rfl⟩
 ·exact⟨_,_,rfl,fun h=>(Bool.noConfusion h),fun h=>absurd (Md.2 (hf.1 h).2) hc⟩
 ·exact⟨_,_,rfl,fun h=>(Bool.noConfusion h),fun h=>absurd (hf.1 h).1 (by omega)⟩
theorem AlE {N:List GN} {nn:Bool} {x:Int} (hN:N.length<2^62) (hi:incr (Gt N)):Ah (Ac tab) 61 [.sl nn (vs GN.av N),.int .i64 x] (· =.bool (decide (x∈Gt N))):=by
 refine Ad rfl rfl ?_
 (conv=>whnf);repeat' (first|(refine kA ?_;conv=>whnf)|(refine Br.mk (fun hc=>?_) fun hc=>?_<;>first|exact hc.elim|conv=>whnf)  |(refine kB ?_))
 refine Aa (bsearch hN hi) ?_
 rintro _ ⟨z,b,rfl,hb⟩
 (conv=>whnf);repeat' (first|(refine kA ?_;conv=>whnf)|(refine Br.mk (fun hc=>?_) fun hc=>?_<;>first|exact hc.elim|conv=>whnf)  |(refine kB ?_))
 ·exact BN (hb.1 hc)
 ·exact Bf fun h=>by rw[hb.2 h]at hc;cases hc
def IZ (f:Nat→Int):Nat→Int
 |0=>0
 |n+1=>if IZ f n=0 then f n else IZ f n
theorem DZ {f:Nat→Int}:∀{n:Nat},IZ f n=0↔∀k,k<n→f k=0
 |0=>by simp[IZ]
 |n+1=>by
  unfold IZ
  split
  ·rename_i h
   have:=DZ.1 h
   refine⟨fun h0 k hk=>?_,fun h0=>h0 n (by omega)⟩
   rcases Nat.lt_or_ge k n with h1|h1
   ·exact this k h1
   ·obtain rfl:k=n:=by omega
    exact h0
  ·rename_i h
   exact⟨fun h0=>absurd h0 h,fun h0=>absurd (DZ.2 fun k hk=>h0 k (by omega)) h⟩
theorem Qc {f:Nat→Int} {i:Nat} (h:∀k,k<i→f k=0) (hi:f i≠0):∀{n:Nat},i<n→IZ f n=f i
 |0,hn=>absurd hn (by omega)
 |n+1,hn=>by
  unfold IZ
  rcases Nat.lt_or_ge i n with h1|h1
  ·rw[Qc h hi h1,if_neg hi]
  ·obtain rfl:i=n:=by omega
   rw[if_pos (DZ.2 h)]
noncomputable def Fa (N:List GN) (nx:Int) (i:Nat):Int:=
 match N[i]? with
 |none=>0
 |some n=>if 0<i∧(∃ m,N[i-1]?=some m∧n.id≤m.id)then 26 else if n.id<1∨nx≤n.id then 1 else DF n.labels n.props
noncomputable def Fp (N:List GN) (E:List GE) (nx:Int) (i:Nat):Int:=
 match E[i]? with
 |none=>0
 |some e=>if 0<i∧(∃ m,E[i-1]?=some m∧e.id≤m.id)then 26 else if e.id<1∨nx≤e.id then 1 else if¬(e.fr∈Gt N∧e.to∈Gt N)then 10 else if¬isName e.ty then 6 else DF [] e.props
theorem Za {N:List GN} {nx:Int} {i:Nat} (h:i<N.length) (h0:0<i) (h1:(N[i]).id≤(N[i-1]).id):Fa N nx i=26:=by
 unfold Fa;rw[List.getElem?_eq_getElem h];exact if_pos ⟨h0,_,List.getElem?_eq_getElem (by omega),h1⟩
theorem AaQ {N:List GN} {i:Nat} (h:i<N.length) (h1:0<i→¬(N[i]).id≤(N[i-1]).id):¬(0<i∧∃m,N[i-1]?=some m∧(N[i]).id≤m.id):=by
 rintro⟨a,m,b,c⟩;rw[List.getElem?_eq_getElem (by omega)]at b;rw[← Option.some.inj b]at c;exact h1 a c
theorem node1 {N:List GN} {nx:Int} {i:Nat} (h:i<N.length) (h1:0<i→¬(N[i]).id≤(N[i-1]).id) (h2:(N[i]).id<1∨nx≤(N[i]).id):Fa N nx i=1:=by
 unfold Fa;rw[List.getElem?_eq_getElem h];dsimp only;rw[if_neg (AaQ h h1),if_pos h2]
theorem Aan {N:List GN} {nx:Int} {i:Nat} (h:i<N.length) (h1:0<i→¬(N[i]).id≤(N[i-1]).id) (h2:¬((N[i]).id<1∨nx≤(N[i]).id)):Fa N nx i=DF (N[i]).labels (N[i]).props:=by
 unfold Fa;rw[List.getElem?_eq_getElem h];dsimp only;rw[if_neg (AaQ h h1),if_neg h2]
theorem AaR {N:List GN} {nx:Int} {i:Nat} (h:i<N.length) (h0:Fa N nx i=0):(0<i→(N[i-1]).id<(N[i]).id)∧1≤(N[i]).id∧(N[i]).id<nx∧DF (N[i]).labels (N[i]).props=0:=by
 by_cases h1:0<i∧(N[i]).id≤(N[i-1]).id
 ·rw[Za h h1.1 h1.2]at h0;omega
 have h1':0<i→¬(N[i]).id≤(N[i-1]).id:=fun a b=>h1 ⟨a,b⟩
 by_cases h2:(N[i]).id<1∨nx≤(N[i]).id
 ·rw[node1 h h1' h2]at h0;omega
 rw[Aan h h1' h2]at h0
 exact⟨fun a=>by have:=h1' a;omega,by omega,by omega,h0⟩
theorem Zc {N:List GN} {E:List GE} {nx:Int} {i:Nat} (h:i<E.length) (h0:0<i) (h1:(E[i]).id≤(E[i-1]).id):Fp N E nx i=26:=by
 unfold Fp;rw[List.getElem?_eq_getElem h];exact if_pos ⟨h0,_,List.getElem?_eq_getElem (by omega),h1⟩
theorem Ru {E:List GE} {i:Nat} (h:i<E.length) (h1:0<i→¬(E[i]).id≤(E[i-1]).id):¬(0<i∧∃m,E[i-1]?=some m∧(E[i]).id≤m.id):=by
 rintro⟨a,m,b,c⟩;rw[List.getElem?_eq_getElem (by omega)]at b;rw[← Option.some.inj b]at c;exact h1 a c
theorem Ac8 {N:List GN} {E:List GE} {nx:Int} {i:Nat} (h:i<E.length) (h1:0<i→¬(E[i]).id≤(E[i-1]).id) (h2:(E[i]).id<1∨nx≤(E[i]).id):Fp N E nx i=1:=by
 unfold Fp;rw[List.getElem?_eq_getElem h];dsimp only;rw[if_neg (Ru h h1),if_pos h2]
theorem Zd {N:List GN} {E:List GE} {nx:Int} {i:Nat} (h:i<E.length) (h1:0<i→¬(E[i]).id≤(E[i-1]).id) (h2:¬((E[i]).id<1∨nx≤(E[i]).id)) (h3:¬((E[i]).fr∈Gt N∧(E[i]).to∈Gt N)):Fp N E nx i=10:=by
 unfold Fp;rw[List.getElem?_eq_getElem h];dsimp only;rw[if_neg (Ru h h1),if_neg h2,if_pos h3]
theorem Ac9 {N:List GN} {E:List GE} {nx:Int} {i:Nat} (h:i<E.length) (h1:0<i→¬(E[i]).id≤(E[i-1]).id) (h2:¬((E[i]).id<1∨nx≤(E[i]).id)) (h3:(E[i]).fr∈Gt N∧(E[i]).to∈Gt N) (h4:¬isName (E[i]).ty):Fp N E nx i=6:=by
 unfold Fp;rw[List.getElem?_eq_getElem h];dsimp only;rw[if_neg (Ru h h1),if_neg h2,if_neg (not_not_intro h3),if_pos h4]
theorem Aao {N:List GN} {E:List GE} {nx:Int} {i:Nat} (h:i<E.length) (h1:0<i→¬(E[i]).id≤(E[i-1]).id) (h2:¬((E[i]).id<1∨nx≤(E[i]).id)) (h3:(E[i]).fr∈Gt N∧(E[i]).to∈Gt N) (h4:isName (E[i]).ty):Fp N E nx i=DF [] (E[i]).props:=by
 unfold Fp;rw[List.getElem?_eq_getElem h];dsimp only;rw[if_neg (Ru h h1),if_neg h2,if_neg (not_not_intro h3),if_neg (not_not_intro h4)]
theorem AfW {N:List GN} {E:List GE} {nx:Int} {i:Nat} (h:i<E.length) (h0:Fp N E nx i=0):(0<i→(E[i-1]).id<(E[i]).id)∧1≤(E[i]).id∧(E[i]).id<nx∧(E[i]).fr∈Gt N∧(E[i]).to∈Gt N∧isName (E[i]).ty∧DF [] (E[i]).props=0:=by
 by_cases h1:0<i∧(E[i]).id≤(E[i-1]).id
 ·rw[Zc h h1.1 h1.2]at h0;omega
 have h1':0<i→¬(E[i]).id≤(E[i-1]).id:=fun a b=>h1 ⟨a,b⟩
 by_cases h2:(E[i]).id<1∨nx≤(E[i]).id
 ·rw[Ac8 h h1' h2]at h0;omega
 by_cases h3:(E[i]).fr∈Gt N∧(E[i]).to∈Gt N
 case neg=>rw[Zd h h1' h2 h3]at h0;omega
 by_cases h4:isName (E[i]).ty
 case neg=>rw[Ac9 h h1' h2 h3 h4]at h0;omega
 rw[Aao h h1' h2 h3 h4]at h0
 exact⟨fun a=>by have:=h1' a;omega,by omega,by omega,h3.1,h3.2,h4,h0⟩
def FW (g:GG):Prop:=g.nodes.length≤2000∧g.edges.length≤4000
def Gv (g:GG):Prop:=1≤g.Dn∧g.Dn≤1000001∧1≤g.DJ∧g.DJ≤1000001
instance (g:GG):Decidable (FW g):=by unfold FW;infer_instance
instance (g:GG):Decidable (Gv g):=by unfold Gv;infer_instance
noncomputable def Bd (g:GG):Int:=
 if¬FW g then 4 else if¬Gv g then 1 else
  if IZ (Fa g.nodes g.Dn) g.nodes.length=0 then IZ (Fp g.nodes g.edges g.DJ) g.edges.length else IZ (Fa g.nodes g.Dn) g.nodes.length
theorem Ada {g:GG} (h:¬FW g):AV.int .i64 4=AV.int .i64 (Bd g):=by unfold Bd;rw[if_pos h]
theorem Adb {g:GG} (h:FW g) (h1:¬Gv g):AV.int .i64 1=AV.int .i64 (Bd g):=by unfold Bd;rw[if_neg (not_not_intro h),if_pos h1]
theorem checkN {g:GG} (h:FW g) (h1:Gv g) {i:Nat} (hi:i<g.nodes.length) (h2:∀k,k<i→Fa g.nodes g.Dn k=0) {r:Int} (h3:Fa g.nodes g.Dn i=r) (hr:r≠0):AV.int .i64 r=AV.int .i64 (Bd g):=by
 subst h3
 unfold Bd
 rw[if_neg (not_not_intro h),if_neg (not_not_intro h1),Qc h2 hr hi,if_neg hr]
theorem MG {g:GG} (h:FW g) (h1:Gv g) (hn:∀k,k<g.nodes.length→Fa g.nodes g.Dn k=0) {i:Nat} (hi:i<g.edges.length) (h2:∀k,k<i→Fp g.nodes g.edges g.DJ k=0) {r:Int} (h3:Fp g.nodes g.edges g.DJ i=r) (hr:r≠0):AV.int .i64 r=AV.int .i64 (Bd g):=by
 subst h3
 unfold Bd
 rw[if_neg (not_not_intro h),if_neg (not_not_intro h1),if_pos (DZ.2 hn),Qc h2 hr hi]
theorem Adc {g:GG} (h:FW g) (h1:Gv g) (hn:∀k,k<g.nodes.length→Fa g.nodes g.Dn k=0) (h2:∀k,k<g.edges.length→Fp g.nodes g.edges g.DJ k=0):AV.int .i64 0=AV.int .i64 (Bd g):=by
 unfold Bd
 rw[if_neg (not_not_intro h),if_neg (not_not_intro h1),if_pos (DZ.2 hn),DZ.2 h2]
theorem Zb {N:List GN} {nx:Int} (h:∀k,k<N.length→Fa N nx k=0):incr (Gt N):=by
 intro j hj
 have hj':j+1<N.length:=by simpa using hj
 rw[MO (by omega),MO hj']
 exact(AaR hj' (h _ hj')).1 (by omega)
theorem Yb {g:GG} (h:Bd g=0):FW g∧Gv g∧(∀ k,k<g.nodes.length→Fa g.nodes g.Dn k=0)∧∀k,k<g.edges.length→Fp g.nodes g.edges g.DJ k=0:=by
 unfold Bd at h
 by_cases h1:FW g
 case neg=>rw[if_pos h1]at h;omega
 by_cases h2:Gv g
 case neg=>rw[if_neg (not_not_intro h1),if_pos h2]at h;omega
 rw[if_neg (not_not_intro h1),if_neg (not_not_intro h2)]at h
 split at h
 ·rename_i h3
  exact⟨h1,h2,DZ.1 h3,DZ.1 h⟩
 ·rename_i h3;exact absurd h h3
attribute [irreducible] Fa Fp Bd IZ
theorem Je {f:Nat→Int} {i:Nat} (h:∀k,k<i→f k=0) (hi:f i=0):∀k,k<i+1→f k=0:=by
 intro k hk
 rcases Nat.lt_or_ge k i with h1|h1
 ·exact h k h1
 ·obtain rfl:k=i:=by omega
  exact hi
theorem Aho {n:GN} (h:n.ok):Ah (Ac tab) 60 [.sl n.ln (vs .str n.labels),.sl n.pn (vs GP.av n.props)] (· =.int .i64 (DF n.labels n.props)):=
 Ac7 h.2.1 h.2.2.2.1 h.2.2.2.2.1 h.2.2.2.2.2.2
theorem Afq {n:GE} (h:n.ok):Ah (Ac tab) 60 [.sl false [],.sl n.pn (vs GP.av n.props)] (· =.int .i64 (DF [] n.props)):=
 Ac7 (L:=[]) (by decide) (by simp) h.2.2.2.2.1 h.2.2.2.2.2.2
theorem Ahp {g:GG} (hg:g.ok) (hf:FW g) (hnx:Gv g) {c:Nat} {Q:AB→Env→Aj→Prop}
 (hret:∀r s,AV.int .i64 r=AV.int .i64 (Bd g)→Q .ret [(2,.int .i64 r)] s)
 (hend:(∀ k,k<g.nodes.length→Fa g.nodes g.Dn k=0)→∀c i,Q (.exit 0) [(1,.ref 0 0 0 0),(38,.sl g.nn (vs GN.av g.nodes)),(39,.int .i64 g.nodes.length),(40,.int .i64 i),(41,.bool false)] ⟨[.arr 0 4 true true [g.av]],c⟩):
 Run (Ac tab) (.loop l27_0_h l27_0_b) [(1,.ref 0 0 0 0),(38,.sl g.nn (vs GN.av g.nodes)),(39,.int .i64 g.nodes.length),(40,.int .i64 0)] ⟨[.arr 0 4 true true [g.av]],c⟩ Q:=by
 obtain⟨g1,g2,g3,g4,g5,g6,g7,g8⟩:=hg
 unfold Ln at g1 g4
 have hf':g.nodes.length≤2000:=hf.1
 refine Ai (fun m env s=>∃i:Nat,m=g.nodes.length-i∧env=[(1,.ref 0 0 0 0),(38,.sl g.nn (vs GN.av g.nodes)),(39,.int .i64 g.nodes.length),(40,.int .i64 i)]∧(∃ c,s=⟨[.arr 0 4 true true [g.av]],c⟩)∧∀k,k<i→Fa g.nodes g.Dn k=0) ?_ _ _ _ ⟨0,rfl,by simp,⟨_,rfl⟩,fun k h=>absurd h (by omega)⟩
 rintro _ _ _ ⟨i,rfl,rfl,⟨c,rfl⟩,hx⟩
 refine⟨rfl,?_⟩
 have hat:∀h:i<g.nodes.length,(g.nodes[i]).ok:=fun h=>g3 _ (List.getElem_mem _)
 (conv=>whnf);repeat' (first|(apply Au;(· exact nVz (i-1) (by omega) (by omega));conv=>whnf)|(refine Aa (Aho (n:=g.nodes[i]) (hat (by omega))) ?_;rintro _ rfl;conv=>whnf)|(refine hret _ _ ?_)|(refine hend (fun k hk=>hx k (by omega)) _ _)|(refine kA ?_;conv=>whnf)|(refine Br.mk (fun hc=>?_) fun hc=>?_<;>first|exact hc.elim|conv=>whnf)|(refine kB ?_))
 all_goals first
  |exact again.mk ⟨_,by omega,i+1,rfl,rfl,⟨_,rfl⟩,Je hx ((Aan (by omega) (fun h=>by first|assumption|omega) (by omega)).trans hc)⟩
  |exact checkN hf hnx (by omega) hx (Za (by omega) (by omega) (by assumption)) (by decide)
  |exact checkN hf hnx (by omega) hx (node1 (by omega) (fun h=>by first|assumption|omega) (by omega)) (by decide)
  |exact checkN hf hnx (by omega) hx (Aan (by omega) (fun h=>by first|assumption|omega) (by omega)) hc
set_option maxHeartbeats 1000000 in
theorem Ahr {g:GG} (hg:g.ok) (hf:FW g) (hnx:Gv g) (hN:∀k,k<g.nodes.length→Fa g.nodes g.Dn k=0) {c:Nat} {Q:AB→Env→Aj→Prop}
 (hret:∀r s,AV.int .i64 r=AV.int .i64 (Bd g)→Q .ret [(2,.int .i64 r)] s)
 (hend:(∀ k,k<g.edges.length→Fp g.nodes g.edges g.DJ k=0)→∀c i,Q (.exit 2) [(1,.ref 0 0 0 0),(79,.sl g.en (vs GE.av g.edges)),(80,.int .i64 g.edges.length),(81,.int .i64 i),(82,.bool false)] ⟨[.arr 0 4 true true [g.av]],c⟩):
 Run (Ac tab) (.loop l27_1_h l27_1_b) [(1,.ref 0 0 0 0),(79,.sl g.en (vs GE.av g.edges)),(80,.int .i64 g.edges.length),(81,.int .i64 0)] ⟨[.arr 0 4 true true [g.av]],c⟩ Q:=by
 obtain⟨g1,g2,g3,g4,g5,g6,g7,g8⟩:=hg
 unfold Ln at g1 g4
 have hf':g.edges.length≤4000:=hf.2
 have hI:=Zb hN
 have hl:g.nodes.length<2^62:=by have:=hf.1;omega
 refine Ai (fun m env s=>∃i:Nat,m=g.edges.length-i∧env=[(1,.ref 0 0 0 0),(79,.sl g.en (vs GE.av g.edges)),(80,.int .i64 g.edges.length),(81,.int .i64 i)]∧(∃ c,s=⟨[.arr 0 4 true true [g.av]],c⟩)∧∀k,k<i→Fp g.nodes g.edges g.DJ k=0) ?_ _ _ _ ⟨0,rfl,by simp,⟨_,rfl⟩,fun k h=>absurd h (by omega)⟩
 rintro _ _ _ ⟨i,rfl,rfl,⟨c,rfl⟩,hx⟩
 refine⟨rfl,?_⟩
 have hat:∀h:i<g.edges.length,(g.edges[i]).ok:=fun h=>g6 _ (List.getElem_mem _)
 (conv=>whnf);repeat' (first|(apply Au;(· exact nVz (i-1) (by omega) (by omega));conv=>whnf)|(refine CP (AlE hl hI) (fun hc=>?_) (fun hc=>?_)<;>conv=>whnf)|(refine CP (name1 (s:=(g.edges[i]).ty) (hat (by omega)).2.2.2.1) (fun hnm=>?_) (fun hnm=>?_)<;>conv=>whnf)|(refine Aa (Afq (n:=g.edges[i]) (hat (by omega))) ?_;rintro _ rfl;conv=>whnf)|(refine hret _ _ ?_)|(refine hend (fun k hk=>hx k (by omega)) _ _)|(refine kA ?_;conv=>whnf)|(refine Br.mk (fun hc=>?_) fun hc=>?_<;>first|exact hc.elim|conv=>whnf)|(refine kB ?_))
 all_goals first
  |exact again.mk ⟨_,by omega,i+1,rfl,rfl,⟨_,rfl⟩,Je hx ((Aao (by omega) (fun h=>by first|assumption|omega) (by omega) ⟨by assumption,by assumption⟩ hnm).trans hc)⟩
  |exact MG hf hnx hN (by omega) hx (Zc (by omega) (by omega) (by assumption)) (by decide)
  |exact MG hf hnx hN (by omega) hx (Ac8 (by omega) (fun h=>by first|assumption|omega) (by omega)) (by decide)
  |exact MG hf hnx hN (by omega) hx (Zd (by omega) (fun h=>by first|assumption|omega) (by omega) (fun h=>by first|exact absurd h.1 (by assumption)|exact absurd h.2 (by assumption))) (by decide)
  |exact MG hf hnx hN (by omega) hx (Ac9 (by omega) (fun h=>by first|assumption|omega) (by omega) ⟨by assumption,by assumption⟩ hnm) (by decide)
  |exact MG hf hnx hN (by omega) hx (Aao (by omega) (fun h=>by first|assumption|omega) (by omega) ⟨by assumption,by assumption⟩ hnm) hc
theorem V9 {g:GG} (hg:g.ok):Ah (Ac tab) 27 [g.av] (· =.int .i64 (Bd g)):=by
 have hg0:=hg
 obtain⟨g1,g2,g3,g4,g5,g6,g7,g8⟩:=hg
 unfold Ln at g1 g4
 refine Ad rfl rfl ?_
 (conv=>whnf);repeat' (first|(refine kA ?_;conv=>whnf)|(refine Br.mk (fun hc=>?_) fun hc=>?_<;>first|exact hc.elim|conv=>whnf)  |(refine kB ?_))
 all_goals first|exact Ada (by unfold FW;omega)|exact Adb (by unfold FW;omega) (by unfold Gv;omega)|skip
 have hf:FW g:=by unfold FW;omega
 have hnx:Gv g:=by unfold Gv;omega
 refine Ahp hg0 hf hnx (fun r s h=>by(conv=>whnf);(apply Df;(· rfl);conv=>whnf);(apply Df;(· rfl);conv=>whnf);exact h) (fun hN c i=>?_)
 (conv=>whnf);repeat' (first|(refine kA ?_;conv=>whnf)|(refine Br.mk (fun hc=>?_) fun hc=>?_<;>first|exact hc.elim|conv=>whnf)  |(refine kB ?_))
 refine Ahr hg0 hf hnx hN (fun r s h=>by(conv=>whnf);(apply Df;(· rfl);conv=>whnf);(apply Df;(· rfl);conv=>whnf);exact h) (fun hE c i=>?_)
 (conv=>whnf);repeat' (first|(refine kA ?_;conv=>whnf)|(refine Br.mk (fun hc=>?_) fun hc=>?_<;>first|exact hc.elim|conv=>whnf)  |(refine kB ?_))
 exact Adc hf hnx hN hE
end AI
end Go.Proofs.YtchcadfjbkkgmaaGreatDoor
