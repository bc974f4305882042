/- Names: the program's and the reference's. value.Plain and the reference's Plain: which values may be stored. Names in a list, increasing strings, labels and properties. What is wrong with labels and properties. Comparing two numbers. Looking for a node among increasing ids. graph.Check: the first error of a graph. graph.Check, walked. component.Weak. The reference's validity of values: it answers. The reference's validity of values, with lists in lists. -/
import Derived.Test.YtgmgkkbpgndaaaaGreatDoorPMaf
import Derived.Test.YtgmgkkbpgndaaaaGreatDoorPMac
import Derived.Test.YtgmgkkbpgndaaaaGreatDoorPGrCode
import Derived.Test.YtgmgkkbpgndaaaaGreatDoorPMaa
set_option linter.unusedVariables false
set_option maxRecDepth 4000
namespace Go.Proofs.YtgmgkkbpgndaaaaGreatDoor
namespace AI
def DF (c:Int):Prop:=(97≤c∧c≤122)∨(65≤c∧c≤90)
instance (c:Int):Decidable (DF c):=by unfold DF;infer_instance
theorem ZQ {c:Int}:Af (Ad tab) 79 [.int .u8 c] (· =.bool (decide (DF c))):=by
 refine Ac rfl rfl ?_
 (conv=>whnf);repeat' (first|(refine kA ?_;conv=>whnf)|(refine Br.mk (fun hc=>?_) fun hc=>?_<;>first|exact hc.elim|conv=>whnf)  |(refine kB ?_))
 all_goals first|exact Bv (by unfold DF;omega)|exact AB (by unfold DF;omega)
theorem ZR {c:Int}:Af (Ad tab) 122 [.int .u8 c] (· =.bool (decide (DF c))):=by
 refine Ac rfl rfl ?_
 (conv=>whnf);repeat' (first|(refine kA ?_;conv=>whnf)|(refine Br.mk (fun hc=>?_) fun hc=>?_<;>first|exact hc.elim|conv=>whnf)  |(refine kB ?_))
 all_goals first|exact Bv (by unfold DF;omega)|exact AB (by unfold DF;omega)
def H6 (c:Int):Prop:=DF c∨(48≤c∧c≤57)∨c=95
instance (c:Int):Decidable (H6 c):=by unfold H6;infer_instance
def isName (s:List UInt8):Prop:=0<s.length∧s.length≤20∧(∀ c,s[0]?=some c→DF c.toNat)∧∀c∈s,H6 c.toNat
instance (s:List UInt8):Decidable (isName s):=by unfold isName;infer_instance
theorem MF {s:List UInt8} (hs:0<s.length) (h:isName s):DF s[0].toNat:=h.2.2.1 _ (List.getElem?_eq_getElem hs)
theorem UC {s:List UInt8} {i:Nat} (hi:i<s.length) (h:isName s):H6 s[i].toNat:=h.2.2.2 _ (List.getElem_mem _)
theorem AgP {s:List UInt8} (hs:0<s.length) (h:H6 s[0].toNat):∀c∈s.take 1,H6 c.toNat:=by
 cases s with
 |nil=>simp at hs
 |cons a l=>simpa using h
theorem name1 {s:List UInt8} (hl:s.length<2^63):Af (Ad tab) 49 [.str s] (· =.bool (decide (isName s))):=by
 by_cases h0:s.length=0
 ·obtain rfl:s=[]:=List.length_eq_zero_iff.1 h0
  refine Ac rfl rfl ?_
  (conv=>whnf);repeat' (first|(refine kA ?_;conv=>whnf)|(refine Br.mk (fun hc=>?_) fun hc=>?_<;>first|exact hc.elim|conv=>whnf)  |(refine kB ?_))
  all_goals exact AB (by simp[isName])
 have hs:0<s.length:=by omega
 have hne:s≠[]:=by rintro rfl;simp at h0
 have hz:s[0]?=some s[0]:=List.getElem?_eq_getElem hs
 refine Ac rfl rfl ?_
 (conv=>whnf);repeat' (first|(refine kA ?_;conv=>whnf)|(refine Br.mk (fun hc=>?_) fun hc=>?_<;>first|exact hc.elim|conv=>whnf)|(refine BM (ZQ) (fun hc=>?_) (fun hc=>?_)<;>conv=>whnf)|(refine kB ?_))
 all_goals first|exact absurd hc hne|exact AB (by unfold isName;omega)|exact AB fun h=>hc (MF hs h)|skip
 refine Ak (fun m env s'=>∃i:Nat,m=s.length-i∧env=[(0,.str s),(18,.int .i64 s.length),(19,.int .i64 i)]∧s'=⟨[],0⟩∧∀c∈s.take i,H6 c.toNat) ?_ _ _ _ ⟨0,rfl,by simp,rfl,by simp⟩
 rintro _ _ _ ⟨i,rfl,rfl,rfl,hx⟩
 refine⟨rfl,?_⟩
 (conv=>whnf);repeat' (first|(refine kA ?_;conv=>whnf)|(refine Br.mk (fun hc=>?_) fun hc=>?_<;>first|exact hc.elim|conv=>whnf)|(refine BM (ZQ) (fun hc=>?_) (fun hc=>?_)<;>conv=>whnf)|(refine kB ?_))
 all_goals first
  |exact again.mk ⟨_,by omega,i+1,rfl,rfl,rfl,BF (by omega) hx (by unfold H6 DF at *;omega)⟩
  |(refine AB fun h=>?_;have:=UC (i:=i) (by omega) h;unfold H6 DF at *;omega)
  |(rename_i hc1;exact Bv ⟨hs,by omega,fun c h=>by rw[hz]at h;cases h;assumption,by rw[CW hc]at hx;exact hx⟩)
theorem name2 {s:List UInt8} (hl:s.length<2^63):Af (Ad tab) 85 [.str s] (· =.bool (decide (isName s))):=by
 by_cases h0:s.length=0
 ·obtain rfl:s=[]:=List.length_eq_zero_iff.1 h0
  refine Ac rfl rfl ?_
  (conv=>whnf);repeat' (first|(refine kA ?_;conv=>whnf)|(refine Br.mk (fun hc=>?_) fun hc=>?_<;>first|exact hc.elim|conv=>whnf)  |(refine kB ?_))
  all_goals exact AB (by simp[isName])
 have hs:0<s.length:=by omega
 have hne:s≠[]:=by rintro rfl;simp at h0
 have hz:s[0]?=some s[0]:=List.getElem?_eq_getElem hs
 refine Ac rfl rfl ?_
 (conv=>whnf);repeat' (first|(refine kA ?_;conv=>whnf)|(refine Br.mk (fun hc=>?_) fun hc=>?_<;>first|exact hc.elim|conv=>whnf)|(refine BM (ZR) (fun hc=>?_) (fun hc=>?_)<;>conv=>whnf)|(refine kB ?_))
 all_goals first|exact absurd hc hne|exact AB (by unfold isName;omega)|exact AB fun h=>hc (MF hs h)|skip
 refine Ak (fun m env s'=>∃i:Nat,m=s.length-i∧env=[(0,.str s),(3,.int .i64 i)]∧s'=⟨[],0⟩∧∀c∈s.take i,H6 c.toNat) ?_ _ _ _ ⟨1,rfl,rfl,rfl,AgP hs (Or.inl hc)⟩
 rintro _ _ _ ⟨i,rfl,rfl,rfl,hx⟩
 refine⟨rfl,?_⟩
 (conv=>whnf);repeat' (first|(refine kA ?_;conv=>whnf)|(refine Br.mk (fun hc=>?_) fun hc=>?_<;>first|exact hc.elim|conv=>whnf)|(refine BM (ZR) (fun hc=>?_) (fun hc=>?_)<;>conv=>whnf)|(refine kB ?_))
 all_goals first
  |exact again.mk ⟨_,by omega,i+1,rfl,rfl,rfl,BF (by omega) hx (by unfold H6 DF at *;omega)⟩
  |(refine AB fun h=>?_;have:=UC (i:=i) (by omega) h;unfold H6 DF at *;omega)
  |(rename_i hc1;exact Bv ⟨hs,by omega,fun c h=>by rw[hz]at h;cases h;assumption,by rw[CW hc]at hx;exact hx⟩)
theorem AaW {AP:Nat→Option H7} {f:Nat} {sp:List AV→Ap→Option (AA×Ap)} {args:List AV} {R:AV→Prop} {v v':AV} {s:Ap} (hf:AP f=some (.ext sp)) (h:sp args ⟨[],0⟩=some (.ok v,s)) (hs:snap s.σ EC v=some v') (hR:R v'):Af AP f args R:=
 ⟨v',⟨1,by simp only[Ew,run,hf,h];exact hs⟩,hR⟩
theorem ixP {l:List UInt8}:Af (Ad tab) 173 [.str l,.fn 174 []] (· =.int .i64 (JB l)):=
 AaW rfl rfl rfl rfl
theorem Io {l:List UInt8}:JB l<0↔∀c∈l,Nz c=false:=by
 unfold JB
 cases h:List.findIdx? Nz l with
 |none=>
  refine⟨fun _ c hc=>?_,fun _=>by decide⟩
  have:=List.findIdx?_eq_none_iff.1 h c hc
  simpa using this
 |some i=>
  refine⟨fun h=>?_,fun ha=>?_⟩
  ·simp at h;omega
  ·obtain⟨h1,h2,_⟩:=List.findIdx?_eq_some_iff_getElem.1 h
   rw[ha _ (List.getElem_mem h1)]at h2
   cases h2
def Qw (n:Int):Prop:=-1000000000000000≤n∧n≤1000000000000000
instance (n:Int):Decidable (Qw n):=by unfold Qw;infer_instance
theorem inP {n:Int}:Af (Ad tab) 171 [.int .i64 n] (· =.bool (decide (Qw n))):=by
 refine Ac rfl rfl ?_
 (conv=>whnf);repeat' (first|(refine kA ?_;conv=>whnf)|(refine Br.mk (fun hc=>?_) fun hc=>?_<;>first|exact hc.elim|conv=>whnf)  |(refine kB ?_))
 all_goals first|exact Bv (by unfold Qw;omega)|exact AB (by unfold Qw;omega)
theorem Ajr {n:Int}:Af (Ad tab) 194 [.int .i64 n] (· =.bool (decide (Qw n))):=by
 refine Ac rfl rfl ?_
 (conv=>whnf);repeat' (first|(refine kA ?_;conv=>whnf)|(refine Br.mk (fun hc=>?_) fun hc=>?_<;>first|exact hc.elim|conv=>whnf)  |(refine kB ?_))
 all_goals first|exact Bv (by unfold Qw;omega)|exact AB (by unfold Qw;omega)
def okS (s:List UInt8):Prop:=s.length≤100∧∀c∈s,Nz c=false
instance (s:List UInt8):Decidable (okS s):=by unfold okS;infer_instance
def DX (v:GV):Prop:=v.d=0∧v.l.length=0∧(v.k=1∧v.s=[]∧(v.n=0∨v.n=1)∨v.k=2∧v.s=[]∧Qw v.n∨v.k=4∧v.n=0∧okS v.s)
instance (v:GV):Decidable (DX v):=by unfold DX;infer_instance
def IE (v:GV):Prop:=v.k=1∨v.k=2∨v.k=4
instance (v:GV):Decidable (IE v):=by unfold IE;infer_instance
theorem TP {v:GV} (h:DX v):IE v:=by unfold DX at h;unfold IE;omega
theorem AfT {v:GV} (h:v.k=1) (h1:v.d=0) (h2:v.l.length=0) (h3:v.s=[]) (h4:v.n=0∨v.n=1):DX v:=⟨h1,h2,.inl ⟨h,h3,h4⟩⟩
theorem AfU {v:GV} (h:v.k=2) (h1:v.d=0) (h2:v.l.length=0) (h3:v.s=[]) (h4:Qw v.n):DX v:=⟨h1,h2,.inr (.inl ⟨h,h3,h4⟩)⟩
theorem AfV {v:GV} (h:v.k=4) (h1:v.d=0) (h2:v.l.length=0) (h3:v.n=0) (h4:okS v.s):DX v:=⟨h1,h2,.inr (.inr ⟨h,h3,h4⟩)⟩
theorem AfW {v:GV} (h:DX v) (hk:v.k≠4):v.s=[]:=by
 obtain⟨_,_,h⟩:=h
 rcases h with h|h|h
 ·exact h.2.1
 ·exact h.2.1
 ·exact absurd h.1 hk
theorem AfX {v:GV} (h:DX v) (hk:v.k=1):v.n=0∨v.n=1:=by
 obtain⟨_,_,h⟩:=h;omega
theorem AfY {v:GV} (h:DX v) (hk:v.k=2):Qw v.n:=by
 obtain⟨_,_,h⟩:=h
 rcases h with h|h|h<;>first|exact h.2.2|omega
theorem AbB {v:GV} (h:DX v) (hk:v.k=4):v.n=0∧okS v.s:=by
 obtain⟨_,_,h⟩:=h
 rcases h with h|h|h<;>first|exact h.2|omega
theorem vld {v:GV} (hv:v.ok) (hk:IE v) {n:Int}:Af (Ad tab) 140 [v.av,.int .i64 n] (· =.bool (decide (DX v))):=by
 obtain⟨g1,g2,g3,g4,g5,g6,g7⟩:=hv
 unfold Ln at g4 g5
 unfold IE at hk
 refine Ac rfl rfl ?_
 (conv=>whnf);repeat' (first|(refine kA ?_;conv=>whnf)|(refine Br.mk (fun hc=>?_) fun hc=>?_<;>first|exact hc.elim|conv=>whnf)|(refine BM (inP (n:=v.n)) (fun hr=>?_) (fun hr=>?_)<;>conv=>whnf)|(refine Aa (ixP (l:=v.s)) ?_;rintro _ rfl;conv=>whnf)|(refine kB ?_))
 all_goals first
  |exact AB (fun h=>by have:=h.2.1;omega)
  |(refine Bv ?_;clear g7 g6;unfold DX okS;rw[← Io];first|(simp_all;done)|(simp_all;omega))
  |(refine AB ?_;clear g7 g6;unfold DX okS;rw[← Io];first|(simp_all;done)|(simp_all;omega))
theorem Akl {v:GV} (hv:v.ok) (hk:IE v):Af (Ad tab) 106 [v.av] (· =.bool (decide (DX v))):=by
 refine Ac rfl rfl ?_
 (conv=>whnf);repeat' (first|(refine kA ?_;conv=>whnf)|(refine Br.mk (fun hc=>?_) fun hc=>?_<;>first|exact hc.elim|conv=>whnf)|(refine BM (vld (v:=v) hv hk) (fun hr=>?_) (fun hr=>?_)<;>conv=>whnf)|(refine kB ?_))
 all_goals first|exact Bv (by assumption)|exact AB (by assumption)
theorem Ab6 {v:GV} (hv:v.ok):Af (Ad tab) 75 [v.av] (· =.bool (decide (DX v))):=by
 refine Ac rfl rfl ?_
 (conv=>whnf);repeat' (first|(refine kA ?_;conv=>whnf)|(refine Br.mk (fun hc=>?_) fun hc=>?_<;>first|exact hc.elim|conv=>whnf)|(refine BM (Akl (v:=v) hv (by unfold IE;omega)) (fun hr=>?_) (fun hr=>?_)<;>conv=>whnf)|(refine kB ?_))
 all_goals first|exact Bv (by assumption)|exact AB (by assumption)|exact AB fun h=>absurd (TP h) (by unfold IE;omega)
def allNames (l:List (List UInt8)):Prop:=∀s∈l,isName s
noncomputable instance (l:List (List UInt8)):Decidable (allNames l):=Classical.propDecidable _
def rises (l:List (List UInt8)):Prop:=∀j (h:j+1<l.length),(Op.bytesLess l[j+1] l[j]||l[j+1]==l[j])=false
noncomputable instance (l:List (List UInt8)):Decidable (rises l):=Classical.propDecidable _
theorem unn {s:List UInt8} (hl:s.length<2^63):Af (Ad tab) 73 [.str s] (· =.bool (decide (¬ isName s))):=by
 refine Ac rfl rfl ?_
 (conv=>whnf);repeat' (first|(refine kA ?_;conv=>whnf)|(refine Br.mk (fun hc=>?_) fun hc=>?_<;>first|exact hc.elim|conv=>whnf)|(refine BM (name1 hl) (fun hr=>?_) (fun hr=>?_)<;>conv=>whnf)|(refine kB ?_))
 ·exact AB (fun h=>h hr)
 ·exact Bv hr
theorem AhA {l:List (List UInt8)} {nn:Bool} (hl:l.length<2^63) (hs:∀s∈l,s.length<2^63):Af (Ad tab) 105 [.sl nn (vs .str l),.fn 73 []] (fun v=>∃z,v=.int .i64 z∧(0≤z↔¬allNames l)):=by
 refine Ac rfl rfl ?_
 (conv=>whnf);repeat' (first|(refine kA ?_;conv=>whnf)|(refine Br.mk (fun hc=>?_) fun hc=>?_<;>first|exact hc.elim|conv=>whnf)  |(refine kB ?_))
 refine Ak (fun m env s=>∃i:Nat,m=l.length-i∧env=[(0,.sl nn (vs .str l)),(1,.fn 73 []),(7,.int .i64 l.length),(8,.int .i64 i)]∧s=⟨[],0⟩∧∀s∈l.take i,isName s) ?_ _ _ _ ⟨0,rfl,by simp,rfl,by simp⟩
 rintro _ _ _ ⟨i,rfl,rfl,rfl,hx⟩
 refine⟨rfl,?_⟩
 (conv=>whnf);repeat' (first|(refine kA ?_;conv=>whnf)|(refine Br.mk (fun hc=>?_) fun hc=>?_<;>first|exact hc.elim|conv=>whnf)|(refine BM (unn (hs _ (List.getElem_mem (by omega)))) (fun hr=>?_) (fun hr=>?_)<;>conv=>whnf)|(refine kB ?_))
 ·exact⟨_,rfl,fun _ h=>hr (h _ (List.getElem_mem _)),fun _=>by omega⟩
 ·exact again.mk ⟨_,by omega,i+1,rfl,rfl,rfl,BF (by omega) hx (Decidable.of_not_not hr)⟩
 ·rw[CW hc]at hx;exact⟨_,rfl,fun h=>absurd h (by omega),fun h=>absurd hx h⟩
theorem AbJ {l:List (List UInt8)} {nn:Bool} (hl:l.length<2^63) (hs:∀s∈l,s.length<2^63):Af (Ad tab) 72 [.sl nn (vs .str l),.fn 73 []] (· =.bool (decide (¬ allNames l))):=by
 refine Ac rfl rfl ?_
 (conv=>whnf);repeat' (first|(refine kA ?_;conv=>whnf)|(refine Br.mk (fun hc=>?_) fun hc=>?_<;>first|exact hc.elim|conv=>whnf)  |(refine kB ?_))
 refine Aa (AhA hl hs) ?_
 rintro _ ⟨z,rfl,hz⟩
 (conv=>whnf);repeat' (first|(refine kA ?_;conv=>whnf)|(refine Br.mk (fun hc=>?_) fun hc=>?_<;>first|exact hc.elim|conv=>whnf)  |(refine kB ?_))
 ·exact Bv (hz.1 hc)
 ·exact AB (mt hz.2 hc)
theorem AbE {l:List (List UInt8)} {nn:Bool} (hl:l.length<2^63) (hs:∀s∈l,s.length<2^63):Af (Ad tab) 120 [.sl nn (vs .str l)] (· =.bool (decide (allNames l))):=by
 refine Ac rfl rfl ?_
 (conv=>whnf);repeat' (first|(refine kA ?_;conv=>whnf)|(refine Br.mk (fun hc=>?_) fun hc=>?_<;>first|exact hc.elim|conv=>whnf)  |(refine kB ?_))
 refine Ak (fun m env s=>∃i:Nat,m=l.length-i∧env=[(0,.sl nn (vs .str l)),(3,.int .i64 i)]∧s=⟨[],0⟩∧∀s∈l.take i,isName s) ?_ _ _ _ ⟨0,rfl,rfl,rfl,by simp⟩
 rintro _ _ _ ⟨i,rfl,rfl,rfl,hx⟩
 refine⟨rfl,?_⟩
 (conv=>whnf);repeat' (first|(refine kA ?_;conv=>whnf)|(refine Br.mk (fun hc=>?_) fun hc=>?_<;>first|exact hc.elim|conv=>whnf)|(refine BM (name2 (hs _ (List.getElem_mem (by omega)))) (fun hr=>?_) (fun hr=>?_)<;>conv=>whnf)|(refine kB ?_))
 ·exact again.mk ⟨_,by omega,i+1,rfl,rfl,rfl,BF (by omega) hx hr⟩
 ·exact AB fun h=>hr (h _ (List.getElem_mem _))
 ·rw[CW hc]at hx;exact Bv hx
theorem AbK {l:List (List UInt8)} {nn:Bool} (hl:l.length<2^63):Af (Ad tab) 74 [.sl nn (vs .str l)] (· =.bool (decide (rises l))):=by
 refine Ac rfl rfl ?_
 (conv=>whnf);repeat' (first|(refine kA ?_;conv=>whnf)|(refine Br.mk (fun hc=>?_) fun hc=>?_<;>first|exact hc.elim|conv=>whnf)  |(refine kB ?_))
 refine Ak (fun m env s=>∃i:Nat,m=l.length-i∧env=[(0,.sl nn (vs .str l)),(3,.int .i64 (i+1:Nat))]∧s=⟨[],0⟩∧∀j (h:j+1<l.length),j<i→(Op.bytesLess l[j+1] l[j]||l[j+1]==l[j])=false) ?_ _ _ _ ⟨0,rfl,rfl,rfl,fun j _ h=>absurd h (by omega)⟩
 rintro _ _ _ ⟨i,rfl,rfl,rfl,hx⟩
 refine⟨rfl,?_⟩
 (conv=>whnf);repeat' (first|(refine kA ?_;conv=>whnf)|(refine Br.mk (fun hc=>?_) fun hc=>?_<;>first|exact hc.elim|conv=>whnf)|(apply Aq;(· exact nVz i (by omega) (by omega));conv=>whnf)|(refine kB ?_))
 ·exact AB fun h=>by simp only[show (((i+1:Nat):Int)-1).toNat=i by omega]at hc;rw[h i (by omega)]at hc;cases hc
 ·simp only[show (((i+1:Nat):Int)-1).toNat=i by omega]at hc
  exact again.mk ⟨_,by omega,i+1,rfl,rfl,rfl,fun j h hj=>by
   by_cases e:j=i
   ·subst e;simpa using hc
   ·exact hx j h (by omega)⟩
 ·exact Bv fun j h=>hx j h (by omega)
theorem AbF {l:List (List UInt8)} {nn:Bool} (hl:l.length<2^63):Af (Ad tab) 121 [.sl nn (vs .str l)] (· =.bool (decide (rises l))):=by
 refine Ac rfl rfl ?_
 (conv=>whnf);repeat' (first|(refine kA ?_;conv=>whnf)|(refine Br.mk (fun hc=>?_) fun hc=>?_<;>first|exact hc.elim|conv=>whnf)  |(refine kB ?_))
 refine Ak (fun m env s=>∃i:Nat,m=l.length-i∧env=[(0,.sl nn (vs .str l)),(3,.int .i64 (i+1:Nat))]∧s=⟨[],0⟩∧∀j (h:j+1<l.length),j<i→(Op.bytesLess l[j+1] l[j]||l[j+1]==l[j])=false) ?_ _ _ _ ⟨0,rfl,rfl,rfl,fun j _ h=>absurd h (by omega)⟩
 rintro _ _ _ ⟨i,rfl,rfl,rfl,hx⟩
 refine⟨rfl,?_⟩
 (conv=>whnf);repeat' (first|(refine kA ?_;conv=>whnf)|(refine Br.mk (fun hc=>?_) fun hc=>?_<;>first|exact hc.elim|conv=>whnf)|(apply Aq;(· exact nVz i (by omega) (by omega));conv=>whnf)|(refine kB ?_))
 ·exact AB fun h=>by simp only[show (((i+1:Nat):Int)-1).toNat=i by omega]at hc;rw[h i (by omega)]at hc;cases hc
 ·simp only[show (((i+1:Nat):Int)-1).toNat=i by omega]at hc
  exact again.mk ⟨_,by omega,i+1,rfl,rfl,rfl,fun j h hj=>by
   by_cases e:j=i
   ·subst e;simpa using hc
   ·exact hx j h (by omega)⟩
 ·exact Bv fun j h=>hx j h (by omega)
theorem AjK {g len:Nat} {nn cl:Bool} {l:List (List UInt8)} {x:List UInt8} {bytes:Nat} {K:Nat→Bool→Bool→List AV→Prop} (hl:len=l.length) (hr:(l.length+1)*bytes≤2 ^ 46) (h:K (len+1) true cl (vs .str (l++[x]))):
 LU g g 1 1 len nn cl true (vs .str l) [.str x] bytes K:=by
 subst hl
 refine⟨⟨rfl,rfl,by simp,WM rfl,Jr hr⟩,?_⟩
 rw[Zw,Bool.and_true]
 simpa using h
def keysOf (P:List GP):List (List UInt8):=P.map GP.key
@[simp] theorem MK (P:List GP):(keysOf P).length=P.length:=by simp[keysOf]
theorem TQ {P:List GP} (hp:∀p∈P,p.ok):∀s∈keysOf P,s.length<2^63:=by
 intro s h
 obtain⟨p,h1,rfl⟩:=List.mem_map.1 h
 exact(hp p h1).1
theorem Pn {P:List GP} {i:Nat} (h:i<P.length):keysOf (P.take i)++[(P[i]).key]=keysOf (P.take (i+1)):=by
 rw[List.take_succ_eq_append_getElem h];unfold keysOf;rw[List.map_append];rfl
def allPlain (P:List GP):Prop:=∀p∈P,DX p.v
noncomputable instance (P:List GP):Decidable (allPlain P):=Classical.propDecidable _
noncomputable def Dt (L:List (List UInt8)) (P:List GP):Int:=
 if 8<L.length∨16<P.length then 4 else if¬(allNames L∧allNames (keysOf P))then 6 else if¬(rises L∧rises (keysOf P))then 26 else if¬allPlain P then 8 else 0
theorem Nw {L:List (List UInt8)} {P:List GP} (h:8<L.length∨16<P.length):AV.int .i64 4=AV.int .i64 (Dt L P):=by rw[Dt,if_pos h]
theorem Ny {L:List (List UInt8)} {P:List GP} (h:¬(8<L.length∨16<P.length)) (h1:¬(allNames L∧allNames (keysOf P))):AV.int .i64 6=AV.int .i64 (Dt L P):=by rw[Dt,if_neg h,if_pos h1]
theorem KH {L:List (List UInt8)} {P:List GP} (h:¬(8<L.length∨16<P.length)) (h1:allNames L∧allNames (keysOf P)) (h2:¬(rises L∧rises (keysOf P))):AV.int .i64 26=AV.int .i64 (Dt L P):=by rw[Dt,if_neg h,if_neg (not_not_intro h1),if_pos h2]
theorem UM {L:List (List UInt8)} {P:List GP} (h:¬(8<L.length∨16<P.length)) (h1:allNames L∧allNames (keysOf P)) (h2:rises L∧rises (keysOf P)) (h3:¬allPlain P):AV.int .i64 8=AV.int .i64 (Dt L P):=by rw[Dt,if_neg h,if_neg (not_not_intro h1),if_neg (not_not_intro h2),if_pos h3]
theorem Zl {L:List (List UInt8)} {P:List GP} (h:¬(8<L.length∨16<P.length)) (h1:allNames L∧allNames (keysOf P)) (h2:rises L∧rises (keysOf P)) (h3:allPlain P):AV.int .i64 0=AV.int .i64 (Dt L P):=by rw[Dt,if_neg h,if_neg (not_not_intro h1),if_neg (not_not_intro h2),if_neg (not_not_intro h3)]
theorem Abm {L:List (List UInt8)} {P:List GP} {ln pn:Bool} (hL:L.length<2^63) (hs:∀s∈L,s.length<2^63) (hP:P.length<2^63) (hp:∀p∈P,p.ok):Af (Ad tab) 47 [.sl ln (vs .str L),.sl pn (vs GP.av P)] (· =.int .i64 (Dt L P)):=by
 have hk:=TQ hp
 refine Ac rfl rfl ?_
 (conv=>whnf);repeat' (first|(refine kA ?_;conv=>whnf)|(refine Br.mk (fun hc=>?_) fun hc=>?_<;>first|exact hc.elim|conv=>whnf)  |(refine kB ?_))
 ·exact Nw (by omega)
 ·exact Nw (by omega)
 have h16:¬(8<L.length∨16<P.length):=by omega
 refine Ak (fun m env s=>∃(i g:Nat),m=P.length-i∧i≤P.length∧env=[(0,.sl ln (vs .str L)),(1,.sl pn (vs GP.av P)),(5,.own 0 g 0 i),(18,.sl pn (vs GP.av P)),(19,.int .i64 P.length),(20,.int .i64 i)]∧∃nn c,s=⟨[.arr g 1 nn true (vs .str (keysOf (P.take i)))],c⟩) ?_ _ _ _ ⟨0,0,rfl,by omega,rfl,_,_,rfl⟩
 rintro _ _ _ ⟨i,g,rfl,hi,rfl,nn,c,rfl⟩
 refine⟨rfl,?_⟩
 (conv=>whnf);repeat' (first|(refine kA ?_;conv=>whnf)|(refine Br.mk (fun hc=>?_) fun hc=>?_<;>first|exact hc.elim|conv=>whnf)  |(refine kB ?_))
 ·refine AjK (by simp;omega) (by simp;omega) ?_
  (conv=>whnf);repeat' (first|(refine kA ?_;conv=>whnf)|(refine Br.mk (fun hc=>?_) fun hc=>?_<;>first|exact hc.elim|conv=>whnf)  |(refine kB ?_))
  rw[Pn (by omega)]
  exact again.mk ⟨_,by omega,i+1,_,rfl,by omega,rfl,_,_,rfl⟩
 ·rw[CW hc]
  obtain rfl:i=P.length:=by omega
  have hu:sub (vs AV.str (keysOf P)) 0 P.length=vs .str (keysOf P):=by rw[← MK P];exact uV
  have hkl:(keysOf P).length<2^63:=by rw[MK];exact hP
  (conv=>whnf);repeat' (first|(refine BM (AbJ hL hs) (fun h1=>?_) (fun h1=>?_)<;>conv=>whnf)|(rw [hu];refine BM (AbJ hkl hk) (fun h2=>?_) (fun h2=>?_)<;>conv=>whnf)|(refine BM (AbK hL) (fun h3=>?_) (fun h3=>?_)<;>conv=>whnf)|(rw [hu];refine BM (AbK hkl) (fun h4=>?_) (fun h4=>?_)<;>conv=>whnf)|(refine kA ?_;conv=>whnf)|(refine Br.mk (fun hc=>?_) fun hc=>?_<;>first|exact hc.elim|conv=>whnf)|(refine kB ?_))
  ·exact Ny h16 fun h=>h1 h.1
  ·exact Ny h16 fun h=>h2 h.2
  ·refine Ak (fun m env s=>∃(i:Nat),m=P.length-i∧env=[(44,.sl pn (vs GP.av P)),(45,.int .i64 P.length),(46,.int .i64 i)]∧(∃ c,s=⟨[.arr g 1 nn true (vs .str (keysOf P))],c⟩)∧∀p∈P.take i,DX p.v) ?_ _ _ _ ⟨0,rfl,rfl,⟨_,rfl⟩,by simp⟩
   clear hc hi
   rintro _ _ _ ⟨i,rfl,rfl,⟨c,rfl⟩,hx⟩
   refine⟨rfl,?_⟩
   (conv=>whnf);repeat' (first|(refine BM (Ab6 (v:=(P[i]).v) (hp _ (List.getElem_mem (by omega))).2) (fun h5=>?_) (fun h5=>?_)<;>conv=>whnf)|(refine kA ?_;conv=>whnf)|(refine Br.mk (fun hc=>?_) fun hc=>?_<;>first|exact hc.elim|conv=>whnf)|(refine kB ?_))
   ·exact again.mk ⟨_,by omega,i+1,rfl,rfl,⟨_,rfl⟩,BF (by omega) hx h5⟩
   ·exact UM h16 ⟨Classical.not_not.1 h1,Classical.not_not.1 h2⟩ ⟨h3,h4⟩ fun h=>h5 (h _ (List.getElem_mem _))
   ·rw[CW hc]at hx
    exact Zl h16 ⟨Classical.not_not.1 h1,Classical.not_not.1 h2⟩ ⟨h3,h4⟩ hx
  ·exact KH h16 ⟨Classical.not_not.1 h1,Classical.not_not.1 h2⟩ fun h=>h4 h.2
  ·exact KH h16 ⟨Classical.not_not.1 h1,Classical.not_not.1 h2⟩ fun h=>h3 h.1
attribute [irreducible] Dt
theorem nan {x:Int}:Af (Ad tab) 107 [.int .i64 x] (· =.bool (decide False)):=by
 refine Ac rfl rfl ?_
 (conv=>whnf);repeat' (first  |(refine kA ?_;conv=>whnf)|(refine Br.mk (fun hc=>?_) fun hc=>?_<;>first|exact hc.elim|conv=>whnf)|(refine kB ?_))
 all_goals first|exact absurd rfl hc|rfl
def KF (x y:Int):Int:=if x<y then -1 else if y<x then 1 else 0
theorem compare {x y:Int}:Af (Ad tab) 78 [.int .i64 x,.int .i64 y] (· =.int .i64 (KF x y)):=by
 refine Ac rfl rfl ?_
 (conv=>whnf);repeat' (first|(refine BM nan (fun hc=>absurd hc id) (fun _=>?_);conv=>whnf)|(refine kA ?_;conv=>whnf)|(refine Br.mk (fun hc=>?_) fun hc=>?_<;>first|exact hc.elim|conv=>whnf)|(refine kB ?_))
 all_goals unfold KF;first|(rw [if_pos (by omega)];rfl)|(rw [if_neg (by omega),if_pos (by omega)];rfl)|(rw [if_neg (by omega),if_neg (by omega)];rfl)
theorem NQ {x y:Int}:KF x y<0↔x<y:=by unfold KF;split<;>(try split)<;>omega
theorem GK {x y:Int}:KF x y=0↔x=y:=by unfold KF;split<;>(try split)<;>omega
def incr (l:List Int):Prop:=∀j (h:j+1<l.length),l[j]<l[j+1]
noncomputable instance (l:List Int):Decidable (incr l):=Classical.propDecidable _
theorem Zt {l:List Int} (h:incr l) {i:Nat}:∀d (hd:i+d+1<l.length),l[i]<l[i+d+1]
 |0,hd=>h i hd
 |d+1,hd=>Int.lt_trans (Zt h d (by omega)) (h (i+d+1) hd)
theorem Aav {l:List Int} (h:incr l) {i j:Nat} (hij:i<j) (hj:j<l.length):l[i]<l[j]:=by
 obtain⟨d,rfl⟩:∃d,j=i+d+1:=⟨j-i-1,by omega⟩
 exact Zt h d hj
def F6 (N:List GN):List Int:=N.map GN.id
def AhL (E:List GE):List Int:=E.map GE.id
@[simp] theorem AhM (N:List GN):(F6 N).length=N.length:=by simp[F6]
@[simp] theorem AhN (N:List GE):(AhL N).length=N.length:=by simp[AhL]
theorem LK {N:List GN} {i:Nat} (h:i<N.length):(F6 N)[i]'(by simpa using h)=(N[i]).id:=by simp[F6]
theorem Ym {N:List GN} (h:incr (F6 N)) {i j:Nat} (hij:i<j) (hj:j<N.length):(N[i]).id<(N[j]).id:=by
 have:=Aav h hij (by simpa using hj)
 rwa [LK (by omega),LK hj]at this
theorem AjE {n:GN} {x:Int}:Af (Ad tab) 77 [n.av,.int .i64 x] (· =.int .i64 (KF n.id x)):=by
 refine Ac rfl rfl ?_
 (conv=>whnf);repeat' (first|(refine kA ?_;conv=>whnf)|(refine Br.mk (fun hc=>?_) fun hc=>?_<;>first|exact hc.elim|conv=>whnf)|(refine Aa compare ?_;rintro _ rfl;conv=>whnf)|(refine kB ?_))
 rfl
theorem bsearch {N:List GN} {nn:Bool} {x:Int} (hN:N.length<2^62) (hi:incr (F6 N)):Af (Ad tab) 76 [.sl nn (vs GN.av N),.int .i64 x,.fn 77 []] (fun v=>∃z b,v=.Cc [.int .i64 z,.bool b]∧(b=true↔x∈F6 N)):=by
 have fin:∀i:Nat,i≤N.length→(∀ k (h:k<N.length),k<i→(N[k]).id<x)→(∀ k (h:k<N.length),i≤k→x≤(N[k]).id)→(x∈F6 N↔∃h:i<N.length,(N[i]).id=x):=by
  intro i h0 h1 h2
  constructor
  ·intro h
   obtain⟨k,hk,e⟩:=List.getElem_of_mem h
   have hk':k<N.length:=by simpa using hk
   rw[LK hk']at e
   have a1:=h1 k hk'
   have:i≤k:=by
        rcases Nat.lt_or_ge k i with h|h
        ·have:=a1 h;omega
        ·exact h
   rcases Nat.lt_or_ge i k with h|h
   ·have:=Ym hi h hk'
    have:=h2 i (by omega) (Nat.le_refl _)
    omega
   ·obtain rfl:i=k:=by omega
    exact⟨hk',e⟩
  ·rintro⟨h,e⟩
   rw[← e,←LK h]
   exact List.getElem_mem _
 refine Ac rfl rfl ?_
 (conv=>whnf);repeat' (first|(refine kA ?_;conv=>whnf)|(refine Br.mk (fun hc=>?_) fun hc=>?_<;>first|exact hc.elim|conv=>whnf)  |(refine kB ?_))
 refine Ak (fun m env s=>∃(i j:Nat),m=j-i∧i≤j∧j≤N.length∧env=[(0,.sl nn (vs GN.av N)),(1,.int .i64 x),(2,.fn 77 []),(8,.int .i64 N.length),(9,.int .i64 i),(10,.int .i64 j)]∧s=⟨[],0⟩∧
  (∀ k (h:k<N.length),k<i→(N[k]).id<x)∧(∀ k (h:k<N.length),j≤k→x≤(N[k]).id)) ?_ _ _ _ ⟨0,N.length,rfl,by omega,by omega,by simp,rfl,fun k _ h=>absurd h (by omega),fun k h1 h=>absurd h (by omega)⟩
 rintro _ _ _ ⟨i,j,rfl,hij,hj,rfl,rfl,h1,h2⟩
 refine⟨rfl,?_⟩
 (conv=>whnf);repeat' (first|(refine Wp (i+j) (by omega) (by omega) ?_;conv=>whnf)|(apply F9;(· exact AbU _);conv=>whnf)|(refine Aa AjE ?_;rintro _ rfl;conv=>whnf)|(refine kA ?_;conv=>whnf)|(refine Br.mk (fun hc=>?_) fun hc=>?_<;>first|exact hc.elim|conv=>whnf)|(refine kB ?_))
 ·have hm:=NQ.1 hc
  exact again.mk ⟨_,by omega,(i+j) / 2+1,j,rfl,by omega,hj,rfl,rfl,fun k hk hlt=>by
   rcases Nat.lt_or_ge k ((i+j) / 2)with h|h
   ·exact Int.lt_trans (Ym hi h (by omega)) hm
   ·obtain rfl:k=(i+j) / 2:=by omega
    exact hm,h2⟩
 ·have hm:=mt NQ.2 hc
  exact again.mk ⟨_,by omega,i,(i+j) / 2,rfl,by omega,by omega,rfl,rfl,h1,fun k hk hle=>by
   rcases Nat.lt_or_ge ((i+j) / 2) k with h|h
   ·have:=Ym hi h hk;omega
   ·obtain rfl:k=(i+j) / 2:=by omega
    omega⟩
 all_goals have hf:=fin i (by omega) h1 (fun k hk h=>h2 k hk (by omega))
 ·exact⟨_,_,rfl,fun _=>hf.2 ⟨by omega,GK.1 hc⟩,fun _=>rfl⟩
 ·exact⟨_,_,rfl,fun h=>(Bool.noConfusion h),fun h=>absurd (GK.2 (hf.1 h).2) hc⟩
 ·exact⟨_,_,rfl,fun h=>(Bool.noConfusion h),fun h=>absurd (hf.1 h).1 (by omega)⟩
theorem Ajj {N:List GN} {nn:Bool} {x:Int} (hN:N.length<2^62) (hi:incr (F6 N)):Af (Ad tab) 48 [.sl nn (vs GN.av N),.int .i64 x] (· =.bool (decide (x∈F6 N))):=by
 refine Ac rfl rfl ?_
 (conv=>whnf);repeat' (first|(refine kA ?_;conv=>whnf)|(refine Br.mk (fun hc=>?_) fun hc=>?_<;>first|exact hc.elim|conv=>whnf)  |(refine kB ?_))
 refine Aa (bsearch hN hi) ?_
 rintro _ ⟨z,b,rfl,hb⟩
 (conv=>whnf);repeat' (first|(refine kA ?_;conv=>whnf)|(refine Br.mk (fun hc=>?_) fun hc=>?_<;>first|exact hc.elim|conv=>whnf)  |(refine kB ?_))
 ·exact Bv (hb.1 hc)
 ·exact AB fun h=>by rw[hb.2 h]at hc;cases hc
def IV (f:Nat→Int):Nat→Int
 |0=>0
 |n+1=>if IV f n=0 then f n else IV f n
theorem Eh {f:Nat→Int}:∀{n:Nat},IV f n=0↔∀k,k<n→f k=0
 |0=>by simp[IV]
 |n+1=>by
  unfold IV
  split
  ·rename_i h
   have:=Eh.1 h
   refine⟨fun h0 k hk=>?_,fun h0=>h0 n (by omega)⟩
   rcases Nat.lt_or_ge k n with h1|h1
   ·exact this k h1
   ·obtain rfl:k=n:=by omega
    exact h0
  ·rename_i h
   exact⟨fun h0=>absurd h0 h,fun h0=>absurd (Eh.2 fun k hk=>h0 k (by omega)) h⟩
theorem OX {f:Nat→Int} {i:Nat} (h:∀k,k<i→f k=0) (hi:f i≠0):∀{n:Nat},i<n→IV f n=f i
 |0,hn=>absurd hn (by omega)
 |n+1,hn=>by
  unfold IV
  rcases Nat.lt_or_ge i n with h1|h1
  ·rw[OX h hi h1,if_neg hi]
  ·obtain rfl:i=n:=by omega
   rw[if_pos (Eh.2 h)]
noncomputable def DW (N:List GN) (nx:Int) (i:Nat):Int:=
 match N[i]? with
 |none=>0
 |some n=>if 0<i∧(∃ m,N[i-1]?=some m∧n.id≤m.id)then 26 else if n.id<1∨nx≤n.id then 1 else Dt n.labels n.props
noncomputable def DZ (N:List GN) (E:List GE) (nx:Int) (i:Nat):Int:=
 match E[i]? with
 |none=>0
 |some e=>if 0<i∧(∃ m,E[i-1]?=some m∧e.id≤m.id)then 26 else if e.id<1∨nx≤e.id then 1 else if¬(e.fr∈F6 N∧e.to∈F6 N)then 10 else if¬isName e.ty then 6 else Dt [] e.props
theorem XV {N:List GN} {nx:Int} {i:Nat} (h:i<N.length) (h0:0<i) (h1:(N[i]).id≤(N[i-1]).id):DW N nx i=26:=by
 unfold DW;rw[List.getElem?_eq_getElem h];exact if_pos ⟨h0,_,List.getElem?_eq_getElem (by omega),h1⟩
theorem ZL {N:List GN} {i:Nat} (h:i<N.length) (h1:0<i→¬(N[i]).id≤(N[i-1]).id):¬(0<i∧∃m,N[i-1]?=some m∧(N[i]).id≤m.id):=by
 rintro⟨a,m,b,c⟩;rw[List.getElem?_eq_getElem (by omega)]at b;rw[← Option.some.inj b]at c;exact h1 a c
theorem node1 {N:List GN} {nx:Int} {i:Nat} (h:i<N.length) (h1:0<i→¬(N[i]).id≤(N[i-1]).id) (h2:(N[i]).id<1∨nx≤(N[i]).id):DW N nx i=1:=by
 unfold DW;rw[List.getElem?_eq_getElem h];dsimp only;rw[if_neg (ZL h h1),if_pos h2]
theorem VR {N:List GN} {nx:Int} {i:Nat} (h:i<N.length) (h1:0<i→¬(N[i]).id≤(N[i-1]).id) (h2:¬((N[i]).id<1∨nx≤(N[i]).id)):DW N nx i=Dt (N[i]).labels (N[i]).props:=by
 unfold DW;rw[List.getElem?_eq_getElem h];dsimp only;rw[if_neg (ZL h h1),if_neg h2]
theorem IZ {N:List GN} {nx:Int} {i:Nat} (h:i<N.length) (h0:DW N nx i=0):(0<i→(N[i-1]).id<(N[i]).id)∧1≤(N[i]).id∧(N[i]).id<nx∧Dt (N[i]).labels (N[i]).props=0:=by
 by_cases h1:0<i∧(N[i]).id≤(N[i-1]).id
 ·rw[XV h h1.1 h1.2]at h0;omega
 have h1':0<i→¬(N[i]).id≤(N[i-1]).id:=fun a b=>h1 ⟨a,b⟩
 by_cases h2:(N[i]).id<1∨nx≤(N[i]).id
 ·rw[node1 h h1' h2]at h0;omega
 rw[VR h h1' h2]at h0
 exact⟨fun a=>by have:=h1' a;omega,by omega,by omega,h0⟩
theorem XY {N:List GN} {E:List GE} {nx:Int} {i:Nat} (h:i<E.length) (h0:0<i) (h1:(E[i]).id≤(E[i-1]).id):DZ N E nx i=26:=by
 unfold DZ;rw[List.getElem?_eq_getElem h];exact if_pos ⟨h0,_,List.getElem?_eq_getElem (by omega),h1⟩
theorem Qv {E:List GE} {i:Nat} (h:i<E.length) (h1:0<i→¬(E[i]).id≤(E[i-1]).id):¬(0<i∧∃m,E[i-1]?=some m∧(E[i]).id≤m.id):=by
 rintro⟨a,m,b,c⟩;rw[List.getElem?_eq_getElem (by omega)]at b;rw[← Option.some.inj b]at c;exact h1 a c
theorem Abn {N:List GN} {E:List GE} {nx:Int} {i:Nat} (h:i<E.length) (h1:0<i→¬(E[i]).id≤(E[i-1]).id) (h2:(E[i]).id<1∨nx≤(E[i]).id):DZ N E nx i=1:=by
 unfold DZ;rw[List.getElem?_eq_getElem h];dsimp only;rw[if_neg (Qv h h1),if_pos h2]
theorem XZ {N:List GN} {E:List GE} {nx:Int} {i:Nat} (h:i<E.length) (h1:0<i→¬(E[i]).id≤(E[i-1]).id) (h2:¬((E[i]).id<1∨nx≤(E[i]).id)) (h3:¬((E[i]).fr∈F6 N∧(E[i]).to∈F6 N)):DZ N E nx i=10:=by
 unfold DZ;rw[List.getElem?_eq_getElem h];dsimp only;rw[if_neg (Qv h h1),if_neg h2,if_pos h3]
theorem Abp {N:List GN} {E:List GE} {nx:Int} {i:Nat} (h:i<E.length) (h1:0<i→¬(E[i]).id≤(E[i-1]).id) (h2:¬((E[i]).id<1∨nx≤(E[i]).id)) (h3:(E[i]).fr∈F6 N∧(E[i]).to∈F6 N) (h4:¬isName (E[i]).ty):DZ N E nx i=6:=by
 unfold DZ;rw[List.getElem?_eq_getElem h];dsimp only;rw[if_neg (Qv h h1),if_neg h2,if_neg (not_not_intro h3),if_pos h4]
theorem VT {N:List GN} {E:List GE} {nx:Int} {i:Nat} (h:i<E.length) (h1:0<i→¬(E[i]).id≤(E[i-1]).id) (h2:¬((E[i]).id<1∨nx≤(E[i]).id)) (h3:(E[i]).fr∈F6 N∧(E[i]).to∈F6 N) (h4:isName (E[i]).ty):DZ N E nx i=Dt [] (E[i]).props:=by
 unfold DZ;rw[List.getElem?_eq_getElem h];dsimp only;rw[if_neg (Qv h h1),if_neg h2,if_neg (not_not_intro h3),if_neg (not_not_intro h4)]
theorem I4 {N:List GN} {E:List GE} {nx:Int} {i:Nat} (h:i<E.length) (h0:DZ N E nx i=0):(0<i→(E[i-1]).id<(E[i]).id)∧1≤(E[i]).id∧(E[i]).id<nx∧(E[i]).fr∈F6 N∧(E[i]).to∈F6 N∧isName (E[i]).ty∧Dt [] (E[i]).props=0:=by
 by_cases h1:0<i∧(E[i]).id≤(E[i-1]).id
 ·rw[XY h h1.1 h1.2]at h0;omega
 have h1':0<i→¬(E[i]).id≤(E[i-1]).id:=fun a b=>h1 ⟨a,b⟩
 by_cases h2:(E[i]).id<1∨nx≤(E[i]).id
 ·rw[Abn h h1' h2]at h0;omega
 by_cases h3:(E[i]).fr∈F6 N∧(E[i]).to∈F6 N
 case neg=>rw[XZ h h1' h2 h3]at h0;omega
 by_cases h4:isName (E[i]).ty
 case neg=>rw[Abp h h1' h2 h3 h4]at h0;omega
 rw[VT h h1' h2 h3 h4]at h0
 exact⟨fun a=>by have:=h1' a;omega,by omega,by omega,h3.1,h3.2,h4,h0⟩
def Ea (g:GG):Prop:=g.nodes.length≤2000∧g.edges.length≤4000
def Gf (g:GG):Prop:=1≤g.Bl∧g.Bl≤1000001∧1≤g.Bq∧g.Bq≤1000001
instance (g:GG):Decidable (Ea g):=by unfold Ea;infer_instance
instance (g:GG):Decidable (Gf g):=by unfold Gf;infer_instance
noncomputable def Ba (g:GG):Int:=
 if¬Ea g then 4 else if¬Gf g then 1 else
  if IV (DW g.nodes g.Bl) g.nodes.length=0 then IV (DZ g.nodes g.edges g.Bq) g.edges.length else IV (DW g.nodes g.Bl) g.nodes.length
theorem Abr {g:GG} (h:¬Ea g):AV.int .i64 4=AV.int .i64 (Ba g):=by unfold Ba;rw[if_pos h]
theorem Abs {g:GG} (h:Ea g) (h1:¬Gf g):AV.int .i64 1=AV.int .i64 (Ba g):=by unfold Ba;rw[if_neg (not_not_intro h),if_pos h1]
theorem checkN {g:GG} (h:Ea g) (h1:Gf g) {i:Nat} (hi:i<g.nodes.length) (h2:∀k,k<i→DW g.nodes g.Bl k=0) {r:Int} (h3:DW g.nodes g.Bl i=r) (hr:r≠0):AV.int .i64 r=AV.int .i64 (Ba g):=by
 subst h3
 unfold Ba
 rw[if_neg (not_not_intro h),if_neg (not_not_intro h1),OX h2 hr hi,if_neg hr]
theorem Lu {g:GG} (h:Ea g) (h1:Gf g) (hn:∀k,k<g.nodes.length→DW g.nodes g.Bl k=0) {i:Nat} (hi:i<g.edges.length) (h2:∀k,k<i→DZ g.nodes g.edges g.Bq k=0) {r:Int} (h3:DZ g.nodes g.edges g.Bq i=r) (hr:r≠0):AV.int .i64 r=AV.int .i64 (Ba g):=by
 subst h3
 unfold Ba
 rw[if_neg (not_not_intro h),if_neg (not_not_intro h1),if_pos (Eh.2 hn),OX h2 hr hi]
theorem X0 {g:GG} (h:Ea g) (h1:Gf g) (hn:∀k,k<g.nodes.length→DW g.nodes g.Bl k=0) (h2:∀k,k<g.edges.length→DZ g.nodes g.edges g.Bq k=0):AV.int .i64 0=AV.int .i64 (Ba g):=by
 unfold Ba
 rw[if_neg (not_not_intro h),if_neg (not_not_intro h1),if_pos (Eh.2 hn),Eh.2 h2]
theorem XW {N:List GN} {nx:Int} (h:∀k,k<N.length→DW N nx k=0):incr (F6 N):=by
 intro j hj
 have hj':j+1<N.length:=by simpa using hj
 rw[LK (by omega),LK hj']
 exact(IZ hj' (h _ hj')).1 (by omega)
theorem ER {g:GG} (h:Ba g=0):Ea g∧Gf g∧(∀ k,k<g.nodes.length→DW g.nodes g.Bl k=0)∧∀k,k<g.edges.length→DZ g.nodes g.edges g.Bq k=0:=by
 unfold Ba at h
 by_cases h1:Ea g
 case neg=>rw[if_pos h1]at h;omega
 by_cases h2:Gf g
 case neg=>rw[if_neg (not_not_intro h1),if_pos h2]at h;omega
 rw[if_neg (not_not_intro h1),if_neg (not_not_intro h2)]at h
 split at h
 ·rename_i h3
  exact⟨h1,h2,Eh.1 h3,Eh.1 h⟩
 ·rename_i h3;exact absurd h h3
attribute [irreducible] DW DZ Ba IV
theorem IY {f:Nat→Int} {i:Nat} (h:∀k,k<i→f k=0) (hi:f i=0):∀k,k<i+1→f k=0:=by
 intro k hk
 rcases Nat.lt_or_ge k i with h1|h1
 ·exact h k h1
 ·obtain rfl:k=i:=by omega
  exact hi
theorem AfI {n:GN} (h:n.ok):Af (Ad tab) 47 [.sl n.ln (vs .str n.labels),.sl n.pn (vs GP.av n.props)] (· =.int .i64 (Dt n.labels n.props)):=
 Abm h.2.1 h.2.2.2.1 h.2.2.2.2.1 h.2.2.2.2.2.2
theorem AdF {n:GE} (h:n.ok):Af (Ad tab) 47 [.sl false [],.sl n.pn (vs GP.av n.props)] (· =.int .i64 (Dt [] n.props)):=
 Abm (L:=[]) (by decide) (by simp) h.2.2.2.2.1 h.2.2.2.2.2.2
theorem AfJ {g:GG} (hg:g.ok) (hf:Ea g) (hnx:Gf g) {c:Nat} {Q:Bd→Env→Ap→Prop}
 (hret:∀r s,AV.int .i64 r=AV.int .i64 (Ba g)→Q .ret [(2,.int .i64 r)] s)
 (hend:(∀ k,k<g.nodes.length→DW g.nodes g.Bl k=0)→∀c i,Q (.exit 0) [(1,.ref 0 0 0 0),(38,.sl g.nn (vs GN.av g.nodes)),(39,.int .i64 g.nodes.length),(40,.int .i64 i),(41,.bool false)] ⟨[.arr 0 4 true true [g.av]],c⟩):
 Run (Ad tab) (.loop l30_0_h l30_0_b) [(1,.ref 0 0 0 0),(38,.sl g.nn (vs GN.av g.nodes)),(39,.int .i64 g.nodes.length),(40,.int .i64 0)] ⟨[.arr 0 4 true true [g.av]],c⟩ Q:=by
 obtain⟨g1,g2,g3,g4,g5,g6,g7,g8⟩:=hg
 unfold Ln at g1 g4
 have hf':g.nodes.length≤2000:=hf.1
 refine Ak (fun m env s=>∃i:Nat,m=g.nodes.length-i∧env=[(1,.ref 0 0 0 0),(38,.sl g.nn (vs GN.av g.nodes)),(39,.int .i64 g.nodes.length),(40,.int .i64 i)]∧(∃ c,s=⟨[.arr 0 4 true true [g.av]],c⟩)∧∀k,k<i→DW g.nodes g.Bl k=0) ?_ _ _ _ ⟨0,rfl,by simp,⟨_,rfl⟩,fun k h=>absurd h (by omega)⟩
 rintro _ _ _ ⟨i,rfl,rfl,⟨c,rfl⟩,hx⟩
 refine⟨rfl,?_⟩
 have hat:∀h:i<g.nodes.length,(g.nodes[i]).ok:=fun h=>g3 _ (List.getElem_mem _)
 (conv=>whnf);repeat' (first|(apply Aq;(· exact nVz (i-1) (by omega) (by omega));conv=>whnf)|(refine Aa (AfI (n:=g.nodes[i]) (hat (by omega))) ?_;rintro _ rfl;conv=>whnf)|(refine hret _ _ ?_)|(refine hend (fun k hk=>hx k (by omega)) _ _)|(refine kA ?_;conv=>whnf)|(refine Br.mk (fun hc=>?_) fun hc=>?_<;>first|exact hc.elim|conv=>whnf)|(refine kB ?_))
 all_goals first
  |exact again.mk ⟨_,by omega,i+1,rfl,rfl,⟨_,rfl⟩,IY hx ((VR (by omega) (fun h=>by first|assumption|omega) (by omega)).trans hc)⟩
  |exact checkN hf hnx (by omega) hx (XV (by omega) (by omega) (by assumption)) (by decide)
  |exact checkN hf hnx (by omega) hx (node1 (by omega) (fun h=>by first|assumption|omega) (by omega)) (by decide)
  |exact checkN hf hnx (by omega) hx (VR (by omega) (fun h=>by first|assumption|omega) (by omega)) hc
set_option maxHeartbeats 1000000 in
theorem AfL {g:GG} (hg:g.ok) (hf:Ea g) (hnx:Gf g) (hN:∀k,k<g.nodes.length→DW g.nodes g.Bl k=0) {c:Nat} {Q:Bd→Env→Ap→Prop}
 (hret:∀r s,AV.int .i64 r=AV.int .i64 (Ba g)→Q .ret [(2,.int .i64 r)] s)
 (hend:(∀ k,k<g.edges.length→DZ g.nodes g.edges g.Bq k=0)→∀c i,Q (.exit 2) [(1,.ref 0 0 0 0),(79,.sl g.en (vs GE.av g.edges)),(80,.int .i64 g.edges.length),(81,.int .i64 i),(82,.bool false)] ⟨[.arr 0 4 true true [g.av]],c⟩):
 Run (Ad tab) (.loop l30_1_h l30_1_b) [(1,.ref 0 0 0 0),(79,.sl g.en (vs GE.av g.edges)),(80,.int .i64 g.edges.length),(81,.int .i64 0)] ⟨[.arr 0 4 true true [g.av]],c⟩ Q:=by
 obtain⟨g1,g2,g3,g4,g5,g6,g7,g8⟩:=hg
 unfold Ln at g1 g4
 have hf':g.edges.length≤4000:=hf.2
 have hI:=XW hN
 have hl:g.nodes.length<2^62:=by have:=hf.1;omega
 refine Ak (fun m env s=>∃i:Nat,m=g.edges.length-i∧env=[(1,.ref 0 0 0 0),(79,.sl g.en (vs GE.av g.edges)),(80,.int .i64 g.edges.length),(81,.int .i64 i)]∧(∃ c,s=⟨[.arr 0 4 true true [g.av]],c⟩)∧∀k,k<i→DZ g.nodes g.edges g.Bq k=0) ?_ _ _ _ ⟨0,rfl,by simp,⟨_,rfl⟩,fun k h=>absurd h (by omega)⟩
 rintro _ _ _ ⟨i,rfl,rfl,⟨c,rfl⟩,hx⟩
 refine⟨rfl,?_⟩
 have hat:∀h:i<g.edges.length,(g.edges[i]).ok:=fun h=>g6 _ (List.getElem_mem _)
 (conv=>whnf);repeat' (first|(apply Aq;(· exact nVz (i-1) (by omega) (by omega));conv=>whnf)|(refine BM (Ajj hl hI) (fun hc=>?_) (fun hc=>?_)<;>conv=>whnf)|(refine BM (name1 (s:=(g.edges[i]).ty) (hat (by omega)).2.2.2.1) (fun hnm=>?_) (fun hnm=>?_)<;>conv=>whnf)|(refine Aa (AdF (n:=g.edges[i]) (hat (by omega))) ?_;rintro _ rfl;conv=>whnf)|(refine hret _ _ ?_)|(refine hend (fun k hk=>hx k (by omega)) _ _)|(refine kA ?_;conv=>whnf)|(refine Br.mk (fun hc=>?_) fun hc=>?_<;>first|exact hc.elim|conv=>whnf)|(refine kB ?_))
 all_goals first
  |exact again.mk ⟨_,by omega,i+1,rfl,rfl,⟨_,rfl⟩,IY hx ((VT (by omega) (fun h=>by first|assumption|omega) (by omega) ⟨by assumption,by assumption⟩ hnm).trans hc)⟩
  |exact Lu hf hnx hN (by omega) hx (XY (by omega) (by omega) (by assumption)) (by decide)
  |exact Lu hf hnx hN (by omega) hx (Abn (by omega) (fun h=>by first|assumption|omega) (by omega)) (by decide)
  |exact Lu hf hnx hN (by omega) hx (XZ (by omega) (fun h=>by first|assumption|omega) (by omega) (fun h=>by first|exact absurd h.1 (by assumption)|exact absurd h.2 (by assumption))) (by decide)
  |exact Lu hf hnx hN (by omega) hx (Abp (by omega) (fun h=>by first|assumption|omega) (by omega) ⟨by assumption,by assumption⟩ hnm) (by decide)
  |exact Lu hf hnx hN (by omega) hx (VT (by omega) (fun h=>by first|assumption|omega) (by omega) ⟨by assumption,by assumption⟩ hnm) hc
theorem Abq {g:GG} (hg:g.ok):Af (Ad tab) 30 [g.av] (· =.int .i64 (Ba g)):=by
 have hg0:=hg
 obtain⟨g1,g2,g3,g4,g5,g6,g7,g8⟩:=hg
 unfold Ln at g1 g4
 refine Ac rfl rfl ?_
 (conv=>whnf);repeat' (first|(refine kA ?_;conv=>whnf)|(refine Br.mk (fun hc=>?_) fun hc=>?_<;>first|exact hc.elim|conv=>whnf)  |(refine kB ?_))
 all_goals first|exact Abr (by unfold Ea;omega)|exact Abs (by unfold Ea;omega) (by unfold Gf;omega)|skip
 have hf:Ea g:=by unfold Ea;omega
 have hnx:Gf g:=by unfold Gf;omega
 refine AfJ hg0 hf hnx (fun r s h=>by(conv=>whnf);(apply Au;(· rfl);conv=>whnf);(apply Au;(· rfl);conv=>whnf);exact h) (fun hN c i=>?_)
 (conv=>whnf);repeat' (first|(refine kA ?_;conv=>whnf)|(refine Br.mk (fun hc=>?_) fun hc=>?_<;>first|exact hc.elim|conv=>whnf)  |(refine kB ?_))
 refine AfL hg0 hf hnx hN (fun r s h=>by(conv=>whnf);(apply Au;(· rfl);conv=>whnf);(apply Au;(· rfl);conv=>whnf);exact h) (fun hE c i=>?_)
 (conv=>whnf);repeat' (first|(refine kA ?_;conv=>whnf)|(refine Br.mk (fun hc=>?_) fun hc=>?_<;>first|exact hc.elim|conv=>whnf)  |(refine kB ?_))
 exact X0 hf hnx hN hE
def Dn (g:GG):List Int:=g.nodes.map GN.id
theorem Hg (g:GG):(Dn g).length=g.nodes.length:=by simp[Dn]
theorem Qj {g:GG} {i:Nat} (h:i<g.nodes.length):(Dn g)[i]'(by rw[Hg];exact h)=(g.nodes[i]).id:=by simp[Dn]
theorem TM {g:GG} {i:Nat} (h:i<g.nodes.length):(Dn g).take (i+1)=(Dn g).take i++[(g.nodes[i]).id]:=by
 rw[List.take_succ_eq_append_getElem (by rw[Hg];exact h),Qj h]
theorem V8 {l:List Int} (h:∀i (hi:i<l.length),0<i→l[i-1]<l[i]):l.Pairwise (· <·):=by
 rw[List.pairwise_iff_getElem]
 intro i j hi hj hij
 induction j with
 |zero=>omega
 |succ j ih=>
  have h1:=h (j+1) hj (by omega)
  simp only[Nat.add_sub_cancel]at h1
  by_cases e:i=j
  ·subst e;exact h1
  ·exact Int.lt_trans (ih (by omega) (by omega)) h1
theorem AdR {g:GG} (h:Ba g=0):(Dn g).Pairwise (· <·):=V8 fun i hi h0=>by
 have hi':i<g.nodes.length:=by rw[← Hg];exact hi
 rw[Qj (by omega),Qj hi']
 exact(IZ hi' ((ER h).2.2.1 i hi')).1 h0
theorem AfQ {g:GG} (h:Ba g=0):(Dn g).Nodup:=(AdR h).imp fun h=>by omega
theorem AdS {g:GG} (h:Ba g=0):∀y∈Dn g,1≤y:=fun y hy=>by
 obtain⟨i,hi,rfl⟩:=List.getElem_of_mem hy
 have hi':i<g.nodes.length:=by rw[← Hg];exact hi
 rw[Qj hi']
 exact(IZ hi' ((ER h).2.2.1 i hi')).2.1
theorem V9 {g:GG} (h:Ba g=0):∀e∈g.edges,e.fr∈Dn g∧e.to∈Dn g:=fun e he=>by
 obtain⟨i,hi,rfl⟩:=List.getElem_of_mem he
 have:=I4 hi ((ER h).2.2.2 i hi)
 exact⟨this.2.2.2.1,this.2.2.2.2.1⟩
def KN (types:List (List UInt8)) (g:GG):List (Int×Int):=(MJ types g).map fun e=>(e.fr,e.to)
def FH (types:List (List UInt8)) (g:GG):List (Int×Int):=ET (Dn g) (KN types g)
theorem newF {P8:Obj} {c:Nat}:AQ (Ad tab) 38 [] ⟨[P8],c⟩ fun out s'=>∃c',out=.ok (.ref 2 (c+1) 0 0)∧s'=⟨VD P8 c (c+1) [] (fun z=>z) [],c'⟩:=by
 refine Am rfl rfl ?_
 (conv=>whnf);repeat' (first  |(refine kA ?_;conv=>whnf)|(refine Br.mk (fun hc=>?_) fun hc=>?_<;>first|exact hc.elim|conv=>whnf)|(refine kB ?_))
 all_goals first|exact⟨_,rfl,rfl⟩
theorem Wh {x:Int}:FQ (.int .i64 x) (.int .i64 x)=true:=by simp[FQ]
set_option maxHeartbeats 2000000 in
theorem Zh {types:List (List UInt8)} {tn:Bool} (hl:types.length<2^63) {g:GG} (hg:g.ok) (hN:g.nodes.length<2^39) (hE:g.edges.length<2^39):
 Af (Ad tab) 18 [g.av,.sl tn (vs .str types)] (fun v=>∃b,v=.sl b (vs pv (if Ba g=0 then FH types g else[]))∧(b=false→(if Ba g=0 then FH types g else[])=[])):=by
 have pc:=Abq hg
 by_cases hc:Ba g=0
 case neg=>
  rw[if_neg hc]
  refine Ac rfl rfl ?_
  (conv=>whnf);repeat' (first|(refine Aa pc ?_;rintro _ rfl;conv=>whnf)|(refine kA ?_;conv=>whnf)|(refine Br.mk (fun hc=>?_) fun hc=>?_<;>first|exact hc.elim|conv=>whnf)|(refine kB ?_))
  all_goals first|exact absurd ‹_› hc|exact⟨false,rfl,fun _=>rfl⟩
 rw[if_pos hc]
 rw[hc]at pc
 obtain⟨_,⟨be,rfl⟩,pe⟩:=(AfR (types:=types) (tn:=tn) hl hg hE).He
 have hnd:=AfQ hc
 have hpos:=AdS hc
 have QT:=V9 hc
 refine Ac rfl rfl ?_
 (conv=>whnf);repeat' (first|(refine Aa pc ?_;rintro _ rfl;conv=>whnf)|(refine (newF).mono ?_;rintro _ _ ⟨c',rfl,rfl⟩;conv=>whnf)|(refine kA ?_;conv=>whnf)|(refine Br.mk (fun hc=>?_) fun hc=>?_<;>first|exact hc.elim|conv=>whnf)|(refine kB ?_))
 all_goals first|(exfalso;omega)|skip
 refine Ak (fun m env s=>∃(i c:Nat),m=g.nodes.length-i∧env=[(1,.sl tn (vs .str types)),(2,.ref 0 0 0 0),(5,.ref 2 2 0 0),(18,.sl g.nn (vs GN.av g.nodes)),(19,.int .i64 g.nodes.length),(20,.int .i64 i)]∧s=⟨VD (.arr 0 4 true true [g.av]) 1 2 ((Dn g).take i) (fun z=>z) [],c⟩) ?_ _ _ _ ⟨0,_,rfl,rfl,rfl⟩
 rintro _ _ _ ⟨i,c,rfl,rfl,rfl⟩
 refine⟨rfl,?_⟩
 unfold VD
 by_cases hlt:i<g.nodes.length
 ·have hx:(g.nodes[i]).id∉(Dn g).take i:=by
   have h1:=TM hlt
   have h2:=hnd.sublist (List.take_sublist (i+1) (Dn g))
   rw[h1,List.nodup_append]at h2
   exact fun hm=>h2.2.2 _ hm _ (by simp) rfl
  (conv=>whnf);repeat' (first|(refine (Ahk hx).mono ?_;rintro _ _ ⟨c',rfl,rfl⟩;conv=>whnf)|(refine kA ?_;conv=>whnf)|(refine Br.mk (fun hc=>?_) fun hc=>?_<;>first|exact hc.elim|conv=>whnf)|(refine kB ?_))
  all_goals first
   |(exfalso;omega)
   |(rw [← TM hlt];exact again.mk ⟨_,by omega,i+1,_,rfl,rfl,rfl⟩)
 rw[List.take_of_length_le (by rw[Hg];omega)]
 (conv=>whnf);repeat' (first|(refine Aa pe ?_;rintro _ rfl;conv=>whnf)|(refine kA ?_;conv=>whnf)|(refine Br.mk (fun hc=>?_) fun hc=>?_<;>first|exact hc.elim|conv=>whnf)|(refine kB ?_))
 all_goals first|(exfalso;omega)|skip
 refine Ak (fun m env s=>∃(i c:Nat) (p r:Int→Int),m=(MJ types g).length-i∧Dk (Dn g) p r∧Bj (Dn g) r=ET (Dn g) ((KN types g).take i)∧env=[(2,.ref 0 0 0 0),(5,.ref 2 2 0 0),(31,.sl be (vs GE.av (MJ types g))),(32,.int .i64 (MJ types g).length),(33,.int .i64 i)]∧s=⟨VD (.arr 0 4 true true [g.av]) 1 2 (Dn g) p [],c⟩) ?_ _ _ _ ⟨0,_,_,_,rfl,.start _,rfl,rfl,rfl⟩
 rintro _ _ _ ⟨i,c,p,r,rfl,hF,hr,rfl,rfl⟩
 refine⟨rfl,?_⟩
 unfold VD
 have hEl:(MJ types g).length≤g.edges.length:=List.length_filter_le _ _
 by_cases hlt:i<(MJ types g).length
 ·obtain⟨ha,hb⟩:=QT _ (List.mem_filter.1 (List.getElem_mem hlt)).1
  have hstep:Bj (Dn g) (fun c=>(DY (r ((MJ types g)[i]).fr) (r ((MJ types g)[i]).to) (c,r c)).2)=ET (Dn g) ((KN types g).take (i+1)):=by
   rw[List.take_succ_eq_append_getElem (by simpa[KN]using hlt),QU,←hr]
   have e1:(KN types g)[i]'(by simpa[KN]using hlt)=(((MJ types g)[i]).fr,((MJ types g)[i]).to):=by simp[KN]
   rw[e1]
   exact(JF ha hb).symm
  (conv=>whnf);repeat' (first|(refine (Aji hF hnd hpos ha hb).mono ?_;rintro _ _ ⟨c',p',hF',rfl,rfl⟩;conv=>whnf)|(refine kA ?_;conv=>whnf)|(refine Br.mk (fun hc=>?_) fun hc=>?_<;>first|exact hc.elim|conv=>whnf)|(refine kB ?_))
  all_goals first
   |(exfalso;omega)
   |exact again.mk ⟨_,by omega,i+1,_,_,_,rfl,by assumption,hstep,rfl,rfl⟩
 rw[List.take_of_length_le (by simp[KN];omega)]at hr
 (conv=>whnf);repeat' (first  |(refine kA ?_;conv=>whnf)|(refine Br.mk (fun hc=>?_) fun hc=>?_<;>first|exact hc.elim|conv=>whnf)|(refine kB ?_))
 all_goals first|(exfalso;omega)|skip
 have hLl:(Bj (Dn g) r).length=g.nodes.length:=by simp[Bj,Dn]
 refine Ak (fun m env s=>∃(i c ga n:Nat) (b:Bool) (p:Int→Int),m=g.nodes.length-i∧i≤g.nodes.length∧n=i∧(b=false→i=0)∧Dk (Dn g) p r∧env=[(5,.ref 2 2 0 0),(10,.own 3 ga 0 n),(45,.sl g.nn (vs GN.av g.nodes)),(46,.int .i64 g.nodes.length),(47,.int .i64 i)]∧s=⟨VD (.arr 0 4 true true [g.av]) 1 2 (Dn g) p [.arr ga 2 b true (vs pv ((Bj (Dn g) r).take i))],c⟩) ?_ _ _ _ ⟨0,_,_,_,_,p,rfl,by omega,rfl,fun _=>rfl,hF,rfl,rfl⟩
 have QT:=hr
 clear hF hc hlt hr
 rintro _ _ _ ⟨i,c,ga,n,b,p,rfl,hi,rfl,hb0,hF,rfl,rfl⟩
 refine⟨rfl,?_⟩
 unfold VD
 by_cases hlt:n<g.nodes.length
 ·have hx:(g.nodes[n]).id∈Dn g:=List.mem_map_of_mem (List.getElem_mem hlt)
  have hsn:(Bj (Dn g) r).take (n+1)=(Bj (Dn g) r).take n++[((g.nodes[n]).id,r (g.nodes[n]).id)]:=by
   rw[List.take_succ_eq_append_getElem (by omega)]
   simp[Bj,Dn]
  have htl:((Bj (Dn g) r).take n).length=n:=by rw[List.length_take];omega
  (conv=>whnf);repeat' (first|(refine need.mk Wh ?_;conv=>whnf)|(refine (AfH hF hnd hpos hx).mono ?_;rintro _ _ ⟨c',p',hF',rfl,rfl⟩;conv=>whnf)|(refine IB (f:=pv) (l:=(Bj (Dn g) r).take n) (x:=((g.nodes[n]).id,r (g.nodes[n]).id)) JE htl.symm (by rw[htl];omega) ?_;conv=>whnf)|(refine kA ?_;conv=>whnf)|(refine Br.mk (fun hc=>?_) fun hc=>?_<;>first|exact hc.elim|conv=>whnf)|(refine kB ?_))
  all_goals first
   |(exfalso;omega)
   |(rw [← hsn];exact again.mk ⟨_,by omega,n+1,_,_,_,_,_,rfl,by omega,by omega,(fun h=>by cases h),by assumption,rfl,rfl⟩)
 ·rw[List.take_of_length_le (by omega)]
  (conv=>whnf);repeat' (first  |(refine kA ?_;conv=>whnf)|(refine Br.mk (fun hc=>?_) fun hc=>?_<;>first|exact hc.elim|conv=>whnf)|(refine kB ?_))
  all_goals first
   |(exfalso;omega)
   |exact⟨b,congrArg (AV.sl b) ((QE (by omega)).trans (congrArg (vs pv) QT)),fun h=>by
     have h1:=hb0 h
     have h2:(FH types g).length=0:=by rw[show FH types g=Bj (Dn g) r from QT.symm];omega
     exact List.eq_nil_of_length_eq_zero h2⟩
theorem bare {g:GV} {n d s l:Bool}:Af (Ad tab) 193 [g.av,.bool n,.bool d,.bool s,.bool l] (fun v=>∃b,v=.bool b):=by
 cases n<;>cases d<;>cases s<;>cases l<;>(
 refine Ac rfl rfl ?_
 (conv=>whnf);repeat' (first|(refine kA ?_;conv=>whnf)|(refine Br.mk (fun hc=>?_) fun hc=>?_<;>first|exact hc.elim|conv=>whnf)  |(refine kB ?_))
 all_goals exact⟨_,rfl⟩)
theorem AjQ {n:Int}:Af (Ad tab) 194 [.int .i64 n] (fun v=>∃b,v=.bool b):=by
 refine Ac rfl rfl ?_
 (conv=>whnf);repeat' (first|(refine kA ?_;conv=>whnf)|(refine Br.mk (fun hc=>?_) fun hc=>?_<;>first|exact hc.elim|conv=>whnf)  |(refine kB ?_))
 all_goals exact⟨_,rfl⟩
theorem size {n:Int} (h1:-2^62≤n) (h2:n≤2^62):Af (Ad tab) 192 [.int .i64 n] (fun v=>∃z,v=.int .i64 z∧0≤z∧(z=n∨z=-n)):=by
 refine Ac rfl rfl ?_
 (conv=>whnf);repeat' (first|(refine kA ?_;conv=>whnf)|(refine Br.mk (fun hc=>?_) fun hc=>?_<;>first|exact hc.elim|conv=>whnf)  |(refine kB ?_))
 all_goals exact⟨_,rfl,by omega,by omega⟩
theorem gcd {a b:Int} (h1:0≤a) (h2:0≤b):Af (Ad tab) 207 [.int .i64 a,.int .i64 b] (fun v=>∃z,v=.int .i64 z):=by
 refine Ac rfl rfl ?_
 (conv=>whnf);repeat' (first|(refine kA ?_;conv=>whnf)|(refine Br.mk (fun hc=>?_) fun hc=>?_<;>first|exact hc.elim|conv=>whnf)  |(refine kB ?_))
 refine Ak (fun m env s=>∃(a b:Int),m=b.toNat∧0≤a∧0≤b∧env=[(0,.int .i64 a),(1,.int .i64 b)]∧s=⟨[],0⟩) ?_ _ _ _ ⟨a,b,rfl,h1,h2,rfl,rfl⟩
 clear h1 h2 a b
 rintro _ _ _ ⟨a,b,rfl,h1,h2,rfl,rfl⟩
 refine⟨rfl,?_⟩
 (conv=>whnf);repeat' (first|(refine kA ?_;conv=>whnf)|(refine Br.mk (fun hc=>?_) fun hc=>?_<;>first|exact hc.elim|conv=>whnf)  |(refine kB ?_))
 ·have e:a.tmod b=a % b:=Int.tmod_eq_emod_of_nonneg h1
  have:=Int.emod_lt_of_pos a (by omega:0<b)
  have:=Int.emod_nonneg a (by omega:b≠0)
  exact again.mk ⟨_,by rw[e];omega,_,_,rfl,h2,by rw[e];omega,rfl,rfl⟩
 ·exact⟨_,rfl⟩
theorem Agw {n d:Int}:Af (Ad tab) 188 [.agg [.int .i64 n,.int .i64 d]] (fun v=>∃b,v=.bool b∧(b=true→1≤d∧d≤1000000000000000∧-1000000000000000≤n∧n≤1000000000000000)):=by
 refine Ac rfl rfl ?_
 (conv=>whnf);repeat' (first|(refine kA ?_;conv=>whnf)|(refine Br.mk (fun hc=>?_) fun hc=>?_<;>first|exact hc.elim|conv=>whnf)|(refine Aa (size (n:=n) (by omega) (by omega)) ?_;rintro _ ⟨z,rfl,hz1,hz2⟩;conv=>whnf)|(refine Aa (gcd (by omega) (by omega)) ?_;rintro _ ⟨z2,rfl⟩;conv=>whnf)|(refine kB ?_))
 all_goals first|exact⟨_,rfl,fun _=>by omega⟩|exact⟨_,rfl,fun h=>absurd h Bool.false_ne_true⟩
theorem Aia {s:List UInt8} (hl:s.length<2^63):Af (Ad tab) 195 [.str s] (fun v=>∃b,v=.bool b):=by
 refine Ac rfl rfl ?_
 (conv=>whnf);repeat' (first|(refine kA ?_;conv=>whnf)|(refine Br.mk (fun hc=>?_) fun hc=>?_<;>first|exact hc.elim|conv=>whnf)  |(refine kB ?_))
 refine Ak (fun m env s'=>∃i:Nat,m=s.length-i∧env=[(0,.str s),(3,.int .i64 i)]∧s'=⟨[],0⟩) ?_ _ _ _ ⟨0,rfl,rfl,rfl⟩
 rintro _ _ _ ⟨i,rfl,rfl,rfl⟩
 refine⟨rfl,?_⟩
 (conv=>whnf);repeat' (first|(refine kA ?_;conv=>whnf)|(refine Br.mk (fun hc=>?_) fun hc=>?_<;>first|exact hc.elim|conv=>whnf)  |(refine kB ?_))
 all_goals first|exact⟨_,rfl⟩|exact again.mk ⟨_,by omega,i+1,rfl,rfl,rfl⟩
theorem AaN {g:GV} {n:Int} (h:g.k=5∨g.k=6):Af (Ad tab) 169 [g.av,.int .i64 n] (fun v=>∃b,v=.bool b):=by
 refine Ac rfl rfl ?_
 (conv=>whnf);repeat' (first|(refine kA ?_;conv=>whnf)|(refine Br.mk (fun hc=>?_) fun hc=>?_<;>first|exact hc.elim|conv=>whnf)|(refine Aa (bare (g:=g)) ?_;rintro _ ⟨b,rfl⟩;conv=>whnf)|(refine kB ?_))
 all_goals exact⟨_,rfl⟩
theorem Agx {l:List AV} {nn:Bool} (hl:l.length<2^63) (h:∀x∈l,Like Tryz.prog 34 x):Af (Ad tab) 196 [.sl nn l] (fun v=>∃b,v=.bool b):=by
 refine Ac rfl rfl ?_
 (conv=>whnf);repeat' (first|(refine kA ?_;conv=>whnf)|(refine Br.mk (fun hc=>?_) fun hc=>?_<;>first|exact hc.elim|conv=>whnf)  |(refine kB ?_))
 all_goals first|exact⟨_,rfl⟩|skip
 refine Ak (fun m env s'=>∃i:Nat,m=l.length-i∧env=[(0,.sl nn l),(3,.int .i64 i)]∧s'=⟨[],0⟩) ?_ _ _ _ ⟨0,rfl,rfl,rfl⟩
 rintro _ _ _ ⟨i,rfl,rfl,rfl⟩
 refine⟨rfl,?_⟩
 obtain⟨gx,hgx⟩:=N8 h i
 (conv=>whnf);repeat' (first|(refine kA ?_;conv=>whnf)|(refine Br.mk (fun hc=>?_) fun hc=>?_<;>first|exact hc.elim|conv=>whnf)|(apply Aq;(· exact(hgx (by omega)).1);conv=>whnf)|(refine Aa (AaN (g:=gx) (by omega)) ?_;rintro _ ⟨b,rfl⟩;conv=>whnf)|(refine kB ?_))
 all_goals first|exact⟨_,rfl⟩|exact again.mk ⟨_,by omega,i+1,rfl,rfl,rfl⟩
theorem Ah8 {l:List AV} {nn:Bool} (hl:l.length<2^63):Af (Ad tab) 197 [.sl nn l,.int .i64 0] (fun v=>∃b,v=.bool b):=by
 refine Ac rfl rfl ?_
 (conv=>whnf);repeat' (first|(refine kA ?_;conv=>whnf)|(refine Br.mk (fun hc=>?_) fun hc=>?_<;>first|exact hc.elim|conv=>whnf)  |(refine kB ?_))
 all_goals exact⟨_,rfl⟩
theorem Ah9 {n:Nat} (ih:∀{g:GV},g.ok→Af (Ad tab) 169 [g.av,.int .i64 n] (fun v=>∃b,v=.bool b)) (hn:n<2^60) {l:List AV} {nn:Bool} (hl:l.length<2^63) (h:∀x∈l,Like Tryz.prog 34 x):
 Af (Ad tab) 197 [.sl nn l,.int .i64 (n+1:Nat)] (fun v=>∃b,v=.bool b):=by
 refine Ac rfl rfl ?_
 (conv=>whnf);repeat' (first|(refine kA ?_;conv=>whnf)|(refine Br.mk (fun hc=>?_) fun hc=>?_<;>first|exact hc.elim|conv=>whnf)  |(refine kB ?_))
 all_goals first|exact⟨_,rfl⟩|skip
 refine Ak (fun m env s'=>∃i:Nat,m=l.length-i∧env=[(0,.sl nn l),(1,.int .i64 (n+1:Nat)),(5,.int .i64 i)]∧s'=⟨[],0⟩) ?_ _ _ _ ⟨0,rfl,rfl,rfl⟩
 rintro _ _ _ ⟨i,rfl,rfl,rfl⟩
 refine⟨rfl,?_⟩
 obtain⟨gx,hgx⟩:=N8 h i
 have ih':∀{g:GV},g.ok→Af (Ad tab) 169 [g.av,.int .i64 (((n+1:Nat):Int)-1)] (fun v=>∃b,v=.bool b):=by
  rw[show ((n+1:Nat):Int)-1=(n:Int) by omega];exact ih
 (conv=>whnf);repeat' (first|(refine kA ?_;conv=>whnf)|(refine Br.mk (fun hc=>?_) fun hc=>?_<;>first|exact hc.elim|conv=>whnf)|(apply Aq;(· exact(hgx (by omega)).1);conv=>whnf)|(refine Aa (ih' (g:=gx) (hgx (by omega)).2.2) ?_;rintro _ ⟨b,rfl⟩;conv=>whnf)|(refine kB ?_))
 all_goals first|exact⟨_,rfl⟩|exact again.mk ⟨_,by omega,i+1,rfl,rfl,rfl⟩
theorem AcI {n:Int} {g:GV} (hg:g.ok) (hlist:Af (Ad tab) 197 [.sl g.nn g.l,.int .i64 n] (fun v=>∃b,v=.bool b)):
 Af (Ad tab) 169 [g.av,.int .i64 n] (fun v=>∃b,v=.bool b):=by
 obtain⟨g1,g2,g3,g4,g5,g6,g7⟩:=hg
 unfold Ln at g4 g5
 refine Ac rfl rfl ?_
 (conv=>whnf);repeat' (first|(refine kA ?_;conv=>whnf)|(refine Br.mk (fun hc=>?_) fun hc=>?_<;>first|exact hc.elim|conv=>whnf)|(refine Aa (bare (g:=g)) ?_;rintro _ ⟨b,rfl⟩;conv=>whnf)|(refine Aa (AjQ (n:=g.n)) ?_;rintro _ ⟨b,rfl⟩;conv=>whnf)|(refine Aa (Agw (n:=g.n) (d:=g.d)) ?_;rintro _ ⟨b,rfl,_⟩;conv=>whnf)|(refine Aa (Aia g4) ?_;rintro _ ⟨b,rfl⟩;conv=>whnf)|(refine Aa (Agx g5 g7) ?_;rintro _ ⟨b,rfl⟩;conv=>whnf)|(refine Aa hlist ?_;rintro _ ⟨b,rfl⟩;conv=>whnf)|(refine kB ?_))
 all_goals exact⟨_,rfl⟩
theorem valid {n:Nat} (hn:n<2^60):∀{g:GV},g.ok→Af (Ad tab) 169 [g.av,.int .i64 n] (fun v=>∃b,v=.bool b):=by
 induction n with
 |zero=>intro g hg;exact AcI hg (Ah8 hg.2.2.2.2.1)
 |succ n ih=>intro g hg;exact AcI hg (Ah9 (ih (by omega)) (by omega) hg.2.2.2.2.1 hg.2.2.2.2.2.2)
theorem Valid {g:GV} (hg:g.ok):Af (Ad tab) 138 [g.av] (fun v=>∃b,v=.bool b):=by
 refine Ac rfl rfl ?_
 (conv=>whnf);repeat' (first|(refine kA ?_;conv=>whnf)|(refine Br.mk (fun hc=>?_) fun hc=>?_<;>first|exact hc.elim|conv=>whnf)|(refine Aa (valid (n:=8) (by omega) hg) ?_;rintro _ ⟨b,rfl⟩;conv=>whnf)|(refine kB ?_))
 all_goals exact⟨_,rfl⟩
end AI
end Go.Proofs.YtgmgkkbpgndaaaaGreatDoor
