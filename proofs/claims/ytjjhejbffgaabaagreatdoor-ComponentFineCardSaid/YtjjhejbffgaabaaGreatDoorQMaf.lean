/- Join, both; Same. Names: the program's and the reference's. value.Plain and the reference's Plain: which values may be stored. Names in a list, increasing strings, labels and properties. What is wrong with labels and properties. Comparing two numbers. Looking for a node among increasing ids. graph.Check: the first error of a graph. graph.Check, walked. -/
import Derived.Test.YtjjhejbffgaabaaGreatDoorQMae
import Derived.Test.YtjjhejbffgaabaaGreatDoorQMac
import Derived.Test.YtjjhejbffgaabaaGreatDoorQGrCode
import Derived.Test.YtjjhejbffgaabaaGreatDoorQMaa
set_option linter.unusedVariables false
set_option maxRecDepth 4000
namespace Go.Proofs.YtjjhejbffgaabaaGreatDoor
namespace AI
theorem Adm {f:Int×Int→AV} {l:List (Int×Int)} {n:Nat} (h:n=l.length):sub (vs f l) 0 n=vs f l:=by subst h;exact uV
theorem AbE {l m:List (Int×Int)} {b1 b2:Bool} (hl:l.length<2^40) (hm:m.length<2^40):AX (Ag tab) 9 [.sl b1 (vs pv l),.sl b2 (vs pv m)] (· =.bool (decide (l=m))):=by
 by_cases hlen:l.length=m.length
 ·refine Ai rfl rfl ?_
  (conv=>whnf);repeat' (first  |(refine kA ?_;conv=>whnf)|(refine Br.mk (fun hc=>?_) fun hc=>?_<;>first|exact hc.elim|conv=>whnf)|(refine kB ?_))
  all_goals first|(exfalso;omega)|skip
  refine Au (fun z env s=>∃(i:Nat),z=l.length-i∧l.take i=m.take i∧env=[(0,.sl b1 (vs pv l)),(1,.sl b2 (vs pv m)),(5,.int .i64 i)]∧s=⟨[],0⟩) ?_ _ _ _ ⟨0,rfl,rfl,rfl,rfl⟩
  rintro _ _ _ ⟨i,rfl,hx,rfl,rfl⟩
  refine⟨rfl,?_⟩
  by_cases hlt:i<l.length
  ·have hb:bin .neq (.flat [.int,.int]) (.agg (List.take 2 (pv l[i]).cells)) (.agg (List.take 2 (pv (m[i]'(by omega))).cells))=some (.bool (!decide (l[i]=m[i]'(by omega)))):=by
        generalize l[i]=p
        generalize m[i]'_=q
        obtain⟨p1,p2⟩:=p
        obtain⟨q1,q2⟩:=q
        by_cases h1:p1=q1
        ·by_cases h2:p2=q2
         ·simp[bin,S9,Ik,BU,pv,AV.cells,h1,h2]
         ·have e2:(p2==q2)=false:=by simpa using h2
          simp[bin,S9,Ik,BU,pv,AV.cells,h1,h2,e2]
        ·have e1:(p1==q1)=false:=by simpa using h1
         simp[bin,S9,Ik,BU,pv,AV.cells,h1,e1]
   by_cases he:l[i]=m[i]'(by omega)
   ·rw[decide_eq_true he]at hb
    (conv=>whnf);repeat' (first|(apply BH hb;conv=>whnf)|(refine kA ?_;conv=>whnf)|(refine Br.mk (fun hc=>?_) fun hc=>?_<;>first|exact hc.elim|conv=>whnf)|(refine kB ?_))
    all_goals first
     |(exfalso;omega)
     |exact again.mk ⟨_,by omega,i+1,rfl,by rw[List.take_succ_eq_append_getElem hlt,List.take_succ_eq_append_getElem (by omega),hx,he],rfl,rfl⟩
   ·rw[decide_eq_false he]at hb
    have hno:¬l=m:=fun e=>he (by subst e;rfl)
    (conv=>whnf);repeat' (first|(apply BH hb;conv=>whnf)|(refine kA ?_;conv=>whnf)|(refine Br.mk (fun hc=>?_) fun hc=>?_<;>first|exact hc.elim|conv=>whnf)|(refine kB ?_))
    all_goals first
     |(exfalso;omega)
     |exact DF hno
  ·have hyes:l=m:=by rw[List.take_of_length_le (by omega),List.take_of_length_le (by omega)]at hx;exact hx
   (conv=>whnf);repeat' (first  |(refine kA ?_;conv=>whnf)|(refine Br.mk (fun hc=>?_) fun hc=>?_<;>first|exact hc.elim|conv=>whnf)|(refine kB ?_))
   all_goals first
        |(exfalso;omega)
        |exact FC hyes
 ·have hno:¬l=m:=fun e=>hlen (by rw[e])
  refine Ai rfl rfl ?_
  (conv=>whnf);repeat' (first  |(refine kA ?_;conv=>whnf)|(refine Br.mk (fun hc=>?_) fun hc=>?_<;>first|exact hc.elim|conv=>whnf)|(refine kB ?_))
  all_goals first|(exfalso;omega)|exact DF hno
def EG (c:Int):Prop:=(97≤c∧c≤122)∨(65≤c∧c≤90)
instance (c:Int):Decidable (EG c):=by unfold EG;infer_instance
theorem V7 {c:Int}:AX (Ag tab) 67 [.int .u8 c] (· =.bool (decide (EG c))):=by
 refine Ai rfl rfl ?_
 (conv=>whnf);repeat' (first|(refine kA ?_;conv=>whnf)|(refine Br.mk (fun hc=>?_) fun hc=>?_<;>first|exact hc.elim|conv=>whnf)  |(refine kB ?_))
 all_goals first|exact FC (by unfold EG;omega)|exact DF (by unfold EG;omega)
def Le (c:Int):Prop:=EG c∨(48≤c∧c≤57)∨c=95
instance (c:Int):Decidable (Le c):=by unfold Le;infer_instance
def isName (s:List UInt8):Prop:=0<s.length∧s.length≤20∧(∀ c,s[0]?=some c→EG c.toNat)∧∀c∈s,Le c.toNat
instance (s:List UInt8):Decidable (isName s):=by unfold isName;infer_instance
theorem Qx {s:List UInt8} (hs:0<s.length) (h:isName s):EG s[0].toNat:=h.2.2.1 _ (List.getElem?_eq_getElem hs)
theorem Xo {s:List UInt8} {i:Nat} (hi:i<s.length) (h:isName s):Le s[i].toNat:=h.2.2.2 _ (List.getElem_mem _)
theorem name1 {s:List UInt8} (hl:s.length<2^63):AX (Ag tab) 37 [.str s] (· =.bool (decide (isName s))):=by
 by_cases h0:s.length=0
 ·obtain rfl:s=[]:=List.length_eq_zero_iff.1 h0
  refine Ai rfl rfl ?_
  (conv=>whnf);repeat' (first|(refine kA ?_;conv=>whnf)|(refine Br.mk (fun hc=>?_) fun hc=>?_<;>first|exact hc.elim|conv=>whnf)  |(refine kB ?_))
  all_goals exact DF (by simp[isName])
 have hs:0<s.length:=by omega
 have hne:s≠[]:=by rintro rfl;simp at h0
 have hz:s[0]?=some s[0]:=List.getElem?_eq_getElem hs
 refine Ai rfl rfl ?_
 (conv=>whnf);repeat' (first|(refine kA ?_;conv=>whnf)|(refine Br.mk (fun hc=>?_) fun hc=>?_<;>first|exact hc.elim|conv=>whnf)|(refine Gn (V7) (fun hc=>?_) (fun hc=>?_)<;>conv=>whnf)|(refine kB ?_))
 all_goals first|exact absurd hc hne|exact DF (by unfold isName;omega)|exact DF fun h=>hc (Qx hs h)|skip
 refine Au (fun m env s'=>∃i:Nat,m=s.length-i∧env=[(0,.str s),(18,.int .i64 s.length),(19,.int .i64 i)]∧s'=⟨[],0⟩∧∀c∈s.take i,Le c.toNat) ?_ _ _ _ ⟨0,rfl,by simp,rfl,by simp⟩
 rintro _ _ _ ⟨i,rfl,rfl,rfl,hx⟩
 refine⟨rfl,?_⟩
 (conv=>whnf);repeat' (first|(refine kA ?_;conv=>whnf)|(refine Br.mk (fun hc=>?_) fun hc=>?_<;>first|exact hc.elim|conv=>whnf)|(refine Gn (V7) (fun hc=>?_) (fun hc=>?_)<;>conv=>whnf)|(refine kB ?_))
 all_goals first
  |exact again.mk ⟨_,by omega,i+1,rfl,rfl,rfl,BZ (by omega) hx (by unfold Le EG at *;omega)⟩
  |(refine DF fun h=>?_;have:=Xo (i:=i) (by omega) h;unfold Le EG at *;omega)
  |(rename_i hc1;exact FC ⟨hs,by omega,fun c h=>by rw[hz]at h;cases h;assumption,by rw[Ei hc]at hx;exact hx⟩)
theorem WS {AP:Nat→Option IZ} {f:Nat} {sp:List AV→Af→Option (Ar×Af)} {args:List AV} {R:AV→Prop} {v v':AV} {s:Af} (hf:AP f=some (.ext sp)) (h:sp args ⟨[],0⟩=some (.ok v,s)) (hs:snap s.σ GX v=some v') (hR:R v'):AX AP f args R:=
 ⟨v',⟨1,by simp only[Eb,run,hf,h];exact hs⟩,hR⟩
theorem ixP {l:List UInt8}:AX (Ag tab) 136 [.str l,.fn 137 []] (· =.int .i64 (Iu l)):=
 WS rfl rfl rfl rfl
theorem Lu {l:List UInt8}:Iu l<0↔∀c∈l,OU c=false:=by
 unfold Iu
 cases h:List.findIdx? OU l with
 |none=>
  refine⟨fun _ c hc=>?_,fun _=>by decide⟩
  have:=List.findIdx?_eq_none_iff.1 h c hc
  simpa using this
 |some i=>
  refine⟨fun h=>?_,fun ha=>?_⟩
  ·simp at h;omega
  ·obtain⟨h1,h2,_⟩:=List.findIdx?_eq_some_iff_getElem.1 h
   rw[ha _ (List.getElem_mem h1)]at h2
   cases h2
def inR (n:Int):Prop:=-1000000000000000≤n∧n≤1000000000000000
instance (n:Int):Decidable (inR n):=by unfold inR;infer_instance
theorem inP {n:Int}:AX (Ag tab) 134 [.int .i64 n] (· =.bool (decide (inR n))):=by
 refine Ai rfl rfl ?_
 (conv=>whnf);repeat' (first|(refine kA ?_;conv=>whnf)|(refine Br.mk (fun hc=>?_) fun hc=>?_<;>first|exact hc.elim|conv=>whnf)  |(refine kB ?_))
 all_goals first|exact FC (by unfold inR;omega)|exact DF (by unfold inR;omega)
def okS (s:List UInt8):Prop:=s.length≤100∧∀c∈s,OU c=false
instance (s:List UInt8):Decidable (okS s):=by unfold okS;infer_instance
def JE (v:GV):Prop:=v.d=0∧v.l.length=0∧(v.k=1∧v.s=[]∧(v.n=0∨v.n=1)∨v.k=2∧v.s=[]∧inR v.n∨v.k=4∧v.n=0∧okS v.s)
instance (v:GV):Decidable (JE v):=by unfold JE;infer_instance
def LC (v:GV):Prop:=v.k=1∨v.k=2∨v.k=4
instance (v:GV):Decidable (LC v):=by unfold LC;infer_instance
theorem WT {v:GV} (h:JE v):LC v:=by unfold JE at h;unfold LC;omega
theorem vld {v:GV} (hv:v.ok) (hk:LC v) {n:Int}:AX (Ag tab) 105 [v.av,.int .i64 n] (· =.bool (decide (JE v))):=by
 obtain⟨g1,g2,g3,g4,g5,g6,g7⟩:=hv
 unfold Ln at g4 g5
 unfold LC at hk
 refine Ai rfl rfl ?_
 (conv=>whnf);repeat' (first|(refine kA ?_;conv=>whnf)|(refine Br.mk (fun hc=>?_) fun hc=>?_<;>first|exact hc.elim|conv=>whnf)|(refine Gn (inP (n:=v.n)) (fun hr=>?_) (fun hr=>?_)<;>conv=>whnf)|(refine Ae (ixP (l:=v.s)) ?_;rintro _ rfl;conv=>whnf)|(refine kB ?_))
 all_goals first
  |exact DF (fun h=>by have:=h.2.1;omega)
  |(refine FC ?_;clear g7 g6;unfold JE okS;rw[← Lu];first|(simp_all;done)|(simp_all;omega))
  |(refine DF ?_;clear g7 g6;unfold JE okS;rw[← Lu];first|(simp_all;done)|(simp_all;omega))
theorem Aek {v:GV} (hv:v.ok) (hk:LC v):AX (Ag tab) 89 [v.av] (· =.bool (decide (JE v))):=by
 refine Ai rfl rfl ?_
 (conv=>whnf);repeat' (first|(refine kA ?_;conv=>whnf)|(refine Br.mk (fun hc=>?_) fun hc=>?_<;>first|exact hc.elim|conv=>whnf)|(refine Gn (vld (v:=v) hv hk) (fun hr=>?_) (fun hr=>?_)<;>conv=>whnf)|(refine kB ?_))
 all_goals first|exact FC (by assumption)|exact DF (by assumption)
theorem AbI {v:GV} (hv:v.ok):AX (Ag tab) 63 [v.av] (· =.bool (decide (JE v))):=by
 refine Ai rfl rfl ?_
 (conv=>whnf);repeat' (first|(refine kA ?_;conv=>whnf)|(refine Br.mk (fun hc=>?_) fun hc=>?_<;>first|exact hc.elim|conv=>whnf)|(refine Gn (Aek (v:=v) hv (by unfold LC;omega)) (fun hr=>?_) (fun hr=>?_)<;>conv=>whnf)|(refine kB ?_))
 all_goals first|exact FC (by assumption)|exact DF (by assumption)|exact DF fun h=>absurd (WT h) (by unfold LC;omega)
def allNames (l:List (List UInt8)):Prop:=∀s∈l,isName s
noncomputable instance (l:List (List UInt8)):Decidable (allNames l):=Classical.propDecidable _
def rises (l:List (List UInt8)):Prop:=∀j (h:j+1<l.length),(Op.bytesLess l[j+1] l[j]||l[j+1]==l[j])=false
noncomputable instance (l:List (List UInt8)):Decidable (rises l):=Classical.propDecidable _
theorem unn {s:List UInt8} (hl:s.length<2^63):AX (Ag tab) 61 [.str s] (· =.bool (decide (¬ isName s))):=by
 refine Ai rfl rfl ?_
 (conv=>whnf);repeat' (first|(refine kA ?_;conv=>whnf)|(refine Br.mk (fun hc=>?_) fun hc=>?_<;>first|exact hc.elim|conv=>whnf)|(refine Gn (name1 hl) (fun hr=>?_) (fun hr=>?_)<;>conv=>whnf)|(refine kB ?_))
 ·exact DF (fun h=>h hr)
 ·exact FC hr
theorem Ad3 {l:List (List UInt8)} {nn:Bool} (hl:l.length<2^63) (hs:∀s∈l,s.length<2^63):AX (Ag tab) 88 [.sl nn (vs .str l),.fn 61 []] (fun v=>∃z,v=.int .i64 z∧(0≤z↔¬allNames l)):=by
 refine Ai rfl rfl ?_
 (conv=>whnf);repeat' (first|(refine kA ?_;conv=>whnf)|(refine Br.mk (fun hc=>?_) fun hc=>?_<;>first|exact hc.elim|conv=>whnf)  |(refine kB ?_))
 refine Au (fun m env s=>∃i:Nat,m=l.length-i∧env=[(0,.sl nn (vs .str l)),(1,.fn 61 []),(7,.int .i64 l.length),(8,.int .i64 i)]∧s=⟨[],0⟩∧∀s∈l.take i,isName s) ?_ _ _ _ ⟨0,rfl,by simp,rfl,by simp⟩
 rintro _ _ _ ⟨i,rfl,rfl,rfl,hx⟩
 refine⟨rfl,?_⟩
 (conv=>whnf);repeat' (first|(refine kA ?_;conv=>whnf)|(refine Br.mk (fun hc=>?_) fun hc=>?_<;>first|exact hc.elim|conv=>whnf)|(refine Gn (unn (hs _ (List.getElem_mem (by omega)))) (fun hr=>?_) (fun hr=>?_)<;>conv=>whnf)|(refine kB ?_))
 ·exact⟨_,rfl,fun _ h=>hr (h _ (List.getElem_mem _)),fun _=>by omega⟩
 ·exact again.mk ⟨_,by omega,i+1,rfl,rfl,rfl,BZ (by omega) hx (Decidable.of_not_not hr)⟩
 ·rw[Ei hc]at hx;exact⟨_,rfl,fun h=>absurd h (by omega),fun h=>absurd hx h⟩
theorem YF {l:List (List UInt8)} {nn:Bool} (hl:l.length<2^63) (hs:∀s∈l,s.length<2^63):AX (Ag tab) 60 [.sl nn (vs .str l),.fn 61 []] (· =.bool (decide (¬ allNames l))):=by
 refine Ai rfl rfl ?_
 (conv=>whnf);repeat' (first|(refine kA ?_;conv=>whnf)|(refine Br.mk (fun hc=>?_) fun hc=>?_<;>first|exact hc.elim|conv=>whnf)  |(refine kB ?_))
 refine Ae (Ad3 hl hs) ?_
 rintro _ ⟨z,rfl,hz⟩
 (conv=>whnf);repeat' (first|(refine kA ?_;conv=>whnf)|(refine Br.mk (fun hc=>?_) fun hc=>?_<;>first|exact hc.elim|conv=>whnf)  |(refine kB ?_))
 ·exact FC (hz.1 hc)
 ·exact DF (mt hz.2 hc)
theorem YG {l:List (List UInt8)} {nn:Bool} (hl:l.length<2^63):AX (Ag tab) 62 [.sl nn (vs .str l)] (· =.bool (decide (rises l))):=by
 refine Ai rfl rfl ?_
 (conv=>whnf);repeat' (first|(refine kA ?_;conv=>whnf)|(refine Br.mk (fun hc=>?_) fun hc=>?_<;>first|exact hc.elim|conv=>whnf)  |(refine kB ?_))
 refine Au (fun m env s=>∃i:Nat,m=l.length-i∧env=[(0,.sl nn (vs .str l)),(3,.int .i64 (i+1:Nat))]∧s=⟨[],0⟩∧∀j (h:j+1<l.length),j<i→(Op.bytesLess l[j+1] l[j]||l[j+1]==l[j])=false) ?_ _ _ _ ⟨0,rfl,rfl,rfl,fun j _ h=>absurd h (by omega)⟩
 rintro _ _ _ ⟨i,rfl,rfl,rfl,hx⟩
 refine⟨rfl,?_⟩
 (conv=>whnf);repeat' (first|(refine kA ?_;conv=>whnf)|(refine Br.mk (fun hc=>?_) fun hc=>?_<;>first|exact hc.elim|conv=>whnf)|(apply Az;(· exact nVz i (by omega) (by omega));conv=>whnf)|(refine kB ?_))
 ·exact DF fun h=>by simp only[show (((i+1:Nat):Int)-1).toNat=i by omega]at hc;rw[h i (by omega)]at hc;cases hc
 ·simp only[show (((i+1:Nat):Int)-1).toNat=i by omega]at hc
  exact again.mk ⟨_,by omega,i+1,rfl,rfl,rfl,fun j h hj=>by
   by_cases e:j=i
   ·subst e;simpa using hc
   ·exact hx j h (by omega)⟩
 ·exact FC fun j h=>hx j h (by omega)
theorem AeN {g len:Nat} {nn cl:Bool} {l:List (List UInt8)} {x:List UInt8} {bytes:Nat} {K:Nat→Bool→Bool→List AV→Prop} (hl:len=l.length) (hr:(l.length+1)*bytes≤2 ^ 46) (h:K (len+1) true cl (vs .str (l++[x]))):
 LJ g g 1 1 len nn cl true (vs .str l) [.str x] bytes K:=by
 subst hl
 refine⟨⟨rfl,rfl,by simp,TI rfl,JF hr⟩,?_⟩
 rw[VX,Bool.and_true]
 simpa using h
def keysOf (P:List GP):List (List UInt8):=P.map GP.key
@[simp] theorem Pz (P:List GP):(keysOf P).length=P.length:=by simp[keysOf]
theorem Xc {P:List GP} (hp:∀p∈P,p.ok):∀s∈keysOf P,s.length<2^63:=by
 intro s h
 obtain⟨p,h1,rfl⟩:=List.mem_map.1 h
 exact(hp p h1).1
theorem TK {P:List GP} {i:Nat} (h:i<P.length):keysOf (P.take i)++[(P[i]).key]=keysOf (P.take (i+1)):=by
 rw[List.take_succ_eq_append_getElem h];unfold keysOf;rw[List.map_append];rfl
def allPlain (P:List GP):Prop:=∀p∈P,JE p.v
noncomputable instance (P:List GP):Decidable (allPlain P):=Classical.propDecidable _
noncomputable def Dq (L:List (List UInt8)) (P:List GP):Int:=
 if 8<L.length∨16<P.length then 4 else if¬(allNames L∧allNames (keysOf P))then 6 else if¬(rises L∧rises (keysOf P))then 26 else if¬allPlain P then 8 else 0
theorem VY {L:List (List UInt8)} {P:List GP} (h:8<L.length∨16<P.length):AV.int .i64 4=AV.int .i64 (Dq L P):=by rw[Dq,if_pos h]
theorem VZ {L:List (List UInt8)} {P:List GP} (h:¬(8<L.length∨16<P.length)) (h1:¬(allNames L∧allNames (keysOf P))):AV.int .i64 6=AV.int .i64 (Dq L P):=by rw[Dq,if_neg h,if_pos h1]
theorem TL {L:List (List UInt8)} {P:List GP} (h:¬(8<L.length∨16<P.length)) (h1:allNames L∧allNames (keysOf P)) (h2:¬(rises L∧rises (keysOf P))):AV.int .i64 26=AV.int .i64 (Dq L P):=by rw[Dq,if_neg h,if_neg (not_not_intro h1),if_pos h2]
theorem Aaw {L:List (List UInt8)} {P:List GP} (h:¬(8<L.length∨16<P.length)) (h1:allNames L∧allNames (keysOf P)) (h2:rises L∧rises (keysOf P)) (h3:¬allPlain P):AV.int .i64 8=AV.int .i64 (Dq L P):=by rw[Dq,if_neg h,if_neg (not_not_intro h1),if_neg (not_not_intro h2),if_pos h3]
theorem Aax {L:List (List UInt8)} {P:List GP} (h:¬(8<L.length∨16<P.length)) (h1:allNames L∧allNames (keysOf P)) (h2:rises L∧rises (keysOf P)) (h3:allPlain P):AV.int .i64 0=AV.int .i64 (Dq L P):=by rw[Dq,if_neg h,if_neg (not_not_intro h1),if_neg (not_not_intro h2),if_neg (not_not_intro h3)]
theorem X6 {L:List (List UInt8)} {P:List GP} {ln pn:Bool} (hL:L.length<2^63) (hs:∀s∈L,s.length<2^63) (hP:P.length<2^63) (hp:∀p∈P,p.ok):AX (Ag tab) 35 [.sl ln (vs .str L),.sl pn (vs GP.av P)] (· =.int .i64 (Dq L P)):=by
 have hk:=Xc hp
 refine Ai rfl rfl ?_
 (conv=>whnf);repeat' (first|(refine kA ?_;conv=>whnf)|(refine Br.mk (fun hc=>?_) fun hc=>?_<;>first|exact hc.elim|conv=>whnf)  |(refine kB ?_))
 ·exact VY (by omega)
 ·exact VY (by omega)
 have h16:¬(8<L.length∨16<P.length):=by omega
 refine Au (fun m env s=>∃(i g:Nat),m=P.length-i∧i≤P.length∧env=[(0,.sl ln (vs .str L)),(1,.sl pn (vs GP.av P)),(5,.own 0 g 0 i),(18,.sl pn (vs GP.av P)),(19,.int .i64 P.length),(20,.int .i64 i)]∧∃nn c,s=⟨[.arr g 1 nn true (vs .str (keysOf (P.take i)))],c⟩) ?_ _ _ _ ⟨0,0,rfl,by omega,rfl,_,_,rfl⟩
 rintro _ _ _ ⟨i,g,rfl,hi,rfl,nn,c,rfl⟩
 refine⟨rfl,?_⟩
 (conv=>whnf);repeat' (first|(refine kA ?_;conv=>whnf)|(refine Br.mk (fun hc=>?_) fun hc=>?_<;>first|exact hc.elim|conv=>whnf)  |(refine kB ?_))
 ·refine AeN (by simp;omega) (by simp;omega) ?_
  (conv=>whnf);repeat' (first|(refine kA ?_;conv=>whnf)|(refine Br.mk (fun hc=>?_) fun hc=>?_<;>first|exact hc.elim|conv=>whnf)  |(refine kB ?_))
  rw[TK (by omega)]
  exact again.mk ⟨_,by omega,i+1,_,rfl,by omega,rfl,_,_,rfl⟩
 ·rw[Ei hc]
  obtain rfl:i=P.length:=by omega
  have hu:sub (vs AV.str (keysOf P)) 0 P.length=vs .str (keysOf P):=by rw[← Pz P];exact uV
  have hkl:(keysOf P).length<2^63:=by rw[Pz];exact hP
  (conv=>whnf);repeat' (first|(refine Gn (YF hL hs) (fun h1=>?_) (fun h1=>?_)<;>conv=>whnf)|(rw [hu];refine Gn (YF hkl hk) (fun h2=>?_) (fun h2=>?_)<;>conv=>whnf)|(refine Gn (YG hL) (fun h3=>?_) (fun h3=>?_)<;>conv=>whnf)|(rw [hu];refine Gn (YG hkl) (fun h4=>?_) (fun h4=>?_)<;>conv=>whnf)|(refine kA ?_;conv=>whnf)|(refine Br.mk (fun hc=>?_) fun hc=>?_<;>first|exact hc.elim|conv=>whnf)|(refine kB ?_))
  ·exact VZ h16 fun h=>h1 h.1
  ·exact VZ h16 fun h=>h2 h.2
  ·refine Au (fun m env s=>∃(i:Nat),m=P.length-i∧env=[(44,.sl pn (vs GP.av P)),(45,.int .i64 P.length),(46,.int .i64 i)]∧(∃ c,s=⟨[.arr g 1 nn true (vs .str (keysOf P))],c⟩)∧∀p∈P.take i,JE p.v) ?_ _ _ _ ⟨0,rfl,rfl,⟨_,rfl⟩,by simp⟩
   clear hc hi
   rintro _ _ _ ⟨i,rfl,rfl,⟨c,rfl⟩,hx⟩
   refine⟨rfl,?_⟩
   (conv=>whnf);repeat' (first|(refine Gn (AbI (v:=(P[i]).v) (hp _ (List.getElem_mem (by omega))).2) (fun h5=>?_) (fun h5=>?_)<;>conv=>whnf)|(refine kA ?_;conv=>whnf)|(refine Br.mk (fun hc=>?_) fun hc=>?_<;>first|exact hc.elim|conv=>whnf)|(refine kB ?_))
   ·exact again.mk ⟨_,by omega,i+1,rfl,rfl,⟨_,rfl⟩,BZ (by omega) hx h5⟩
   ·exact Aaw h16 ⟨Classical.not_not.1 h1,Classical.not_not.1 h2⟩ ⟨h3,h4⟩ fun h=>h5 (h _ (List.getElem_mem _))
   ·rw[Ei hc]at hx
    exact Aax h16 ⟨Classical.not_not.1 h1,Classical.not_not.1 h2⟩ ⟨h3,h4⟩ hx
  ·exact TL h16 ⟨Classical.not_not.1 h1,Classical.not_not.1 h2⟩ fun h=>h4 h.2
  ·exact TL h16 ⟨Classical.not_not.1 h1,Classical.not_not.1 h2⟩ fun h=>h3 h.1
attribute [irreducible] Dq
theorem nan {x:Int}:AX (Ag tab) 90 [.int .i64 x] (· =.bool (decide False)):=by
 refine Ai rfl rfl ?_
 (conv=>whnf);repeat' (first  |(refine kA ?_;conv=>whnf)|(refine Br.mk (fun hc=>?_) fun hc=>?_<;>first|exact hc.elim|conv=>whnf)|(refine kB ?_))
 all_goals first|exact absurd rfl hc|rfl
def U7 (x y:Int):Int:=if x<y then -1 else if y<x then 1 else 0
theorem compare {x y:Int}:AX (Ag tab) 66 [.int .i64 x,.int .i64 y] (· =.int .i64 (U7 x y)):=by
 refine Ai rfl rfl ?_
 (conv=>whnf);repeat' (first|(refine Gn nan (fun hc=>absurd hc id) (fun _=>?_);conv=>whnf)|(refine kA ?_;conv=>whnf)|(refine Br.mk (fun hc=>?_) fun hc=>?_<;>first|exact hc.elim|conv=>whnf)|(refine kB ?_))
 all_goals unfold U7;first|(rw [if_pos (by omega)];rfl)|(rw [if_neg (by omega),if_pos (by omega)];rfl)|(rw [if_neg (by omega),if_neg (by omega)];rfl)
theorem TU {x y:Int}:U7 x y<0↔x<y:=by unfold U7;split<;>(try split)<;>omega
theorem QS {x y:Int}:U7 x y=0↔x=y:=by unfold U7;split<;>(try split)<;>omega
def incr (l:List Int):Prop:=∀j (h:j+1<l.length),l[j]<l[j+1]
noncomputable instance (l:List Int):Decidable (incr l):=Classical.propDecidable _
theorem V8 {l:List Int} (h:incr l) {i:Nat}:∀d (hd:i+d+1<l.length),l[i]<l[i+d+1]
 |0,hd=>h i hd
 |d+1,hd=>Int.lt_trans (V8 h d (by omega)) (h (i+d+1) hd)
theorem Xp {l:List Int} (h:incr l) {i j:Nat} (hij:i<j) (hj:j<l.length):l[i]<l[j]:=by
 obtain⟨d,rfl⟩:∃d,j=i+d+1:=⟨j-i-1,by omega⟩
 exact V8 h d hj
def Ht (N:List GN):List Int:=N.map GN.id
def Ady (E:List GE):List Int:=E.map GE.id
@[simp] theorem Adz (N:List GN):(Ht N).length=N.length:=by simp[Ht]
@[simp] theorem AdA (N:List GE):(Ady N).length=N.length:=by simp[Ady]
theorem Kw {N:List GN} {i:Nat} (h:i<N.length):(Ht N)[i]'(by simpa using h)=(N[i]).id:=by simp[Ht]
theorem U6 {N:List GN} (h:incr (Ht N)) {i j:Nat} (hij:i<j) (hj:j<N.length):(N[i]).id<(N[j]).id:=by
 have:=Xp h hij (by simpa using hj)
 rwa [Kw (by omega),Kw hj]at this
theorem AeV {n:GN} {x:Int}:AX (Ag tab) 65 [n.av,.int .i64 x] (· =.int .i64 (U7 n.id x)):=by
 refine Ai rfl rfl ?_
 (conv=>whnf);repeat' (first|(refine kA ?_;conv=>whnf)|(refine Br.mk (fun hc=>?_) fun hc=>?_<;>first|exact hc.elim|conv=>whnf)|(refine Ae compare ?_;rintro _ rfl;conv=>whnf)|(refine kB ?_))
 rfl
theorem bsearch {N:List GN} {nn:Bool} {x:Int} (hN:N.length<2^62) (hi:incr (Ht N)):AX (Ag tab) 64 [.sl nn (vs GN.av N),.int .i64 x,.fn 65 []] (fun v=>∃z b,v=.E5 [.int .i64 z,.bool b]∧(b=true↔x∈Ht N)):=by
 have fin:∀i:Nat,i≤N.length→(∀ k (h:k<N.length),k<i→(N[k]).id<x)→(∀ k (h:k<N.length),i≤k→x≤(N[k]).id)→(x∈Ht N↔∃h:i<N.length,(N[i]).id=x):=by
  intro i h0 h1 h2
  constructor
  ·intro h
   obtain⟨k,hk,e⟩:=List.getElem_of_mem h
   have hk':k<N.length:=by simpa using hk
   rw[Kw hk']at e
   have a1:=h1 k hk'
   have:i≤k:=by
        rcases Nat.lt_or_ge k i with h|h
        ·have:=a1 h;omega
        ·exact h
   rcases Nat.lt_or_ge i k with h|h
   ·have:=U6 hi h hk'
    have:=h2 i (by omega) (Nat.le_refl _)
    omega
   ·obtain rfl:i=k:=by omega
    exact⟨hk',e⟩
  ·rintro⟨h,e⟩
   rw[← e,←Kw h]
   exact List.getElem_mem _
 refine Ai rfl rfl ?_
 (conv=>whnf);repeat' (first|(refine kA ?_;conv=>whnf)|(refine Br.mk (fun hc=>?_) fun hc=>?_<;>first|exact hc.elim|conv=>whnf)  |(refine kB ?_))
 refine Au (fun m env s=>∃(i j:Nat),m=j-i∧i≤j∧j≤N.length∧env=[(0,.sl nn (vs GN.av N)),(1,.int .i64 x),(2,.fn 65 []),(8,.int .i64 N.length),(9,.int .i64 i),(10,.int .i64 j)]∧s=⟨[],0⟩∧
  (∀ k (h:k<N.length),k<i→(N[k]).id<x)∧(∀ k (h:k<N.length),j≤k→x≤(N[k]).id)) ?_ _ _ _ ⟨0,N.length,rfl,by omega,by omega,by simp,rfl,fun k _ h=>absurd h (by omega),fun k h1 h=>absurd h (by omega)⟩
 rintro _ _ _ ⟨i,j,rfl,hij,hj,rfl,rfl,h1,h2⟩
 refine⟨rfl,?_⟩
 (conv=>whnf);repeat' (first|(refine AdB (i+j) (by omega) (by omega) ?_;conv=>whnf)|(apply EU;(· exact AeW _);conv=>whnf)|(refine Ae AeV ?_;rintro _ rfl;conv=>whnf)|(refine kA ?_;conv=>whnf)|(refine Br.mk (fun hc=>?_) fun hc=>?_<;>first|exact hc.elim|conv=>whnf)|(refine kB ?_))
 ·have hm:=TU.1 hc
  exact again.mk ⟨_,by omega,(i+j) / 2+1,j,rfl,by omega,hj,rfl,rfl,fun k hk hlt=>by
   rcases Nat.lt_or_ge k ((i+j) / 2)with h|h
   ·exact Int.lt_trans (U6 hi h (by omega)) hm
   ·obtain rfl:k=(i+j) / 2:=by omega
    exact hm,h2⟩
 ·have hm:=mt TU.2 hc
  exact again.mk ⟨_,by omega,i,(i+j) / 2,rfl,by omega,by omega,rfl,rfl,h1,fun k hk hle=>by
   rcases Nat.lt_or_ge ((i+j) / 2) k with h|h
   ·have:=U6 hi h hk;omega
   ·obtain rfl:k=(i+j) / 2:=by omega
    omega⟩
 all_goals have hf:=fin i (by omega) h1 (fun k hk h=>h2 k hk (by omega))
 ·exact⟨_,_,rfl,fun _=>hf.2 ⟨by omega,QS.1 hc⟩,fun _=>rfl⟩
 ·exact⟨_,_,rfl,fun h=>(Bool.noConfusion h),fun h=>absurd (QS.2 (hf.1 h).2) hc⟩
 ·exact⟨_,_,rfl,fun h=>(Bool.noConfusion h),fun h=>absurd (hf.1 h).1 (by omega)⟩
theorem Aem {N:List GN} {nn:Bool} {x:Int} (hN:N.length<2^62) (hi:incr (Ht N)):AX (Ag tab) 36 [.sl nn (vs GN.av N),.int .i64 x] (· =.bool (decide (x∈Ht N))):=by
 refine Ai rfl rfl ?_
 (conv=>whnf);repeat' (first|(refine kA ?_;conv=>whnf)|(refine Br.mk (fun hc=>?_) fun hc=>?_<;>first|exact hc.elim|conv=>whnf)  |(refine kB ?_))
 refine Ae (bsearch hN hi) ?_
 rintro _ ⟨z,b,rfl,hb⟩
 (conv=>whnf);repeat' (first|(refine kA ?_;conv=>whnf)|(refine Br.mk (fun hc=>?_) fun hc=>?_<;>first|exact hc.elim|conv=>whnf)  |(refine kB ?_))
 ·exact FC (hb.1 hc)
 ·exact DF fun h=>by rw[hb.2 h]at hc;cases hc
def Hz (f:Nat→Int):Nat→Int
 |0=>0
 |n+1=>if Hz f n=0 then f n else Hz f n
theorem DC {f:Nat→Int}:∀{n:Nat},Hz f n=0↔∀k,k<n→f k=0
 |0=>by simp[Hz]
 |n+1=>by
  unfold Hz
  split
  ·rename_i h
   have:=DC.1 h
   refine⟨fun h0 k hk=>?_,fun h0=>h0 n (by omega)⟩
   rcases Nat.lt_or_ge k n with h1|h1
   ·exact this k h1
   ·obtain rfl:k=n:=by omega
    exact h0
  ·rename_i h
   exact⟨fun h0=>absurd h0 h,fun h0=>absurd (DC.2 fun k hk=>h0 k (by omega)) h⟩
theorem NT {f:Nat→Int} {i:Nat} (h:∀k,k<i→f k=0) (hi:f i≠0):∀{n:Nat},i<n→Hz f n=f i
 |0,hn=>absurd hn (by omega)
 |n+1,hn=>by
  unfold Hz
  rcases Nat.lt_or_ge i n with h1|h1
  ·rw[NT h hi h1,if_neg hi]
  ·obtain rfl:i=n:=by omega
   rw[if_pos (DC.2 h)]
noncomputable def EY (N:List GN) (nx:Int) (i:Nat):Int:=
 match N[i]? with
 |none=>0
 |some n=>if 0<i∧(∃ m,N[i-1]?=some m∧n.id≤m.id)then 26 else if n.id<1∨nx≤n.id then 1 else Dq n.labels n.props
noncomputable def EZ (N:List GN) (E:List GE) (nx:Int) (i:Nat):Int:=
 match E[i]? with
 |none=>0
 |some e=>if 0<i∧(∃ m,E[i-1]?=some m∧e.id≤m.id)then 26 else if e.id<1∨nx≤e.id then 1 else if¬(e.fr∈Ht N∧e.to∈Ht N)then 10 else if¬isName e.ty then 6 else Dq [] e.props
theorem X8 {N:List GN} {nx:Int} {i:Nat} (h:i<N.length) (h0:0<i) (h1:(N[i]).id≤(N[i-1]).id):EY N nx i=26:=by
 unfold EY;rw[List.getElem?_eq_getElem h];exact if_pos ⟨h0,_,List.getElem?_eq_getElem (by omega),h1⟩
theorem WI {N:List GN} {i:Nat} (h:i<N.length) (h1:0<i→¬(N[i]).id≤(N[i-1]).id):¬(0<i∧∃m,N[i-1]?=some m∧(N[i]).id≤m.id):=by
 rintro⟨a,m,b,c⟩;rw[List.getElem?_eq_getElem (by omega)]at b;rw[← Option.some.inj b]at c;exact h1 a c
theorem node1 {N:List GN} {nx:Int} {i:Nat} (h:i<N.length) (h1:0<i→¬(N[i]).id≤(N[i-1]).id) (h2:(N[i]).id<1∨nx≤(N[i]).id):EY N nx i=1:=by
 unfold EY;rw[List.getElem?_eq_getElem h];dsimp only;rw[if_neg (WI h h1),if_pos h2]
theorem X7 {N:List GN} {nx:Int} {i:Nat} (h:i<N.length) (h1:0<i→¬(N[i]).id≤(N[i-1]).id) (h2:¬((N[i]).id<1∨nx≤(N[i]).id)):EY N nx i=Dq (N[i]).labels (N[i]).props:=by
 unfold EY;rw[List.getElem?_eq_getElem h];dsimp only;rw[if_neg (WI h h1),if_neg h2]
theorem RG {N:List GN} {nx:Int} {i:Nat} (h:i<N.length) (h0:EY N nx i=0):(0<i→(N[i-1]).id<(N[i]).id)∧1≤(N[i]).id∧(N[i]).id<nx∧Dq (N[i]).labels (N[i]).props=0:=by
 by_cases h1:0<i∧(N[i]).id≤(N[i-1]).id
 ·rw[X8 h h1.1 h1.2]at h0;omega
 have h1':0<i→¬(N[i]).id≤(N[i-1]).id:=fun a b=>h1 ⟨a,b⟩
 by_cases h2:(N[i]).id<1∨nx≤(N[i]).id
 ·rw[node1 h h1' h2]at h0;omega
 rw[X7 h h1' h2]at h0
 exact⟨fun a=>by have:=h1' a;omega,by omega,by omega,h0⟩
theorem X9 {N:List GN} {E:List GE} {nx:Int} {i:Nat} (h:i<E.length) (h0:0<i) (h1:(E[i]).id≤(E[i-1]).id):EZ N E nx i=26:=by
 unfold EZ;rw[List.getElem?_eq_getElem h];exact if_pos ⟨h0,_,List.getElem?_eq_getElem (by omega),h1⟩
theorem OT {E:List GE} {i:Nat} (h:i<E.length) (h1:0<i→¬(E[i]).id≤(E[i-1]).id):¬(0<i∧∃m,E[i-1]?=some m∧(E[i]).id≤m.id):=by
 rintro⟨a,m,b,c⟩;rw[List.getElem?_eq_getElem (by omega)]at b;rw[← Option.some.inj b]at c;exact h1 a c
theorem Abe {N:List GN} {E:List GE} {nx:Int} {i:Nat} (h:i<E.length) (h1:0<i→¬(E[i]).id≤(E[i-1]).id) (h2:(E[i]).id<1∨nx≤(E[i]).id):EZ N E nx i=1:=by
 unfold EZ;rw[List.getElem?_eq_getElem h];dsimp only;rw[if_neg (OT h h1),if_pos h2]
theorem Ya {N:List GN} {E:List GE} {nx:Int} {i:Nat} (h:i<E.length) (h1:0<i→¬(E[i]).id≤(E[i-1]).id) (h2:¬((E[i]).id<1∨nx≤(E[i]).id)) (h3:¬((E[i]).fr∈Ht N∧(E[i]).to∈Ht N)):EZ N E nx i=10:=by
 unfold EZ;rw[List.getElem?_eq_getElem h];dsimp only;rw[if_neg (OT h h1),if_neg h2,if_pos h3]
theorem Abf {N:List GN} {E:List GE} {nx:Int} {i:Nat} (h:i<E.length) (h1:0<i→¬(E[i]).id≤(E[i-1]).id) (h2:¬((E[i]).id<1∨nx≤(E[i]).id)) (h3:(E[i]).fr∈Ht N∧(E[i]).to∈Ht N) (h4:¬isName (E[i]).ty):EZ N E nx i=6:=by
 unfold EZ;rw[List.getElem?_eq_getElem h];dsimp only;rw[if_neg (OT h h1),if_neg h2,if_neg (not_not_intro h3),if_pos h4]
theorem VL {N:List GN} {E:List GE} {nx:Int} {i:Nat} (h:i<E.length) (h1:0<i→¬(E[i]).id≤(E[i-1]).id) (h2:¬((E[i]).id<1∨nx≤(E[i]).id)) (h3:(E[i]).fr∈Ht N∧(E[i]).to∈Ht N) (h4:isName (E[i]).ty):EZ N E nx i=Dq [] (E[i]).props:=by
 unfold EZ;rw[List.getElem?_eq_getElem h];dsimp only;rw[if_neg (OT h h1),if_neg h2,if_neg (not_not_intro h3),if_neg (not_not_intro h4)]
theorem VW {N:List GN} {E:List GE} {nx:Int} {i:Nat} (h:i<E.length) (h0:EZ N E nx i=0):(0<i→(E[i-1]).id<(E[i]).id)∧1≤(E[i]).id∧(E[i]).id<nx∧(E[i]).fr∈Ht N∧(E[i]).to∈Ht N∧isName (E[i]).ty∧Dq [] (E[i]).props=0:=by
 by_cases h1:0<i∧(E[i]).id≤(E[i-1]).id
 ·rw[X9 h h1.1 h1.2]at h0;omega
 have h1':0<i→¬(E[i]).id≤(E[i-1]).id:=fun a b=>h1 ⟨a,b⟩
 by_cases h2:(E[i]).id<1∨nx≤(E[i]).id
 ·rw[Abe h h1' h2]at h0;omega
 by_cases h3:(E[i]).fr∈Ht N∧(E[i]).to∈Ht N
 case neg=>rw[Ya h h1' h2 h3]at h0;omega
 by_cases h4:isName (E[i]).ty
 case neg=>rw[Abf h h1' h2 h3 h4]at h0;omega
 rw[VL h h1' h2 h3 h4]at h0
 exact⟨fun a=>by have:=h1' a;omega,by omega,by omega,h3.1,h3.2,h4,h0⟩
def Gp (g:GG):Prop:=g.nodes.length≤2000∧g.edges.length≤4000
def H6 (g:GG):Prop:=1≤g.F5∧g.F5≤1000001∧1≤g.Gq∧g.Gq≤1000001
instance (g:GG):Decidable (Gp g):=by unfold Gp;infer_instance
instance (g:GG):Decidable (H6 g):=by unfold H6;infer_instance
noncomputable def BK (g:GG):Int:=
 if¬Gp g then 4 else if¬H6 g then 1 else
  if Hz (EY g.nodes g.F5) g.nodes.length=0 then Hz (EZ g.nodes g.edges g.Gq) g.edges.length else Hz (EY g.nodes g.F5) g.nodes.length
theorem AbM {g:GG} (h:¬Gp g):AV.int .i64 4=AV.int .i64 (BK g):=by unfold BK;rw[if_pos h]
theorem AbN {g:GG} (h:Gp g) (h1:¬H6 g):AV.int .i64 1=AV.int .i64 (BK g):=by unfold BK;rw[if_neg (not_not_intro h),if_pos h1]
theorem checkN {g:GG} (h:Gp g) (h1:H6 g) {i:Nat} (hi:i<g.nodes.length) (h2:∀k,k<i→EY g.nodes g.F5 k=0) {r:Int} (h3:EY g.nodes g.F5 i=r) (hr:r≠0):AV.int .i64 r=AV.int .i64 (BK g):=by
 subst h3
 unfold BK
 rw[if_neg (not_not_intro h),if_neg (not_not_intro h1),NT h2 hr hi,if_neg hr]
theorem LD {g:GG} (h:Gp g) (h1:H6 g) (hn:∀k,k<g.nodes.length→EY g.nodes g.F5 k=0) {i:Nat} (hi:i<g.edges.length) (h2:∀k,k<i→EZ g.nodes g.edges g.Gq k=0) {r:Int} (h3:EZ g.nodes g.edges g.Gq i=r) (hr:r≠0):AV.int .i64 r=AV.int .i64 (BK g):=by
 subst h3
 unfold BK
 rw[if_neg (not_not_intro h),if_neg (not_not_intro h1),if_pos (DC.2 hn),NT h2 hr hi]
theorem Yb {g:GG} (h:Gp g) (h1:H6 g) (hn:∀k,k<g.nodes.length→EY g.nodes g.F5 k=0) (h2:∀k,k<g.edges.length→EZ g.nodes g.edges g.Gq k=0):AV.int .i64 0=AV.int .i64 (BK g):=by
 unfold BK
 rw[if_neg (not_not_intro h),if_neg (not_not_intro h1),if_pos (DC.2 hn),DC.2 h2]
theorem UD {N:List GN} {nx:Int} (h:∀k,k<N.length→EY N nx k=0):incr (Ht N):=by
 intro j hj
 have hj':j+1<N.length:=by simpa using hj
 rw[Kw (by omega),Kw hj']
 exact(RG hj' (h _ hj')).1 (by omega)
theorem Mc {g:GG} (h:BK g=0):Gp g∧H6 g∧(∀ k,k<g.nodes.length→EY g.nodes g.F5 k=0)∧∀k,k<g.edges.length→EZ g.nodes g.edges g.Gq k=0:=by
 unfold BK at h
 by_cases h1:Gp g
 case neg=>rw[if_pos h1]at h;omega
 by_cases h2:H6 g
 case neg=>rw[if_neg (not_not_intro h1),if_pos h2]at h;omega
 rw[if_neg (not_not_intro h1),if_neg (not_not_intro h2)]at h
 split at h
 ·rename_i h3
  exact⟨h1,h2,DC.1 h3,DC.1 h⟩
 ·rename_i h3;exact absurd h h3
attribute [irreducible] EY EZ BK Hz
theorem NU {f:Nat→Int} {i:Nat} (h:∀k,k<i→f k=0) (hi:f i=0):∀k,k<i+1→f k=0:=by
 intro k hk
 rcases Nat.lt_or_ge k i with h1|h1
 ·exact h k h1
 ·obtain rfl:k=i:=by omega
  exact hi
theorem AbJ {n:GN} (h:n.ok):AX (Ag tab) 35 [.sl n.ln (vs .str n.labels),.sl n.pn (vs GP.av n.props)] (· =.int .i64 (Dq n.labels n.props)):=
 X6 h.2.1 h.2.2.2.1 h.2.2.2.2.1 h.2.2.2.2.2.2
theorem Aae {n:GE} (h:n.ok):AX (Ag tab) 35 [.sl false [],.sl n.pn (vs GP.av n.props)] (· =.int .i64 (Dq [] n.props)):=
 X6 (L:=[]) (by decide) (by simp) h.2.2.2.2.1 h.2.2.2.2.2.2
theorem AbK {g:GG} (hg:g.ok) (hf:Gp g) (hnx:H6 g) {c:Nat} {Q:AY→Env→Af→Prop}
 (hret:∀r s,AV.int .i64 r=AV.int .i64 (BK g)→Q .ret [(2,.int .i64 r)] s)
 (hend:(∀ k,k<g.nodes.length→EY g.nodes g.F5 k=0)→∀c i,Q (.exit 0) [(1,.ref 0 0 0 0),(38,.sl g.nn (vs GN.av g.nodes)),(39,.int .i64 g.nodes.length),(40,.int .i64 i),(41,.bool false)] ⟨[.arr 0 4 true true [g.av]],c⟩):
 Run (Ag tab) (.loop l14_0_h l14_0_b) [(1,.ref 0 0 0 0),(38,.sl g.nn (vs GN.av g.nodes)),(39,.int .i64 g.nodes.length),(40,.int .i64 0)] ⟨[.arr 0 4 true true [g.av]],c⟩ Q:=by
 obtain⟨g1,g2,g3,g4,g5,g6,g7,g8⟩:=hg
 unfold Ln at g1 g4
 have hf':g.nodes.length≤2000:=hf.1
 refine Au (fun m env s=>∃i:Nat,m=g.nodes.length-i∧env=[(1,.ref 0 0 0 0),(38,.sl g.nn (vs GN.av g.nodes)),(39,.int .i64 g.nodes.length),(40,.int .i64 i)]∧(∃ c,s=⟨[.arr 0 4 true true [g.av]],c⟩)∧∀k,k<i→EY g.nodes g.F5 k=0) ?_ _ _ _ ⟨0,rfl,by simp,⟨_,rfl⟩,fun k h=>absurd h (by omega)⟩
 rintro _ _ _ ⟨i,rfl,rfl,⟨c,rfl⟩,hx⟩
 refine⟨rfl,?_⟩
 have hat:∀h:i<g.nodes.length,(g.nodes[i]).ok:=fun h=>g3 _ (List.getElem_mem _)
 (conv=>whnf);repeat' (first|(apply Az;(· exact nVz (i-1) (by omega) (by omega));conv=>whnf)|(refine Ae (AbJ (n:=g.nodes[i]) (hat (by omega))) ?_;rintro _ rfl;conv=>whnf)|(refine hret _ _ ?_)|(refine hend (fun k hk=>hx k (by omega)) _ _)|(refine kA ?_;conv=>whnf)|(refine Br.mk (fun hc=>?_) fun hc=>?_<;>first|exact hc.elim|conv=>whnf)|(refine kB ?_))
 all_goals first
  |exact again.mk ⟨_,by omega,i+1,rfl,rfl,⟨_,rfl⟩,NU hx ((X7 (by omega) (fun h=>by first|assumption|omega) (by omega)).trans hc)⟩
  |exact checkN hf hnx (by omega) hx (X8 (by omega) (by omega) (by assumption)) (by decide)
  |exact checkN hf hnx (by omega) hx (node1 (by omega) (fun h=>by first|assumption|omega) (by omega)) (by decide)
  |exact checkN hf hnx (by omega) hx (X7 (by omega) (fun h=>by first|assumption|omega) (by omega)) hc
set_option maxHeartbeats 1000000 in
theorem AbL {g:GG} (hg:g.ok) (hf:Gp g) (hnx:H6 g) (hN:∀k,k<g.nodes.length→EY g.nodes g.F5 k=0) {c:Nat} {Q:AY→Env→Af→Prop}
 (hret:∀r s,AV.int .i64 r=AV.int .i64 (BK g)→Q .ret [(2,.int .i64 r)] s)
 (hend:(∀ k,k<g.edges.length→EZ g.nodes g.edges g.Gq k=0)→∀c i,Q (.exit 2) [(1,.ref 0 0 0 0),(79,.sl g.en (vs GE.av g.edges)),(80,.int .i64 g.edges.length),(81,.int .i64 i),(82,.bool false)] ⟨[.arr 0 4 true true [g.av]],c⟩):
 Run (Ag tab) (.loop l14_1_h l14_1_b) [(1,.ref 0 0 0 0),(79,.sl g.en (vs GE.av g.edges)),(80,.int .i64 g.edges.length),(81,.int .i64 0)] ⟨[.arr 0 4 true true [g.av]],c⟩ Q:=by
 obtain⟨g1,g2,g3,g4,g5,g6,g7,g8⟩:=hg
 unfold Ln at g1 g4
 have hf':g.edges.length≤4000:=hf.2
 have hI:=UD hN
 have hl:g.nodes.length<2^62:=by have:=hf.1;omega
 refine Au (fun m env s=>∃i:Nat,m=g.edges.length-i∧env=[(1,.ref 0 0 0 0),(79,.sl g.en (vs GE.av g.edges)),(80,.int .i64 g.edges.length),(81,.int .i64 i)]∧(∃ c,s=⟨[.arr 0 4 true true [g.av]],c⟩)∧∀k,k<i→EZ g.nodes g.edges g.Gq k=0) ?_ _ _ _ ⟨0,rfl,by simp,⟨_,rfl⟩,fun k h=>absurd h (by omega)⟩
 rintro _ _ _ ⟨i,rfl,rfl,⟨c,rfl⟩,hx⟩
 refine⟨rfl,?_⟩
 have hat:∀h:i<g.edges.length,(g.edges[i]).ok:=fun h=>g6 _ (List.getElem_mem _)
 (conv=>whnf);repeat' (first|(apply Az;(· exact nVz (i-1) (by omega) (by omega));conv=>whnf)|(refine Gn (Aem hl hI) (fun hc=>?_) (fun hc=>?_)<;>conv=>whnf)|(refine Gn (name1 (s:=(g.edges[i]).ty) (hat (by omega)).2.2.2.1) (fun hnm=>?_) (fun hnm=>?_)<;>conv=>whnf)|(refine Ae (Aae (n:=g.edges[i]) (hat (by omega))) ?_;rintro _ rfl;conv=>whnf)|(refine hret _ _ ?_)|(refine hend (fun k hk=>hx k (by omega)) _ _)|(refine kA ?_;conv=>whnf)|(refine Br.mk (fun hc=>?_) fun hc=>?_<;>first|exact hc.elim|conv=>whnf)|(refine kB ?_))
 all_goals first
  |exact again.mk ⟨_,by omega,i+1,rfl,rfl,⟨_,rfl⟩,NU hx ((VL (by omega) (fun h=>by first|assumption|omega) (by omega) ⟨by assumption,by assumption⟩ hnm).trans hc)⟩
  |exact LD hf hnx hN (by omega) hx (X9 (by omega) (by omega) (by assumption)) (by decide)
  |exact LD hf hnx hN (by omega) hx (Abe (by omega) (fun h=>by first|assumption|omega) (by omega)) (by decide)
  |exact LD hf hnx hN (by omega) hx (Ya (by omega) (fun h=>by first|assumption|omega) (by omega) (fun h=>by first|exact absurd h.1 (by assumption)|exact absurd h.2 (by assumption))) (by decide)
  |exact LD hf hnx hN (by omega) hx (Abf (by omega) (fun h=>by first|assumption|omega) (by omega) ⟨by assumption,by assumption⟩ hnm) (by decide)
  |exact LD hf hnx hN (by omega) hx (VL (by omega) (fun h=>by first|assumption|omega) (by omega) ⟨by assumption,by assumption⟩ hnm) hc
theorem UE {g:GG} (hg:g.ok):AX (Ag tab) 14 [g.av] (· =.int .i64 (BK g)):=by
 have hg0:=hg
 obtain⟨g1,g2,g3,g4,g5,g6,g7,g8⟩:=hg
 unfold Ln at g1 g4
 refine Ai rfl rfl ?_
 (conv=>whnf);repeat' (first|(refine kA ?_;conv=>whnf)|(refine Br.mk (fun hc=>?_) fun hc=>?_<;>first|exact hc.elim|conv=>whnf)  |(refine kB ?_))
 all_goals first|exact AbM (by unfold Gp;omega)|exact AbN (by unfold Gp;omega) (by unfold H6;omega)|skip
 have hf:Gp g:=by unfold Gp;omega
 have hnx:H6 g:=by unfold H6;omega
 refine AbK hg0 hf hnx (fun r s h=>by(conv=>whnf);(apply BH;(· rfl);conv=>whnf);(apply BH;(· rfl);conv=>whnf);exact h) (fun hN c i=>?_)
 (conv=>whnf);repeat' (first|(refine kA ?_;conv=>whnf)|(refine Br.mk (fun hc=>?_) fun hc=>?_<;>first|exact hc.elim|conv=>whnf)  |(refine kB ?_))
 refine AbL hg0 hf hnx hN (fun r s h=>by(conv=>whnf);(apply BH;(· rfl);conv=>whnf);(apply BH;(· rfl);conv=>whnf);exact h) (fun hE c i=>?_)
 (conv=>whnf);repeat' (first|(refine kA ?_;conv=>whnf)|(refine Br.mk (fun hc=>?_) fun hc=>?_<;>first|exact hc.elim|conv=>whnf)  |(refine kB ?_))
 exact Yb hf hnx hN hE
end AI
end Go.Proofs.YtjjhejbffgaabaaGreatDoor
