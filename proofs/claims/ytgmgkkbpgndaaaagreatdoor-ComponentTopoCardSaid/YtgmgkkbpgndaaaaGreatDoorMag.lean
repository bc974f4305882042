/- What is wrong with labels and properties. Comparing two numbers. Looking for a node among increasing ids. graph.Check: the first error of a graph. graph.Check, walked. component.Weak. The least topological order: by readiness, by counts. Plain. A call of an entry that the model answers. -/
import Derived.Test.YtgmgkkbpgndaaaaGreatDoorMaf
import Derived.Test.YtgmgkkbpgndaaaaGreatDoorGrCode
import Derived.Test.YtgmgkkbpgndaaaaGreatDoorMaa
import Derived.Test.YtgmgkkbpgndaaaaGreatDoorMae
import Derived.Test.YtgmgkkbpgndaaaaGreatDoorVa
set_option linter.unusedVariables false
set_option maxRecDepth 4000
namespace Go.Proofs.YtgmgkkbpgndaaaaGreatDoor
namespace AI
theorem apVS {g len:Nat} {nn cl:Bool} {l:List (List UInt8)} {x:List UInt8} {bytes:Nat} {K:Nat→Bool→Bool→List AV→Prop} (hl:len=l.length) (hr:(l.length+1)*bytes≤2 ^ 46) (h:K (len+1) true cl (vs .str (l++[x]))):
 appendK g g 1 1 len nn cl true (vs .str l) [.str x] bytes K:=by
 subst hl
 refine⟨⟨rfl,rfl,by simp,allSize_one rfl,roomy_of hr⟩,?_⟩
 rw[snoc_vs,Bool.and_true]
 simpa using h
def keysOf (P:List GP):List (List UInt8):=P.map GP.key
@[simp] theorem keysOf_len (P:List GP):(keysOf P).length=P.length:=by simp[keysOf]
theorem keysOf_ln {P:List GP} (hp:∀p∈P,p.ok):∀s∈keysOf P,s.length<2^63:=by
 intro s h
 obtain⟨p,h1,rfl⟩:=List.mem_map.1 h
 exact(hp p h1).1
theorem keysOf_snoc {P:List GP} {i:Nat} (h:i<P.length):keysOf (P.take i)++[(P[i]).key]=keysOf (P.take (i+1)):=by
 rw[List.take_succ_eq_append_getElem h];unfold keysOf;rw[List.map_append];rfl
def allPlain (P:List GP):Prop:=∀p∈P,leafV p.v
noncomputable instance (P:List GP):Decidable (allPlain P):=Classical.propDecidable _
noncomputable def partsE (L:List (List UInt8)) (P:List GP):Int:=
 if 8<L.length∨16<P.length then 4 else if¬(allNames L∧allNames (keysOf P))then 6 else if¬(rises L∧rises (keysOf P))then 26 else if¬allPlain P then 8 else 0
theorem parts_4 {L:List (List UInt8)} {P:List GP} (h:8<L.length∨16<P.length):AV.int .i64 4=AV.int .i64 (partsE L P):=by rw[partsE,if_pos h]
theorem parts_6 {L:List (List UInt8)} {P:List GP} (h:¬(8<L.length∨16<P.length)) (h1:¬(allNames L∧allNames (keysOf P))):AV.int .i64 6=AV.int .i64 (partsE L P):=by rw[partsE,if_neg h,if_pos h1]
theorem parts_26 {L:List (List UInt8)} {P:List GP} (h:¬(8<L.length∨16<P.length)) (h1:allNames L∧allNames (keysOf P)) (h2:¬(rises L∧rises (keysOf P))):AV.int .i64 26=AV.int .i64 (partsE L P):=by rw[partsE,if_neg h,if_neg (not_not_intro h1),if_pos h2]
theorem parts_8 {L:List (List UInt8)} {P:List GP} (h:¬(8<L.length∨16<P.length)) (h1:allNames L∧allNames (keysOf P)) (h2:rises L∧rises (keysOf P)) (h3:¬allPlain P):AV.int .i64 8=AV.int .i64 (partsE L P):=by rw[partsE,if_neg h,if_neg (not_not_intro h1),if_neg (not_not_intro h2),if_pos h3]
theorem parts_0 {L:List (List UInt8)} {P:List GP} (h:¬(8<L.length∨16<P.length)) (h1:allNames L∧allNames (keysOf P)) (h2:rises L∧rises (keysOf P)) (h3:allPlain P):AV.int .i64 0=AV.int .i64 (partsE L P):=by rw[partsE,if_neg h,if_neg (not_not_intro h1),if_neg (not_not_intro h2),if_neg (not_not_intro h3)]
theorem parts1 {L:List (List UInt8)} {P:List GP} {ln pn:Bool} (hL:L.length<2^63) (hs:∀s∈L,s.length<2^63) (hP:P.length<2^63) (hp:∀p∈P,p.ok):PureP (findFn tab) 47 [.sl ln (vs .str L),.sl pn (vs GP.av P)] (· =.int .i64 (partsE L P)):=by
 have hk:=keysOf_ln hp
 refine pureP_of rfl rfl ?_
 (conv=>whnf);repeat' (first|(refine kA ?_;conv=>whnf)|(refine Br.mk (fun hc=>?_) fun hc=>?_<;>first|exact hc.elim|conv=>whnf)  |(refine kB ?_))
 ·exact parts_4 (by omega)
 ·exact parts_4 (by omega)
 have h16:¬(8<L.length∨16<P.length):=by omega
 refine loop_inv (fun m env s=>∃(i g:Nat),m=P.length-i∧i≤P.length∧env=[(0,.sl ln (vs .str L)),(1,.sl pn (vs GP.av P)),(5,.own 0 g 0 i),(18,.sl pn (vs GP.av P)),(19,.int .i64 P.length),(20,.int .i64 i)]∧∃nn c,s=⟨[.arr g 1 nn true (vs .str (keysOf (P.take i)))],c⟩) ?_ _ _ _ ⟨0,0,rfl,by omega,rfl,_,_,rfl⟩
 rintro _ _ _ ⟨i,g,rfl,hi,rfl,nn,c,rfl⟩
 refine⟨rfl,?_⟩
 (conv=>whnf);repeat' (first|(refine kA ?_;conv=>whnf)|(refine Br.mk (fun hc=>?_) fun hc=>?_<;>first|exact hc.elim|conv=>whnf)  |(refine kB ?_))
 ·refine apVS (by simp;omega) (by simp;omega) ?_
  (conv=>whnf);repeat' (first|(refine kA ?_;conv=>whnf)|(refine Br.mk (fun hc=>?_) fun hc=>?_<;>first|exact hc.elim|conv=>whnf)  |(refine kB ?_))
  rw[keysOf_snoc (by omega)]
  exact again.mk ⟨_,by omega,i+1,_,rfl,by omega,rfl,_,_,rfl⟩
 ·rw[take_all hc]
  obtain rfl:i=P.length:=by omega
  have hu:sub (vs AV.str (keysOf P)) 0 P.length=vs .str (keysOf P):=by rw[← keysOf_len P];exact uV
  have hkl:(keysOf P).length<2^63:=by rw[keysOf_len];exact hP
  (conv=>whnf);repeat' (first|(refine callB (contUn hL hs) (fun h1=>?_) (fun h1=>?_)<;>conv=>whnf)|(rw [hu];refine callB (contUn hkl hk) (fun h2=>?_) (fun h2=>?_)<;>conv=>whnf)|(refine callB (rises1 hL) (fun h3=>?_) (fun h3=>?_)<;>conv=>whnf)|(rw [hu];refine callB (rises1 hkl) (fun h4=>?_) (fun h4=>?_)<;>conv=>whnf)|(refine kA ?_;conv=>whnf)|(refine Br.mk (fun hc=>?_) fun hc=>?_<;>first|exact hc.elim|conv=>whnf)|(refine kB ?_))
  ·exact parts_6 h16 fun h=>h1 h.1
  ·exact parts_6 h16 fun h=>h2 h.2
  ·refine loop_inv (fun m env s=>∃(i:Nat),m=P.length-i∧env=[(44,.sl pn (vs GP.av P)),(45,.int .i64 P.length),(46,.int .i64 i)]∧(∃ c,s=⟨[.arr g 1 nn true (vs .str (keysOf P))],c⟩)∧∀p∈P.take i,leafV p.v) ?_ _ _ _ ⟨0,rfl,rfl,⟨_,rfl⟩,by simp⟩
   clear hc hi
   rintro _ _ _ ⟨i,rfl,rfl,⟨c,rfl⟩,hx⟩
   refine⟨rfl,?_⟩
   (conv=>whnf);repeat' (first|(refine callB (plain1 (v:=(P[i]).v) (hp _ (List.getElem_mem (by omega))).2) (fun h5=>?_) (fun h5=>?_)<;>conv=>whnf)|(refine kA ?_;conv=>whnf)|(refine Br.mk (fun hc=>?_) fun hc=>?_<;>first|exact hc.elim|conv=>whnf)|(refine kB ?_))
   ·exact again.mk ⟨_,by omega,i+1,rfl,rfl,⟨_,rfl⟩,all_take_succ (by omega) hx h5⟩
   ·exact parts_8 h16 ⟨Classical.not_not.1 h1,Classical.not_not.1 h2⟩ ⟨h3,h4⟩ fun h=>h5 (h _ (List.getElem_mem _))
   ·rw[take_all hc]at hx
    exact parts_0 h16 ⟨Classical.not_not.1 h1,Classical.not_not.1 h2⟩ ⟨h3,h4⟩ hx
  ·exact parts_26 h16 ⟨Classical.not_not.1 h1,Classical.not_not.1 h2⟩ fun h=>h4 h.2
  ·exact parts_26 h16 ⟨Classical.not_not.1 h1,Classical.not_not.1 h2⟩ fun h=>h3 h.1
attribute [irreducible] partsE
theorem nan {x:Int}:PureP (findFn tab) 107 [.int .i64 x] (· =.bool (decide False)):=by
 refine pureP_of rfl rfl ?_
 (conv=>whnf);repeat' (first  |(refine kA ?_;conv=>whnf)|(refine Br.mk (fun hc=>?_) fun hc=>?_<;>first|exact hc.elim|conv=>whnf)|(refine kB ?_))
 all_goals first|exact absurd rfl hc|rfl
def cmpI (x y:Int):Int:=if x<y then -1 else if y<x then 1 else 0
theorem compare {x y:Int}:PureP (findFn tab) 78 [.int .i64 x,.int .i64 y] (· =.int .i64 (cmpI x y)):=by
 refine pureP_of rfl rfl ?_
 (conv=>whnf);repeat' (first|(refine callB nan (fun hc=>absurd hc id) (fun _=>?_);conv=>whnf)|(refine kA ?_;conv=>whnf)|(refine Br.mk (fun hc=>?_) fun hc=>?_<;>first|exact hc.elim|conv=>whnf)|(refine kB ?_))
 all_goals unfold cmpI;first|(rw [if_pos (by omega)];rfl)|(rw [if_neg (by omega),if_pos (by omega)];rfl)|(rw [if_neg (by omega),if_neg (by omega)];rfl)
theorem cmpI_neg {x y:Int}:cmpI x y<0↔x<y:=by unfold cmpI;split<;>(try split)<;>omega
theorem cmpI_zero {x y:Int}:cmpI x y=0↔x=y:=by unfold cmpI;split<;>(try split)<;>omega
def incr (l:List Int):Prop:=∀j (h:j+1<l.length),l[j]<l[j+1]
noncomputable instance (l:List Int):Decidable (incr l):=Classical.propDecidable _
theorem incr_lt {l:List Int} (h:incr l) {i:Nat}:∀d (hd:i+d+1<l.length),l[i]<l[i+d+1]
 |0,hd=>h i hd
 |d+1,hd=>Int.lt_trans (incr_lt h d (by omega)) (h (i+d+1) hd)
theorem incr_mono {l:List Int} (h:incr l) {i j:Nat} (hij:i<j) (hj:j<l.length):l[i]<l[j]:=by
 obtain⟨d,rfl⟩:∃d,j=i+d+1:=⟨j-i-1,by omega⟩
 exact incr_lt h d hj
def nids (N:List GN):List Int:=N.map GN.id
def eids (E:List GE):List Int:=E.map GE.id
@[simp] theorem nids_len (N:List GN):(nids N).length=N.length:=by simp[nids]
@[simp] theorem eids_len (N:List GE):(eids N).length=N.length:=by simp[eids]
theorem nids_at {N:List GN} {i:Nat} (h:i<N.length):(nids N)[i]'(by simpa using h)=(N[i]).id:=by simp[nids]
theorem eids_at {N:List GE} {i:Nat} (h:i<N.length):(eids N)[i]'(by simpa using h)=(N[i]).id:=by simp[eids]
theorem nid_lt {N:List GN} (h:incr (nids N)) {i j:Nat} (hij:i<j) (hj:j<N.length):(N[i]).id<(N[j]).id:=by
 have:=incr_mono h hij (by simpa using hj)
 rwa [nids_at (by omega),nids_at hj]at this
theorem has1 {n:GN} {x:Int}:PureP (findFn tab) 77 [n.av,.int .i64 x] (· =.int .i64 (cmpI n.id x)):=by
 refine pureP_of rfl rfl ?_
 (conv=>whnf);repeat' (first|(refine kA ?_;conv=>whnf)|(refine Br.mk (fun hc=>?_) fun hc=>?_<;>first|exact hc.elim|conv=>whnf)|(refine callK_of compare ?_;rintro _ rfl;conv=>whnf)|(refine kB ?_))
 rfl
theorem bsearch {N:List GN} {nn:Bool} {x:Int} (hN:N.length<2^62) (hi:incr (nids N)):PureP (findFn tab) 76 [.sl nn (vs GN.av N),.int .i64 x,.fn 77 []] (fun v=>∃z b,v=.tup [.int .i64 z,.bool b]∧(b=true↔x∈nids N)):=by
 have fin:∀i:Nat,i≤N.length→(∀ k (h:k<N.length),k<i→(N[k]).id<x)→(∀ k (h:k<N.length),i≤k→x≤(N[k]).id)→(x∈nids N↔∃h:i<N.length,(N[i]).id=x):=by
  intro i h0 h1 h2
  constructor
  ·intro h
   obtain⟨k,hk,e⟩:=List.getElem_of_mem h
   have hk':k<N.length:=by simpa using hk
   rw[nids_at hk']at e
   have a1:=h1 k hk'
   have:i≤k:=by
        rcases Nat.lt_or_ge k i with h|h
        ·have:=a1 h;omega
        ·exact h
   rcases Nat.lt_or_ge i k with h|h
   ·have:=nid_lt hi h hk'
    have:=h2 i (by omega) (Nat.le_refl _)
    omega
   ·obtain rfl:i=k:=by omega
    exact⟨hk',e⟩
  ·rintro⟨h,e⟩
   rw[← e,←nids_at h]
   exact List.getElem_mem _
 refine pureP_of rfl rfl ?_
 (conv=>whnf);repeat' (first|(refine kA ?_;conv=>whnf)|(refine Br.mk (fun hc=>?_) fun hc=>?_<;>first|exact hc.elim|conv=>whnf)  |(refine kB ?_))
 refine loop_inv (fun m env s=>∃(i j:Nat),m=j-i∧i≤j∧j≤N.length∧env=[(0,.sl nn (vs GN.av N)),(1,.int .i64 x),(2,.fn 77 []),(8,.int .i64 N.length),(9,.int .i64 i),(10,.int .i64 j)]∧s=⟨[],0⟩∧
  (∀ k (h:k<N.length),k<i→(N[k]).id<x)∧(∀ k (h:k<N.length),j≤k→x≤(N[k]).id)) ?_ _ _ _ ⟨0,N.length,rfl,by omega,by omega,by simp,rfl,fun k _ h=>absurd h (by omega),fun k h1 h=>absurd h (by omega)⟩
 rintro _ _ _ ⟨i,j,rfl,hij,hj,rfl,rfl,h1,h2⟩
 refine⟨rfl,?_⟩
 (conv=>whnf);repeat' (first|(refine wrapU (i+j) (by omega) (by omega) ?_;conv=>whnf)|(apply eqK_intro;(· exact shrE _);conv=>whnf)|(refine callK_of has1 ?_;rintro _ rfl;conv=>whnf)|(refine kA ?_;conv=>whnf)|(refine Br.mk (fun hc=>?_) fun hc=>?_<;>first|exact hc.elim|conv=>whnf)|(refine kB ?_))
 ·have hm:=cmpI_neg.1 hc
  exact again.mk ⟨_,by omega,(i+j) / 2+1,j,rfl,by omega,hj,rfl,rfl,fun k hk hlt=>by
   rcases Nat.lt_or_ge k ((i+j) / 2)with h|h
   ·exact Int.lt_trans (nid_lt hi h (by omega)) hm
   ·obtain rfl:k=(i+j) / 2:=by omega
    exact hm,h2⟩
 ·have hm:=mt cmpI_neg.2 hc
  exact again.mk ⟨_,by omega,i,(i+j) / 2,rfl,by omega,by omega,rfl,rfl,h1,fun k hk hle=>by
   rcases Nat.lt_or_ge ((i+j) / 2) k with h|h
   ·have:=nid_lt hi h hk;omega
   ·obtain rfl:k=(i+j) / 2:=by omega
    omega⟩
 all_goals have hf:=fin i (by omega) h1 (fun k hk h=>h2 k hk (by omega))
 ·exact⟨_,_,rfl,fun _=>hf.2 ⟨by omega,cmpI_zero.1 hc⟩,fun _=>rfl⟩
 ·exact⟨_,_,rfl,fun h=>(Bool.noConfusion h),fun h=>absurd (cmpI_zero.2 (hf.1 h).2) hc⟩
 ·exact⟨_,_,rfl,fun h=>(Bool.noConfusion h),fun h=>absurd (hf.1 h).1 (by omega)⟩
theorem hasP {N:List GN} {nn:Bool} {x:Int} (hN:N.length<2^62) (hi:incr (nids N)):PureP (findFn tab) 48 [.sl nn (vs GN.av N),.int .i64 x] (· =.bool (decide (x∈nids N))):=by
 refine pureP_of rfl rfl ?_
 (conv=>whnf);repeat' (first|(refine kA ?_;conv=>whnf)|(refine Br.mk (fun hc=>?_) fun hc=>?_<;>first|exact hc.elim|conv=>whnf)  |(refine kB ?_))
 refine callK_of (bsearch hN hi) ?_
 rintro _ ⟨z,b,rfl,hb⟩
 (conv=>whnf);repeat' (first|(refine kA ?_;conv=>whnf)|(refine Br.mk (fun hc=>?_) fun hc=>?_<;>first|exact hc.elim|conv=>whnf)  |(refine kB ?_))
 ·exact bool_t (hb.1 hc)
 ·exact bool_f fun h=>by rw[hb.2 h]at hc;cases hc
def firstE (f:Nat→Int):Nat→Int
 |0=>0
 |n+1=>if firstE f n=0 then f n else firstE f n
theorem firstE_zero {f:Nat→Int}:∀{n:Nat},firstE f n=0↔∀k,k<n→f k=0
 |0=>by simp[firstE]
 |n+1=>by
  unfold firstE
  split
  ·rename_i h
   have:=firstE_zero.1 h
   refine⟨fun h0 k hk=>?_,fun h0=>h0 n (by omega)⟩
   rcases Nat.lt_or_ge k n with h1|h1
   ·exact this k h1
   ·obtain rfl:k=n:=by omega
    exact h0
  ·rename_i h
   exact⟨fun h0=>absurd h0 h,fun h0=>absurd (firstE_zero.2 fun k hk=>h0 k (by omega)) h⟩
theorem firstE_at {f:Nat→Int} {i:Nat} (h:∀k,k<i→f k=0) (hi:f i≠0):∀{n:Nat},i<n→firstE f n=f i
 |0,hn=>absurd hn (by omega)
 |n+1,hn=>by
  unfold firstE
  rcases Nat.lt_or_ge i n with h1|h1
  ·rw[firstE_at h hi h1,if_neg hi]
  ·obtain rfl:i=n:=by omega
   rw[if_pos (firstE_zero.2 h)]
noncomputable def nodeE (N:List GN) (nx:Int) (i:Nat):Int:=
 match N[i]? with
 |none=>0
 |some n=>if 0<i∧(∃ m,N[i-1]?=some m∧n.id≤m.id)then 26 else if n.id<1∨nx≤n.id then 1 else partsE n.labels n.props
noncomputable def edgeE (N:List GN) (E:List GE) (nx:Int) (i:Nat):Int:=
 match E[i]? with
 |none=>0
 |some e=>if 0<i∧(∃ m,E[i-1]?=some m∧e.id≤m.id)then 26 else if e.id<1∨nx≤e.id then 1 else if¬(e.fr∈nids N∧e.to∈nids N)then 10 else if¬isName e.ty then 6 else partsE [] e.props
theorem node26 {N:List GN} {nx:Int} {i:Nat} (h:i<N.length) (h0:0<i) (h1:(N[i]).id≤(N[i-1]).id):nodeE N nx i=26:=by
 unfold nodeE;rw[List.getElem?_eq_getElem h];exact if_pos ⟨h0,_,List.getElem?_eq_getElem (by omega),h1⟩
theorem node_no {N:List GN} {i:Nat} (h:i<N.length) (h1:0<i→¬(N[i]).id≤(N[i-1]).id):¬(0<i∧∃m,N[i-1]?=some m∧(N[i]).id≤m.id):=by
 rintro⟨a,m,b,c⟩;rw[List.getElem?_eq_getElem (by omega)]at b;rw[← Option.some.inj b]at c;exact h1 a c
theorem node1 {N:List GN} {nx:Int} {i:Nat} (h:i<N.length) (h1:0<i→¬(N[i]).id≤(N[i-1]).id) (h2:(N[i]).id<1∨nx≤(N[i]).id):nodeE N nx i=1:=by
 unfold nodeE;rw[List.getElem?_eq_getElem h];dsimp only;rw[if_neg (node_no h h1),if_pos h2]
theorem nodeP {N:List GN} {nx:Int} {i:Nat} (h:i<N.length) (h1:0<i→¬(N[i]).id≤(N[i-1]).id) (h2:¬((N[i]).id<1∨nx≤(N[i]).id)):nodeE N nx i=partsE (N[i]).labels (N[i]).props:=by
 unfold nodeE;rw[List.getElem?_eq_getElem h];dsimp only;rw[if_neg (node_no h h1),if_neg h2]
theorem node_ok {N:List GN} {nx:Int} {i:Nat} (h:i<N.length) (h0:nodeE N nx i=0):(0<i→(N[i-1]).id<(N[i]).id)∧1≤(N[i]).id∧(N[i]).id<nx∧partsE (N[i]).labels (N[i]).props=0:=by
 by_cases h1:0<i∧(N[i]).id≤(N[i-1]).id
 ·rw[node26 h h1.1 h1.2]at h0;omega
 have h1':0<i→¬(N[i]).id≤(N[i-1]).id:=fun a b=>h1 ⟨a,b⟩
 by_cases h2:(N[i]).id<1∨nx≤(N[i]).id
 ·rw[node1 h h1' h2]at h0;omega
 rw[nodeP h h1' h2]at h0
 exact⟨fun a=>by have:=h1' a;omega,by omega,by omega,h0⟩
theorem edge26 {N:List GN} {E:List GE} {nx:Int} {i:Nat} (h:i<E.length) (h0:0<i) (h1:(E[i]).id≤(E[i-1]).id):edgeE N E nx i=26:=by
 unfold edgeE;rw[List.getElem?_eq_getElem h];exact if_pos ⟨h0,_,List.getElem?_eq_getElem (by omega),h1⟩
theorem edge_no {E:List GE} {i:Nat} (h:i<E.length) (h1:0<i→¬(E[i]).id≤(E[i-1]).id):¬(0<i∧∃m,E[i-1]?=some m∧(E[i]).id≤m.id):=by
 rintro⟨a,m,b,c⟩;rw[List.getElem?_eq_getElem (by omega)]at b;rw[← Option.some.inj b]at c;exact h1 a c
theorem edge1 {N:List GN} {E:List GE} {nx:Int} {i:Nat} (h:i<E.length) (h1:0<i→¬(E[i]).id≤(E[i-1]).id) (h2:(E[i]).id<1∨nx≤(E[i]).id):edgeE N E nx i=1:=by
 unfold edgeE;rw[List.getElem?_eq_getElem h];dsimp only;rw[if_neg (edge_no h h1),if_pos h2]
theorem edge10 {N:List GN} {E:List GE} {nx:Int} {i:Nat} (h:i<E.length) (h1:0<i→¬(E[i]).id≤(E[i-1]).id) (h2:¬((E[i]).id<1∨nx≤(E[i]).id)) (h3:¬((E[i]).fr∈nids N∧(E[i]).to∈nids N)):edgeE N E nx i=10:=by
 unfold edgeE;rw[List.getElem?_eq_getElem h];dsimp only;rw[if_neg (edge_no h h1),if_neg h2,if_pos h3]
theorem edge6 {N:List GN} {E:List GE} {nx:Int} {i:Nat} (h:i<E.length) (h1:0<i→¬(E[i]).id≤(E[i-1]).id) (h2:¬((E[i]).id<1∨nx≤(E[i]).id)) (h3:(E[i]).fr∈nids N∧(E[i]).to∈nids N) (h4:¬isName (E[i]).ty):edgeE N E nx i=6:=by
 unfold edgeE;rw[List.getElem?_eq_getElem h];dsimp only;rw[if_neg (edge_no h h1),if_neg h2,if_neg (not_not_intro h3),if_pos h4]
theorem edgeP {N:List GN} {E:List GE} {nx:Int} {i:Nat} (h:i<E.length) (h1:0<i→¬(E[i]).id≤(E[i-1]).id) (h2:¬((E[i]).id<1∨nx≤(E[i]).id)) (h3:(E[i]).fr∈nids N∧(E[i]).to∈nids N) (h4:isName (E[i]).ty):edgeE N E nx i=partsE [] (E[i]).props:=by
 unfold edgeE;rw[List.getElem?_eq_getElem h];dsimp only;rw[if_neg (edge_no h h1),if_neg h2,if_neg (not_not_intro h3),if_neg (not_not_intro h4)]
theorem edge_ok {N:List GN} {E:List GE} {nx:Int} {i:Nat} (h:i<E.length) (h0:edgeE N E nx i=0):(0<i→(E[i-1]).id<(E[i]).id)∧1≤(E[i]).id∧(E[i]).id<nx∧(E[i]).fr∈nids N∧(E[i]).to∈nids N∧isName (E[i]).ty∧partsE [] (E[i]).props=0:=by
 by_cases h1:0<i∧(E[i]).id≤(E[i-1]).id
 ·rw[edge26 h h1.1 h1.2]at h0;omega
 have h1':0<i→¬(E[i]).id≤(E[i-1]).id:=fun a b=>h1 ⟨a,b⟩
 by_cases h2:(E[i]).id<1∨nx≤(E[i]).id
 ·rw[edge1 h h1' h2]at h0;omega
 by_cases h3:(E[i]).fr∈nids N∧(E[i]).to∈nids N
 case neg=>rw[edge10 h h1' h2 h3]at h0;omega
 by_cases h4:isName (E[i]).ty
 case neg=>rw[edge6 h h1' h2 h3 h4]at h0;omega
 rw[edgeP h h1' h2 h3 h4]at h0
 exact⟨fun a=>by have:=h1' a;omega,by omega,by omega,h3.1,h3.2,h4,h0⟩
def fitsG (g:GG):Prop:=g.nodes.length≤2000∧g.edges.length≤4000
def nextG (g:GG):Prop:=1≤g.nextN∧g.nextN≤1000001∧1≤g.nextE∧g.nextE≤1000001
instance (g:GG):Decidable (fitsG g):=by unfold fitsG;infer_instance
instance (g:GG):Decidable (nextG g):=by unfold nextG;infer_instance
noncomputable def checkE (g:GG):Int:=
 if¬fitsG g then 4 else if¬nextG g then 1 else
  if firstE (nodeE g.nodes g.nextN) g.nodes.length=0 then firstE (edgeE g.nodes g.edges g.nextE) g.edges.length else firstE (nodeE g.nodes g.nextN) g.nodes.length
theorem check4 {g:GG} (h:¬fitsG g):AV.int .i64 4=AV.int .i64 (checkE g):=by unfold checkE;rw[if_pos h]
theorem check1 {g:GG} (h:fitsG g) (h1:¬nextG g):AV.int .i64 1=AV.int .i64 (checkE g):=by unfold checkE;rw[if_neg (not_not_intro h),if_pos h1]
theorem checkN {g:GG} (h:fitsG g) (h1:nextG g) {i:Nat} (hi:i<g.nodes.length) (h2:∀k,k<i→nodeE g.nodes g.nextN k=0) {r:Int} (h3:nodeE g.nodes g.nextN i=r) (hr:r≠0):AV.int .i64 r=AV.int .i64 (checkE g):=by
 subst h3
 unfold checkE
 rw[if_neg (not_not_intro h),if_neg (not_not_intro h1),firstE_at h2 hr hi,if_neg hr]
theorem checkEd {g:GG} (h:fitsG g) (h1:nextG g) (hn:∀k,k<g.nodes.length→nodeE g.nodes g.nextN k=0) {i:Nat} (hi:i<g.edges.length) (h2:∀k,k<i→edgeE g.nodes g.edges g.nextE k=0) {r:Int} (h3:edgeE g.nodes g.edges g.nextE i=r) (hr:r≠0):AV.int .i64 r=AV.int .i64 (checkE g):=by
 subst h3
 unfold checkE
 rw[if_neg (not_not_intro h),if_neg (not_not_intro h1),if_pos (firstE_zero.2 hn),firstE_at h2 hr hi]
theorem check0 {g:GG} (h:fitsG g) (h1:nextG g) (hn:∀k,k<g.nodes.length→nodeE g.nodes g.nextN k=0) (h2:∀k,k<g.edges.length→edgeE g.nodes g.edges g.nextE k=0):AV.int .i64 0=AV.int .i64 (checkE g):=by
 unfold checkE
 rw[if_neg (not_not_intro h),if_neg (not_not_intro h1),if_pos (firstE_zero.2 hn),firstE_zero.2 h2]
theorem incr_nodes {N:List GN} {nx:Int} (h:∀k,k<N.length→nodeE N nx k=0):incr (nids N):=by
 intro j hj
 have hj':j+1<N.length:=by simpa using hj
 rw[nids_at (by omega),nids_at hj']
 exact(node_ok hj' (h _ hj')).1 (by omega)
theorem incr_edges {N:List GN} {E:List GE} {nx:Int} (h:∀k,k<E.length→edgeE N E nx k=0):incr (eids E):=by
 intro j hj
 have hj':j+1<E.length:=by simpa using hj
 rw[eids_at (by omega),eids_at hj']
 exact(edge_ok hj' (h _ hj')).1 (by omega)
theorem check_ok {g:GG} (h:checkE g=0):fitsG g∧nextG g∧(∀ k,k<g.nodes.length→nodeE g.nodes g.nextN k=0)∧∀k,k<g.edges.length→edgeE g.nodes g.edges g.nextE k=0:=by
 unfold checkE at h
 by_cases h1:fitsG g
 case neg=>rw[if_pos h1]at h;omega
 by_cases h2:nextG g
 case neg=>rw[if_neg (not_not_intro h1),if_pos h2]at h;omega
 rw[if_neg (not_not_intro h1),if_neg (not_not_intro h2)]at h
 split at h
 ·rename_i h3
  exact⟨h1,h2,firstE_zero.1 h3,firstE_zero.1 h⟩
 ·rename_i h3;exact absurd h h3
attribute [irreducible] nodeE edgeE checkE firstE
theorem all_lt_succ {f:Nat→Int} {i:Nat} (h:∀k,k<i→f k=0) (hi:f i=0):∀k,k<i+1→f k=0:=by
 intro k hk
 rcases Nat.lt_or_ge k i with h1|h1
 ·exact h k h1
 ·obtain rfl:k=i:=by omega
  exact hi
theorem partsN {n:GN} (h:n.ok):PureP (findFn tab) 47 [.sl n.ln (vs .str n.labels),.sl n.pn (vs GP.av n.props)] (· =.int .i64 (partsE n.labels n.props)):=
 parts1 h.2.1 h.2.2.2.1 h.2.2.2.2.1 h.2.2.2.2.2.2
theorem partsEd {n:GE} (h:n.ok):PureP (findFn tab) 47 [.sl false [],.sl n.pn (vs GP.av n.props)] (· =.int .i64 (partsE [] n.props)):=
 parts1 (L:=[]) (by decide) (by simp) h.2.2.2.2.1 h.2.2.2.2.2.2
theorem nodesL {g:GG} (hg:g.ok) (hf:fitsG g) (hnx:nextG g) {c:Nat} {Q:AExit→Env→Sto→Prop}
 (hret:∀r s,AV.int .i64 r=AV.int .i64 (checkE g)→Q .ret [(2,.int .i64 r)] s)
 (hend:(∀ k,k<g.nodes.length→nodeE g.nodes g.nextN k=0)→∀c i,Q (.exit 0) [(1,.ref 0 0 0 0),(38,.sl g.nn (vs GN.av g.nodes)),(39,.int .i64 g.nodes.length),(40,.int .i64 i),(41,.bool false)] ⟨[.arr 0 4 true true [g.av]],c⟩):
 Run (findFn tab) (.loop l30_0_h l30_0_b) [(1,.ref 0 0 0 0),(38,.sl g.nn (vs GN.av g.nodes)),(39,.int .i64 g.nodes.length),(40,.int .i64 0)] ⟨[.arr 0 4 true true [g.av]],c⟩ Q:=by
 obtain⟨g1,g2,g3,g4,g5,g6,g7,g8⟩:=hg
 unfold Ln at g1 g4
 have hf':g.nodes.length≤2000:=hf.1
 refine loop_inv (fun m env s=>∃i:Nat,m=g.nodes.length-i∧env=[(1,.ref 0 0 0 0),(38,.sl g.nn (vs GN.av g.nodes)),(39,.int .i64 g.nodes.length),(40,.int .i64 i)]∧(∃ c,s=⟨[.arr 0 4 true true [g.av]],c⟩)∧∀k,k<i→nodeE g.nodes g.nextN k=0) ?_ _ _ _ ⟨0,rfl,by simp,⟨_,rfl⟩,fun k h=>absurd h (by omega)⟩
 rintro _ _ _ ⟨i,rfl,rfl,⟨c,rfl⟩,hx⟩
 refine⟨rfl,?_⟩
 have hat:∀h:i<g.nodes.length,(g.nodes[i]).ok:=fun h=>g3 _ (List.getElem_mem _)
 (conv=>whnf);repeat' (first|(apply nthK_intro;(· exact nVz (i-1) (by omega) (by omega));conv=>whnf)|(refine callK_of (partsN (n:=g.nodes[i]) (hat (by omega))) ?_;rintro _ rfl;conv=>whnf)|(refine hret _ _ ?_)|(refine hend (fun k hk=>hx k (by omega)) _ _)|(refine kA ?_;conv=>whnf)|(refine Br.mk (fun hc=>?_) fun hc=>?_<;>first|exact hc.elim|conv=>whnf)|(refine kB ?_))
 all_goals first
  |exact again.mk ⟨_,by omega,i+1,rfl,rfl,⟨_,rfl⟩,all_lt_succ hx ((nodeP (by omega) (fun h=>by first|assumption|omega) (by omega)).trans hc)⟩
  |exact checkN hf hnx (by omega) hx (node26 (by omega) (by omega) (by assumption)) (by decide)
  |exact checkN hf hnx (by omega) hx (node1 (by omega) (fun h=>by first|assumption|omega) (by omega)) (by decide)
  |exact checkN hf hnx (by omega) hx (nodeP (by omega) (fun h=>by first|assumption|omega) (by omega)) hc
set_option maxHeartbeats 1000000 in
theorem edgesL {g:GG} (hg:g.ok) (hf:fitsG g) (hnx:nextG g) (hN:∀k,k<g.nodes.length→nodeE g.nodes g.nextN k=0) {c:Nat} {Q:AExit→Env→Sto→Prop}
 (hret:∀r s,AV.int .i64 r=AV.int .i64 (checkE g)→Q .ret [(2,.int .i64 r)] s)
 (hend:(∀ k,k<g.edges.length→edgeE g.nodes g.edges g.nextE k=0)→∀c i,Q (.exit 2) [(1,.ref 0 0 0 0),(79,.sl g.en (vs GE.av g.edges)),(80,.int .i64 g.edges.length),(81,.int .i64 i),(82,.bool false)] ⟨[.arr 0 4 true true [g.av]],c⟩):
 Run (findFn tab) (.loop l30_1_h l30_1_b) [(1,.ref 0 0 0 0),(79,.sl g.en (vs GE.av g.edges)),(80,.int .i64 g.edges.length),(81,.int .i64 0)] ⟨[.arr 0 4 true true [g.av]],c⟩ Q:=by
 obtain⟨g1,g2,g3,g4,g5,g6,g7,g8⟩:=hg
 unfold Ln at g1 g4
 have hf':g.edges.length≤4000:=hf.2
 have hI:=incr_nodes hN
 have hl:g.nodes.length<2^62:=by have:=hf.1;omega
 refine loop_inv (fun m env s=>∃i:Nat,m=g.edges.length-i∧env=[(1,.ref 0 0 0 0),(79,.sl g.en (vs GE.av g.edges)),(80,.int .i64 g.edges.length),(81,.int .i64 i)]∧(∃ c,s=⟨[.arr 0 4 true true [g.av]],c⟩)∧∀k,k<i→edgeE g.nodes g.edges g.nextE k=0) ?_ _ _ _ ⟨0,rfl,by simp,⟨_,rfl⟩,fun k h=>absurd h (by omega)⟩
 rintro _ _ _ ⟨i,rfl,rfl,⟨c,rfl⟩,hx⟩
 refine⟨rfl,?_⟩
 have hat:∀h:i<g.edges.length,(g.edges[i]).ok:=fun h=>g6 _ (List.getElem_mem _)
 (conv=>whnf);repeat' (first|(apply nthK_intro;(· exact nVz (i-1) (by omega) (by omega));conv=>whnf)|(refine callB (hasP hl hI) (fun hc=>?_) (fun hc=>?_)<;>conv=>whnf)|(refine callB (name1 (s:=(g.edges[i]).ty) (hat (by omega)).2.2.2.1) (fun hnm=>?_) (fun hnm=>?_)<;>conv=>whnf)|(refine callK_of (partsEd (n:=g.edges[i]) (hat (by omega))) ?_;rintro _ rfl;conv=>whnf)|(refine hret _ _ ?_)|(refine hend (fun k hk=>hx k (by omega)) _ _)|(refine kA ?_;conv=>whnf)|(refine Br.mk (fun hc=>?_) fun hc=>?_<;>first|exact hc.elim|conv=>whnf)|(refine kB ?_))
 all_goals first
  |exact again.mk ⟨_,by omega,i+1,rfl,rfl,⟨_,rfl⟩,all_lt_succ hx ((edgeP (by omega) (fun h=>by first|assumption|omega) (by omega) ⟨by assumption,by assumption⟩ hnm).trans hc)⟩
  |exact checkEd hf hnx hN (by omega) hx (edge26 (by omega) (by omega) (by assumption)) (by decide)
  |exact checkEd hf hnx hN (by omega) hx (edge1 (by omega) (fun h=>by first|assumption|omega) (by omega)) (by decide)
  |exact checkEd hf hnx hN (by omega) hx (edge10 (by omega) (fun h=>by first|assumption|omega) (by omega) (fun h=>by first|exact absurd h.1 (by assumption)|exact absurd h.2 (by assumption))) (by decide)
  |exact checkEd hf hnx hN (by omega) hx (edge6 (by omega) (fun h=>by first|assumption|omega) (by omega) ⟨by assumption,by assumption⟩ hnm) (by decide)
  |exact checkEd hf hnx hN (by omega) hx (edgeP (by omega) (fun h=>by first|assumption|omega) (by omega) ⟨by assumption,by assumption⟩ hnm) hc
theorem checkG {g:GG} (hg:g.ok):PureP (findFn tab) 30 [g.av] (· =.int .i64 (checkE g)):=by
 have hg0:=hg
 obtain⟨g1,g2,g3,g4,g5,g6,g7,g8⟩:=hg
 unfold Ln at g1 g4
 refine pureP_of rfl rfl ?_
 (conv=>whnf);repeat' (first|(refine kA ?_;conv=>whnf)|(refine Br.mk (fun hc=>?_) fun hc=>?_<;>first|exact hc.elim|conv=>whnf)  |(refine kB ?_))
 all_goals first|exact check4 (by unfold fitsG;omega)|exact check1 (by unfold fitsG;omega) (by unfold nextG;omega)|skip
 have hf:fitsG g:=by unfold fitsG;omega
 have hnx:nextG g:=by unfold nextG;omega
 refine nodesL hg0 hf hnx (fun r s h=>by(conv=>whnf);(apply getK_intro;(· rfl);conv=>whnf);(apply getK_intro;(· rfl);conv=>whnf);exact h) (fun hN c i=>?_)
 (conv=>whnf);repeat' (first|(refine kA ?_;conv=>whnf)|(refine Br.mk (fun hc=>?_) fun hc=>?_<;>first|exact hc.elim|conv=>whnf)  |(refine kB ?_))
 refine edgesL hg0 hf hnx hN (fun r s h=>by(conv=>whnf);(apply getK_intro;(· rfl);conv=>whnf);(apply getK_intro;(· rfl);conv=>whnf);exact h) (fun hE c i=>?_)
 (conv=>whnf);repeat' (first|(refine kA ?_;conv=>whnf)|(refine Br.mk (fun hc=>?_) fun hc=>?_<;>first|exact hc.elim|conv=>whnf)  |(refine kB ?_))
 exact check0 hf hnx hN hE
def idsG (g:GG):List Int:=g.nodes.map GN.id
theorem idsG_len (g:GG):(idsG g).length=g.nodes.length:=by simp[idsG]
theorem idsG_at {g:GG} {i:Nat} (h:i<g.nodes.length):(idsG g)[i]'(by rw[idsG_len];exact h)=(g.nodes[i]).id:=by simp[idsG]
theorem idsG_take {g:GG} {i:Nat} (h:i<g.nodes.length):(idsG g).take (i+1)=(idsG g).take i++[(g.nodes[i]).id]:=by
 rw[List.take_succ_eq_append_getElem (by rw[idsG_len];exact h),idsG_at h]
theorem inc_step {l:List Int} (h:∀i (hi:i<l.length),0<i→l[i-1]<l[i]):l.Pairwise (· <·):=by
 rw[List.pairwise_iff_getElem]
 intro i j hi hj hij
 induction j with
 |zero=>omega
 |succ j ih=>
  have h1:=h (j+1) hj (by omega)
  simp only[Nat.add_sub_cancel]at h1
  by_cases e:i=j
  ·subst e;exact h1
  ·exact Int.lt_trans (ih (by omega) (by omega)) h1
theorem ids_inc {g:GG} (h:checkE g=0):(idsG g).Pairwise (· <·):=inc_step fun i hi h0=>by
 have hi':i<g.nodes.length:=by rw[← idsG_len];exact hi
 rw[idsG_at (by omega),idsG_at hi']
 exact(node_ok hi' ((check_ok h).2.2.1 i hi')).1 h0
theorem ids_nd {g:GG} (h:checkE g=0):(idsG g).Nodup:=(ids_inc h).imp fun h=>by omega
theorem ids_pos {g:GG} (h:checkE g=0):∀y∈idsG g,1≤y:=fun y hy=>by
 obtain⟨i,hi,rfl⟩:=List.getElem_of_mem hy
 have hi':i<g.nodes.length:=by rw[← idsG_len];exact hi
 rw[idsG_at hi']
 exact(node_ok hi' ((check_ok h).2.2.1 i hi')).2.1
theorem ids_ends {g:GG} (h:checkE g=0):∀e∈g.edges,e.fr∈idsG g∧e.to∈idsG g:=fun e he=>by
 obtain⟨i,hi,rfl⟩:=List.getElem_of_mem he
 have:=edge_ok hi ((check_ok h).2.2.2 i hi)
 exact⟨this.2.2.2.1,this.2.2.2.2.1⟩
def endT (types:List (List UInt8)) (g:GG):List (Int×Int):=(edgT types g).map fun e=>(e.fr,e.to)
def weakG (types:List (List UInt8)) (g:GG):List (Int×Int):=weakB (idsG g) (endT types g)
theorem newF {ob0:Obj} {c:Nat}:Calls1 (findFn tab) 38 [] ⟨[ob0],c⟩ fun out s'=>∃c',out=.ok (.ref 2 (c+1) 0 0)∧s'=⟨foS ob0 c (c+1) [] (fun z=>z) [],c'⟩:=by
 refine calls1_of rfl rfl ?_
 (conv=>whnf);repeat' (first  |(refine kA ?_;conv=>whnf)|(refine Br.mk (fun hc=>?_) fun hc=>?_<;>first|exact hc.elim|conv=>whnf)|(refine kB ?_))
 all_goals first | exact ⟨_, rfl, rfl⟩ | (trace_state; fail "newF")
theorem sameRef_int {x:Int}:sameRef (.int .i64 x) (.int .i64 x)=true:=by simp[sameRef]
set_option maxHeartbeats 2000000 in
theorem weakP {types:List (List UInt8)} {tn:Bool} (hl:types.length<2^63) {g:GG} (hg:g.ok) (hN:g.nodes.length<2^39) (hE:g.edges.length<2^39):
 PureP (findFn tab) 18 [g.av,.sl tn (vs .str types)] (fun v=>∃b,v=.sl b (vs pv (if checkE g=0 then weakG types g else[]))):=by
 have pc:=checkG hg
 by_cases hc:checkE g=0
 case neg=>
  rw[if_neg hc]
  refine pureP_of rfl rfl ?_
  (conv=>whnf);repeat' (first|(refine callK_of pc ?_;rintro _ rfl;conv=>whnf)|(refine kA ?_;conv=>whnf)|(refine Br.mk (fun hc=>?_) fun hc=>?_<;>first|exact hc.elim|conv=>whnf)|(refine kB ?_))
  all_goals first | exact absurd ‹_› hc | exact ⟨false, rfl⟩ | (trace_state; fail "weakP0")
 rw[if_pos hc]
 rw[hc]at pc
 obtain⟨_,⟨be,rfl⟩,pe⟩:=(edgesP (types:=types) (tn:=tn) hl hg hE).det
 have hnd:=ids_nd hc
 have hpos:=ids_pos hc
 have hends:=ids_ends hc
 refine pureP_of rfl rfl ?_
 (conv=>whnf);repeat' (first|(refine callK_of pc ?_;rintro _ rfl;conv=>whnf)|(refine (newF).mono ?_;rintro _ _ ⟨c',rfl,rfl⟩;conv=>whnf)|(refine kA ?_;conv=>whnf)|(refine Br.mk (fun hc=>?_) fun hc=>?_<;>first|exact hc.elim|conv=>whnf)|(refine kB ?_))
 all_goals first|(exfalso;omega)|skip
 refine loop_inv (fun m env s=>∃(i c:Nat),m=g.nodes.length-i∧env=[(1,.sl tn (vs .str types)),(2,.ref 0 0 0 0),(5,.ref 2 2 0 0),(18,.sl g.nn (vs GN.av g.nodes)),(19,.int .i64 g.nodes.length),(20,.int .i64 i)]∧s=⟨foS (.arr 0 4 true true [g.av]) 1 2 ((idsG g).take i) (fun z=>z) [],c⟩) ?_ _ _ _ ⟨0,_,rfl,rfl,rfl⟩
 rintro _ _ _ ⟨i,c,rfl,rfl,rfl⟩
 refine⟨rfl,?_⟩
 unfold foS
 by_cases hlt:i<g.nodes.length
 ·have hx:(g.nodes[i]).id∉(idsG g).take i:=by
   have h1:=idsG_take hlt
   have h2:=hnd.sublist (List.take_sublist (i+1) (idsG g))
   rw[h1,List.nodup_append]at h2
   exact fun hm=>h2.2.2 _ hm _ (by simp) rfl
  (conv=>whnf);repeat' (first|(refine (addP hx).mono ?_;rintro _ _ ⟨c',rfl,rfl⟩;conv=>whnf)|(refine kA ?_;conv=>whnf)|(refine Br.mk (fun hc=>?_) fun hc=>?_<;>first|exact hc.elim|conv=>whnf)|(refine kB ?_))
  all_goals first
   |(exfalso;omega)
   |(rw [← idsG_take hlt];exact again.mk ⟨_,by omega,i+1,_,rfl,rfl,rfl⟩)
   | (trace_state; fail "weakP1")
 rw[List.take_of_length_le (by rw[idsG_len];omega)]
 (conv=>whnf);repeat' (first|(refine callK_of pe ?_;rintro _ rfl;conv=>whnf)|(refine kA ?_;conv=>whnf)|(refine Br.mk (fun hc=>?_) fun hc=>?_<;>first|exact hc.elim|conv=>whnf)|(refine kB ?_))
 all_goals first|(exfalso;omega)|skip
 refine loop_inv (fun m env s=>∃(i c:Nat) (p r:Int→Int),m=(edgT types g).length-i∧Forest (idsG g) p r∧labelsB (idsG g) r=weakB (idsG g) ((endT types g).take i)∧env=[(2,.ref 0 0 0 0),(5,.ref 2 2 0 0),(31,.sl be (vs GE.av (edgT types g))),(32,.int .i64 (edgT types g).length),(33,.int .i64 i)]∧s=⟨foS (.arr 0 4 true true [g.av]) 1 2 (idsG g) p [],c⟩) ?_ _ _ _ ⟨0,_,_,_,rfl,.start _,rfl,rfl,rfl⟩
 rintro _ _ _ ⟨i,c,p,r,rfl,hF,hr,rfl,rfl⟩
 refine⟨rfl,?_⟩
 unfold foS
 have hEl:(edgT types g).length≤g.edges.length:=List.length_filter_le _ _
 by_cases hlt:i<(edgT types g).length
 ·obtain⟨ha,hb⟩:=hends _ (List.mem_filter.1 (List.getElem_mem hlt)).1
  have hstep:labelsB (idsG g) (fun c=>(mergeB (r ((edgT types g)[i]).fr) (r ((edgT types g)[i]).to) (c,r c)).2)=weakB (idsG g) ((endT types g).take (i+1)):=by
   rw[List.take_succ_eq_append_getElem (by simpa[endT]using hlt),weakB_snoc,←hr]
   have e1:(endT types g)[i]'(by simpa[endT]using hlt)=(((edgT types g)[i]).fr,((edgT types g)[i]).to):=by simp[endT]
   rw[e1]
   exact(joinB_labels ha hb).symm
  (conv=>whnf);repeat' (first|(refine (uniP hF hnd hpos ha hb).mono ?_;rintro _ _ ⟨c',p',hF',rfl,rfl⟩;conv=>whnf)|(refine kA ?_;conv=>whnf)|(refine Br.mk (fun hc=>?_) fun hc=>?_<;>first|exact hc.elim|conv=>whnf)|(refine kB ?_))
  all_goals first
   |(exfalso;omega)
   |exact again.mk ⟨_,by omega,i+1,_,_,_,rfl,by assumption,hstep,rfl,rfl⟩
   | (trace_state; fail "weakP2")
 rw[List.take_of_length_le (by simp[endT];omega)]at hr
 (conv=>whnf);repeat' (first  |(refine kA ?_;conv=>whnf)|(refine Br.mk (fun hc=>?_) fun hc=>?_<;>first|exact hc.elim|conv=>whnf)|(refine kB ?_))
 all_goals first|(exfalso;omega)|skip
 have hLl:(labelsB (idsG g) r).length=g.nodes.length:=by simp[labelsB,idsG]
 refine loop_inv (fun m env s=>∃(i c ga n:Nat) (b:Bool) (p:Int→Int),m=g.nodes.length-i∧i≤g.nodes.length∧n=i∧Forest (idsG g) p r∧env=[(5,.ref 2 2 0 0),(10,.own 3 ga 0 n),(45,.sl g.nn (vs GN.av g.nodes)),(46,.int .i64 g.nodes.length),(47,.int .i64 i)]∧s=⟨foS (.arr 0 4 true true [g.av]) 1 2 (idsG g) p [.arr ga 2 b true (vs pv ((labelsB (idsG g) r).take i))],c⟩) ?_ _ _ _ ⟨0,_,_,_,_,p,rfl,by omega,rfl,hF,rfl,rfl⟩
 have hends:=hr
 clear hF hc hlt hr
 rintro _ _ _ ⟨i,c,ga,n,b,p,rfl,hi,rfl,hF,rfl,rfl⟩
 refine⟨rfl,?_⟩
 unfold foS
 by_cases hlt:n<g.nodes.length
 ·have hx:(g.nodes[n]).id∈idsG g:=List.mem_map_of_mem (List.getElem_mem hlt)
  have hsn:(labelsB (idsG g) r).take (n+1)=(labelsB (idsG g) r).take n++[((g.nodes[n]).id,r (g.nodes[n]).id)]:=by
   rw[List.take_succ_eq_append_getElem (by omega)]
   simp[labelsB,idsG]
  have htl:((labelsB (idsG g) r).take n).length=n:=by rw[List.length_take];omega
  (conv=>whnf);repeat' (first|(refine need.mk sameRef_int ?_;conv=>whnf)|(refine (fndP hF hnd hpos hx).mono ?_;rintro _ _ ⟨c',p',hF',rfl,rfl⟩;conv=>whnf)|(refine apV1 (f:=pv) (l:=(labelsB (idsG g) r).take n) (x:=((g.nodes[n]).id,r (g.nodes[n]).id)) cellsPv htl.symm (by rw[htl];omega) ?_;conv=>whnf)|(refine kA ?_;conv=>whnf)|(refine Br.mk (fun hc=>?_) fun hc=>?_<;>first|exact hc.elim|conv=>whnf)|(refine kB ?_))
  all_goals first
   |(exfalso;omega)
   |(rw [← hsn];exact again.mk ⟨_,by omega,n+1,_,_,_,_,_,rfl,by omega,by omega,by assumption,rfl,rfl⟩)
   | (trace_state; fail "weakP3")
 ·rw[List.take_of_length_le (by omega)]
  (conv=>whnf);repeat' (first  |(refine kA ?_;conv=>whnf)|(refine Br.mk (fun hc=>?_) fun hc=>?_<;>first|exact hc.elim|conv=>whnf)|(refine kB ?_))
  all_goals first
   |(exfalso;omega)
   |exact⟨b,congrArg (AV.sl b) ((sub0 (by omega)).trans (congrArg (vs pv) hends))⟩
   | (trace_state; fail "weakP4")
def cntB (es:List (Int×Int)) (out:List Int) (k:Int):Nat:=es.countP fun e=>decide (e.2=k∧e.1∉out)
def readyB (es:List (Int×Int)) (out:List Int) (k:Int):Prop:=∀e∈es,e.2=k→e.1∈out
instance (es:List (Int×Int)) (out:List Int) (k:Int):Decidable (readyB es out k):=by unfold readyB;infer_instance
theorem cntB_zero (es:List (Int×Int)) (out:List Int) (k:Int):cntB es out k=0↔readyB es out k:=by
 unfold cntB readyB
 rw[List.countP_eq_zero]
 refine⟨fun h e he hk=>?_,fun h e he hc=>?_⟩
 ·have:=h e he
  simp only[decide_eq_true_eq,not_and,Classical.not_not]at this
  exact this hk
 ·obtain⟨h1,h2⟩:=of_decide_eq_true hc
  exact h2 (h e he h1)
def leftB (ids out:List Int):List Int:=ids.filter fun k=>decide (k∉out)
def nextB (ids:List Int) (es:List (Int×Int)) (out:List Int):Option Int:=ids.find? fun k=>decide (k∉out∧readyB es out k)
theorem nextB_left (ids:List Int) (es:List (Int×Int)) (out:List Int):nextB ids es out=(leftB ids out).find? fun k=>decide (cntB es out k=0):=by
 unfold nextB leftB
 rw[List.find?_filter]
 congr 1
 funext k
 simp[cntB_zero]
def topoN (ids:List Int) (es:List (Int×Int)):Nat→List Int→Option (List Int)
 |0,out=>some out
 |n+1,out=>match nextB ids es out with
  |some k=>topoN ids es n (out++[k])
  |none=>none
def topoB (ids:List Int) (es:List (Int×Int)):Option (List Int):=topoN ids es ids.length []
theorem nextB_some {ids:List Int} {es:List (Int×Int)} {out:List Int} {k:Int} (h:nextB ids es out=some k):k∈ids∧k∉out∧readyB es out k:=by
 unfold nextB at h
 have h1:=List.find?_some h
 exact⟨List.mem_of_find?_eq_some h,of_decide_eq_true h1⟩
def doneB (es:List (Int×Int)) (out:List Int):Prop:=∀e∈es,e.2∈out→e.1∈out
theorem doneB_nil (es:List (Int×Int)):doneB es []:=fun e _ h=>by cases h
theorem doneB_snoc {es:List (Int×Int)} {out:List Int} {k:Int} (h:doneB es out) (hk:readyB es out k):doneB es (out++[k]):=fun e he h2=>by
 rcases List.mem_append.1 h2 with h2|h2
 ·exact List.mem_append_left _ (h e he h2)
 ·exact List.mem_append_left _ (hk e he (List.mem_singleton.1 h2))
theorem leftB_snoc (ids out:List Int) (k:Int):leftB ids (out++[k])=(leftB ids out).filter fun x=>decide (x≠k):=by
 unfold leftB
 rw[List.filter_filter]
 congr 1
 funext x
 by_cases h1:x∈out<;>by_cases h2:x=k<;>simp[h1,h2]
theorem leftB_len {ids out:List Int} (hnd:ids.Nodup) (ho:out.Nodup) (hs:∀x∈out,x∈ids):(leftB ids out).length+out.length=ids.length:=by
 have h1:(ids.filter fun k=>decide (k∈out)).Perm out:=by
  refine(List.perm_ext_iff_of_nodup (hnd.filter _) ho).2 fun x=>?_
  simp only[List.mem_filter,decide_eq_true_eq]
  exact⟨fun h=>h.2,fun h=>⟨hs x h,h⟩⟩
 have h2:ids.countP (fun k=>decide (k∈out))+ids.countP (fun k=>!decide (k∈out))=ids.length:=by
  rw[List.length_eq_countP_add_countP (fun k=>decide (k∈out)) (l:=ids)]
  congr 2
  funext k
  by_cases h:k∈out<;>simp[h]
 have h3:leftB ids out=ids.filter fun k=>!decide (k∈out):=by
  unfold leftB
  congr 1
  funext k
  by_cases h:k∈out<;>simp[h]
 rw[h3,←List.countP_eq_length_filter,←h1.length_eq,←List.countP_eq_length_filter]
 omega
theorem cntB_snoc (es:List (Int×Int)) {out:List Int} {k:Int} (hk:k∉out) (x:Int):cntB es (out++[k]) x+es.countP (fun e=>decide (e.2=x∧e.1=k))=cntB es out x:=by
 induction es with
 |nil=>rfl
 |cons e es ih=>
  have c1:∀o:List Int,cntB (e::es) o x=cntB es o x+if e.2=x∧e.1∉o then 1 else 0:=fun o=>by
   unfold cntB
   rw[List.countP_cons]
   congr 1
   by_cases h:e.2=x∧e.1∉o
   ·rw[if_pos h,if_pos (decide_eq_true h)]
   ·rw[if_neg h,if_neg (by simpa using h)]
  have c2:(e::es).countP (fun e=>decide (e.2=x∧e.1=k))=es.countP (fun e=>decide (e.2=x∧e.1=k))+if e.2=x∧e.1=k then 1 else 0:=by
   rw[List.countP_cons]
   congr 1
   by_cases h:e.2=x∧e.1=k
   ·rw[if_pos h,if_pos (decide_eq_true h)]
   ·rw[if_neg h,if_neg (by simpa using h)]
  rw[c1,c1,c2]
  by_cases h1:e.2=x
  ·by_cases h2:e.1=k
   ·rw[if_neg (fun h=>h.2 (by rw[h2];simp)),if_pos ⟨h1,h2⟩,if_pos ⟨h1,by rw[h2];exact hk⟩];omega
   ·by_cases h3:e.1∈out
    ·rw[if_neg (fun h=>h.2 (List.mem_append_left _ h3)),if_neg (fun h=>h2 h.2),if_neg (fun h=>h.2 h3)];omega
    ·rw[if_pos ⟨h1,by simp[h2,h3]⟩,if_neg (fun h=>h2 h.2),if_pos ⟨h1,h3⟩];omega
  ·rw[if_neg (fun h=>h1 h.1),if_neg (fun h=>h1 h.1),if_neg (fun h=>h1 h.1)];omega
theorem topoN_mono {ids:List Int} {es:List (Int×Int)}:∀(n:Nat) (out l:List Int),topoN ids es n out=some l→∃m,l=out++m∧m.length=n
 |0,out,l,h=>by cases h;exact⟨[],by simp,rfl⟩
 |n+1,out,l,h=>by
  unfold topoN at h
  split at h
  ·rename_i k _
   obtain⟨m,rfl,hm⟩:=topoN_mono n _ _ h
   exact⟨k::m,by simp,by simp[hm]⟩
  ·cases h
theorem calls_ext {AP:Nat→Option AFn} {f:Nat} {sp:List AV→Sto→Option (AOut×Sto)} {args:List AV} {s s':Sto} {out:AOut} {K:AOut→Sto→Prop} (hf:AP f=some (.ext sp)) (h:sp args s=some (out,s')) (hK:K out s'):Calls1 AP f args s K:=
 ⟨1,out,s',by simp only[run,hf];exact h,hK⟩
end AI
end Go.Proofs.YtgmgkkbpgndaaaaGreatDoor
