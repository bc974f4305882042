/- component.Strong: the state in the store. component.Strong: the state in the store; a node is entered. The first place in a list; the least of a list. component.Strong: a node is left. What is reached along edges: round by round; the least of those that reach each other. Plain. component.Strong: what the store says of Tarjan's state; its steps: plain. -/
import Derived.Test.YtjjhejbffgaabaaGreatDoorQMaa
import Derived.Test.YtjjhejbffgaabaaGreatDoorQSe
import Derived.Test.YtjjhejbffgaabaaGreatDoorQMag
import Derived.Test.YtjjhejbffgaabaaGreatDoorQMae
set_option linter.unusedVariables false
set_option maxRecDepth 4000
namespace Go.Proofs.YtjjhejbffgaabaaGreatDoor
namespace AI
theorem OV {α:Type} {l r:List α} {i:Nat} (h:i<l.length):nth (l++r) i=nth l i:=by
 rw[Am,Am,List.getElem?_append_left h]
theorem Nq {α:Type} {l:List α} {x:α}:nth (l++[x]) l.length=some x:=by
 rw[Am,List.getElem?_append_right (Nat.le_refl _)];simp
theorem Qq {α:Type} {l:List α} {i:Nat} {x y:α} (h:nth l i=some y):nth (l.set i x) i=some x:=by
 rw[Am,List.getElem?_set_self (CU h)]
theorem SQ {α:Type} {l:List α} {i j:Nat} {x:α} (h:i≠j):nth (l.set i x) j=nth l j:=by
 rw[Am,Am,List.getElem?_set_ne h]
structure G7 (σ σ':List Obj) (F:List Nat):Prop where
 len:σ.length≤σ'.length
 eq:∀o,o<σ.length→o∉F→nth σ' o=nth σ o
theorem G7.refl {σ:List Obj} {F:List Nat}:G7 σ σ F:=⟨Nat.le_refl _,fun _ _ _=>rfl⟩
theorem G7.trans {σ σ1 σ2:List Obj} {F F':List Nat} (h:G7 σ σ1 F) (k:G7 σ1 σ2 F'):G7 σ σ2 (F++F'):=
 ⟨Nat.le_trans h.len k.len,fun o ho hf=>by
  rw[List.mem_append]at hf
  exact(k.eq o (Nat.lt_of_lt_of_le ho h.len) fun e=>hf (.inr e)).trans (h.eq o ho fun e=>hf (.inl e))⟩
theorem G7.mono {σ σ':List Obj} {F F':List Nat} (h:G7 σ σ' F) (hf:∀o∈F,o∈F'∨σ.length≤o):G7 σ σ' F':=
 ⟨h.len,fun o ho hn=>h.eq o ho fun hm=>(hf o hm).elim hn fun h=>by omega⟩
theorem G7.get {σ σ':List Obj} {F:List Nat} {o:Nat} {x:Obj} (h:G7 σ σ' F) (hx:nth σ o=some x) (hf:o∉F):nth σ' o=some x:=(h.eq o (CU hx) hf).trans hx
theorem LG {σ:List Obj} {y:Obj} {K:List Obj→Prop} (h:∀σ',G7 σ σ' []→nth σ' σ.length=some y→σ'.length=σ.length+1→K σ'):VN σ y K:=
 (Nr _ _ _).2 (h _ ⟨by simp,fun o ho _=>OV ho⟩ Nq (by simp))
theorem Iw {σ:List Obj} {o:Nat} {x y:Obj} {K:List Obj→Prop} (hx:nth σ o=some x) (h:∀σ',G7 σ σ' [o]→nth σ' o=some y→σ'.length=σ.length→K σ'):I4 σ o y K:=
 (DU _ _ _ _).2 (h _ ⟨by simp,fun p hp hn=>SQ (by simpa using fun e=>hn (by simp[e]))⟩ (Qq hx) (by simp))
theorem LH {t o g es c':Nat} {sz:Option Nat} {σ:List Obj} {x:AV} {nn cl:Bool} (h:nth σ o=some (.arr g es nn cl [x])):FD [(t,.ref o g 0 0)] ⟨σ,c'⟩ [.cell t sz]=(loadCells x.cells sz).map fun v=>[v]:=by
 have e:Env.get [(t,AV.ref o g 0 0)] t=.ref o g 0 0:=by simp[Env.get]
 have e2:Ns [(t,.ref o g 0 0)] ⟨σ,c'⟩ (.cell t sz)=loadCells x.cells sz:=by
  show(match Env.get [(t,AV.ref o g 0 0)] t with
   | .ref o g i off=>match nth σ o with
     |some (.arr g' _ _ _ elems)=>if g=g' then match nth elems i with
         |some x=>loadCells (x.cells.drop off) sz
         |none=>none
      else none
     |_=>none
   |_=>none)=_
  rw[e]
  simp only[h,if_true]
  rfl
 show(match Ns [(t,.ref o g 0 0)] ⟨σ,c'⟩ (.cell t sz),some []with
  |some v,some vs=>some (v::vs)
  |_,_=>none)=_
 rw[e2]
 cases loadCells x.cells sz<;>rfl
structure GS where
 a:Nat
 b:Nat
 c:Nat
 d:Nat
 e:Nat
 f:Nat
structure HS (G:GS) (CV:List (AV×AV)) (cn:Bool) (σ:List Obj) (BD Ba:List (Int×Int)) (stk:AV) (Di:List (Int×Bool)) (Dn:List (Int×Int)):Prop where
 h1:nth σ 1=some (.mp G.a cn CV)
 h2:nth σ 2=some (.mp G.b true (Ec BD))
 h3:nth σ 3=some (.mp G.c true (Ec Ba))
 h4:nth σ 4=some (.mp G.d true (I5 Di))
 h5:nth σ 5=some (.mp G.e true (Ec Dn))
 h6:nth σ 6=some (.arr G.f 6 true false [.agg [.map 1 G.a,.map 2 G.b,.map 3 G.c,stk,.map 4 G.d,.map 5 G.e]])
section
variable {G:GS} {CV:List (AV×AV)} {cn:Bool} {σ:List Obj} {BD Ba Dn:List (Int×Int)} {Di:List (Int×Bool)} {stk:AV}
theorem HS.keep {σ':List Obj} {F:List Nat} (h:HS G CV cn σ BD Ba stk Di Dn) (f:G7 σ σ' F) (hF:∀o∈F,6<o):HS G CV cn σ' BD Ba stk Di Dn:=by
 have hn:∀o,o≤6→o∉F:=fun o ho hm=>by have:=hF o hm;omega
 exact⟨f.get h.h1 (hn _ (by omega)),f.get h.h2 (hn _ (by omega)),f.get h.h3 (hn _ (by omega)),f.get h.h4 (hn _ (by omega)),f.get h.h5 (hn _ (by omega)),f.get h.h6 (hn _ (by omega))⟩
theorem HS.AcZ {M:List (Int×Int)} {K:List Obj→Prop} (h:HS G CV cn σ BD Ba stk Di Dn) (hK:∀σ',HS G CV cn σ' M Ba stk Di Dn→G7 σ σ' [2]→σ'.length=σ.length→K σ'):I4 σ 2 (.mp G.b true (Ec M)) K:=
 Iw h.h2 fun σ' f k l=>hK σ' ⟨f.get h.h1 (by simp),k,f.get h.h3 (by simp),f.get h.h4 (by simp),f.get h.h5 (by simp),f.get h.h6 (by simp)⟩ f l
theorem HS.UF {M:List (Int×Int)} {K:List Obj→Prop} (h:HS G CV cn σ BD Ba stk Di Dn) (hK:∀σ',HS G CV cn σ' BD M stk Di Dn→G7 σ σ' [3]→σ'.length=σ.length→K σ'):I4 σ 3 (.mp G.c true (Ec M)) K:=
 Iw h.h3 fun σ' f k l=>hK σ' ⟨f.get h.h1 (by simp),f.get h.h2 (by simp),k,f.get h.h4 (by simp),f.get h.h5 (by simp),f.get h.h6 (by simp)⟩ f l
theorem HS.Aaf {M:List (Int×Bool)} {K:List Obj→Prop} (h:HS G CV cn σ BD Ba stk Di Dn) (hK:∀σ',HS G CV cn σ' BD Ba stk M Dn→G7 σ σ' [4]→σ'.length=σ.length→K σ'):I4 σ 4 (.mp G.d true (I5 M)) K:=
 Iw h.h4 fun σ' f k l=>hK σ' ⟨f.get h.h1 (by simp),f.get h.h2 (by simp),f.get h.h3 (by simp),k,f.get h.h5 (by simp),f.get h.h6 (by simp)⟩ f l
theorem HS.Aen {M:List (Int×Int)} {K:List Obj→Prop} (h:HS G CV cn σ BD Ba stk Di Dn) (hK:∀σ',HS G CV cn σ' BD Ba stk Di M→G7 σ σ' [5]→σ'.length=σ.length→K σ'):I4 σ 5 (.mp G.e true (Ec M)) K:=
 Iw h.h5 fun σ' f k l=>hK σ' ⟨f.get h.h1 (by simp),f.get h.h2 (by simp),f.get h.h3 (by simp),f.get h.h4 (by simp),k,f.get h.h6 (by simp)⟩ f l
theorem HS.Aag {G8:AV} {K:List Obj→Prop} (h:HS G CV cn σ BD Ba stk Di Dn) (hK:∀σ',HS G CV cn σ' BD Ba G8 Di Dn→G7 σ σ' [6]→σ'.length=σ.length→K σ'):I4 σ 6 (.arr G.f 6 true false [.agg [.map 1 G.a,.map 2 G.b,.map 3 G.c,G8,.map 4 G.d,.map 5 G.e]]) K:=
 Iw h.h6 fun σ' f k l=>hK σ' ⟨f.get h.h1 (by simp),f.get h.h2 (by simp),f.get h.h3 (by simp),f.get h.h4 (by simp),f.get h.h5 (by simp),k⟩ f l
end
theorem QD {α β:Type} [DecidableEq α] {M:List (α×β)} {k:α} {v:β}:AZ (Bz M k v) k=some v:=by rw[Cj,if_pos rfl]
theorem Rt {M:List (Int×Int)} {k v:Int} {K:Option (Nat×AV)→Prop} (h:AZ M k=some v) (hK:∀i,K (some (i,.int .i64 v))):H7 .int (.int .i64 k) (Ec M) K:=
 fkI (fun hm=>by rw[h]at hm;cases hm) fun i w hm=>by
  rw[h]at hm
  cases hm
  exact hK i
theorem fkZ {M:List (Int×Int)} {k:Int} {K:Option (Nat×AV)→Prop} (h:AZ M k=none) (hK:K none):H7 .int (.int .i64 k) (Ec M) K:=
 fkI (fun _=>hK) fun i w hm=>by rw[h]at hm;cases hm
theorem msH {M:List (Int×Int)} {k:Int} {n n':Nat} {K:List (AV×AV)→Prop} (e:n=n') (h:K (Ec (Bz M k n'))):NV .int (.int .i64 k) (.int .i64 n) (Ec M) K:=by
 subst e;exact Yc h
theorem apJ {α:Type} {f:α→AV} {es g n bytes:Nat} {cl:Bool} {S J:List α} {m:α} {K:Nat→Bool→Bool→List AV→Prop} (hf:∀x,(f x).cells.length=es) (hn:n=S.length) (hr:(S.length+1)*bytes≤2 ^ 46) (h:K (S.length+1) true cl (vs f (S++[m]))):
 LJ g g es es n true cl true (vs f (S++J)) [f m] bytes K:=by
 subst hn
 refine⟨⟨rfl,rfl,by simp,by intro y hy;simp at hy;subst hy;exact hf m,JF hr⟩,?_⟩
 have e:(vs f (S++J)).take S.length++[f m]=vs f (S++[m]):=by
  simp[vs]
 rw[e,Bool.and_true]
 simpa using h
set_option maxHeartbeats 4000000 in
theorem AeI {G:GS} {CV:List (AV×AV)} {cn:Bool} {σ:List Obj} {BD Ba Dn:List (Int×Int)} {Di:List (Int×Bool)} {c:Nat} {m:Int} (hS:HS G CV cn σ BD Ba (.sl false []) Di Dn) (hm:AZ BD m=none) (hl:BD.length<2^40):
 CJ (Ag tab) 57 [.ref 6 G.f 0 0,.int .i64 m] ⟨σ,c⟩
  fun out s'=>∃σ' c' o g,out=.ok (.agg [.int .i64 m,.int .i64 0])∧s'=⟨σ',c'⟩∧HS G CV cn σ' (Bz BD m BD.length) (Bz Ba m BD.length) (.own o g 0 1) (Bz Di m true) Dn∧nth σ' o=some (.arr g 1 true true (vs (.int .i64) [m]))∧σ.length≤o∧G7 σ σ' [2,3,4,6]:=by
 have hML:(Ec BD).length=BD.length:=List.length_map _
 have hlt:=CU hS.h6
 refine CB rfl rfl ?_
 (conv=>whnf);repeat' (first|(refine LG fun σ1 ff k1 l1=>?_;have hS:=hS.keep ff (by simp);replace k1:nth σ1 σ.length=some (.arr c 2 true true [.agg [.int .i64 0,.int .i64 0]]):=k1;replace l1:σ1.length=σ.length+1:=l1;replace ff:G7 σ σ1 []:=ff;conv=>whnf)|(rw [hS.h6];conv=>whnf)|(rw [hS.h2];conv=>whnf)|(rw [hS.h3];conv=>whnf)|(rw [hS.h4];conv=>whnf)|(refine Rt QD (fun _=>?_);conv=>whnf)|(refine msH hML ?_;conv=>whnf)|(refine Yc ?_;conv=>whnf)|(refine msT ?_;conv=>whnf)|(refine hS.AcZ fun σ1 hS f l=>?_;have k1:=f.get k1 (by simp;omega);have ff:=ff.trans f;conv=>whnf)|(refine hS.UF fun σ1 hS f l=>?_;have k1:=f.get k1 (by simp;omega);have ff:=ff.trans f;conv=>whnf)|(refine hS.Aaf fun σ1 hS f l=>?_;have k1:=f.get k1 (by simp;omega);have ff:=ff.trans f;conv=>whnf)|(refine hS.Aag fun σ1 hS f l=>?_;have k1:=f.get k1 (by simp;omega);have ff:=ff.trans f;conv=>whnf)|(rw [k1];conv=>whnf)|(refine kA ?_;conv=>whnf)|(refine Br.mk (fun hc=>?_) fun hc=>?_<;>first|exact hc.elim|conv=>whnf)|(refine kB ?_))
 dsimp only[push,List.isEmpty_cons,List.length_singleton]
 obtain⟨σ2,hσ2⟩:∃σ2,σ2=σ1++[Obj.arr (c+1) 1 (!false) true [.int .i64 m]]:=⟨_,rfl⟩
 rw[← hσ2]
 have f2:G7 σ1 σ2 []:=by rw[hσ2];exact⟨by simp,fun o ho _=>OV ho⟩
 have q2:nth σ2 σ1.length=some (.arr (c+1) 1 true true [.int .i64 m]):=by rw[hσ2];exact Nq
 have hlt1:σ.length≠σ1.length:=by omega
 have hl1:6<σ1.length:=by omega
 replace hS:=hS.keep f2 (by simp)
 replace k1:=f2.get k1 (by simp)
 replace ff:=ff.trans f2
 conv=>whnf
 (conv=>whnf);repeat' (first|(rw [hS.h6];conv=>whnf)|(rw [hS.h4];conv=>whnf)|(refine msT ?_;conv=>whnf)|(refine hS.Aaf fun σ1 hS f l=>?_;have k1:=f.get k1 (by simp;omega);have q2:=f.get q2 (by simp;omega);have ff:=ff.trans f;conv=>whnf)|(refine hS.Aag fun σ1 hS f l=>?_;have k1:=f.get k1 (by simp;omega);have q2:=f.get q2 (by simp;omega);have ff:=ff.trans f;conv=>whnf)|(rw [k1];conv=>whnf)|(refine Iw k1 fun σ1 f k1 l=>?_;have hS:=hS.keep f (by simp;omega);have q2:=f.get q2 (by simp;omega);have ff:=ff.trans f;conv=>whnf)|(refine kA ?_;conv=>whnf)|(refine Br.mk (fun hc=>?_) fun hc=>?_<;>first|exact hc.elim|conv=>whnf)|(refine kB ?_))
 refine BH ((LH (t:=4) (sz:=some 2) k1).trans rfl) ?_
 exact⟨_,_,_,_,rfl,rfl,hS,q2,by omega,ff.mono (by simp)⟩
set_option maxHeartbeats 4000000 in
theorem Adk {G:GS} {CV:List (AV×AV)} {cn:Bool} {σ:List Obj} {BD Ba Dn:List (Int×Int)} {Di:List (Int×Bool)} {c q gs n:Nat} {S J:List Int} {m:Int} (hS:HS G CV cn σ BD Ba (.own q gs 0 n) Di Dn) (hn:n=S.length) (hm:AZ BD m=none) (hl:S.length<2^40)
 (hq:nth σ q=some (.arr gs 1 true true (vs (.int .i64) (S++J)))) (hq6:6<q):
 CJ (Ag tab) 57 [.ref 6 G.f 0 0,.int .i64 m] ⟨σ,c⟩
  fun out s'=>∃σ' c' g,out=.ok (.agg [.int .i64 m,.int .i64 0])∧s'=⟨σ',c'⟩∧HS G CV cn σ' (Bz BD m BD.length) (Bz Ba m BD.length) (.own q g 0 (S.length+1)) (Bz Di m true) Dn∧nth σ' q=some (.arr g 1 true true (vs (.int .i64) (S++[m])))∧G7 σ σ' [2,3,4,6,q]:=by
 subst hn
 have hML:(Ec BD).length=BD.length:=List.length_map _
 have hlt:=CU hS.h6
 have hqσ:σ.length≠q:=by have:=CU hq;omega
 refine CB rfl rfl ?_
 (conv=>whnf);repeat' (first|(refine LG fun σ1 ff k1 l1=>?_;have hS:=hS.keep ff (by simp);replace k1:nth σ1 σ.length=some (.arr c 2 true true [.agg [.int .i64 0,.int .i64 0]]):=k1;have hq:=ff.get hq (by simp);replace ff:G7 σ σ1 []:=ff;conv=>whnf)|(rw [hS.h6];conv=>whnf)|(rw [hS.h2];conv=>whnf)|(rw [hS.h3];conv=>whnf)|(rw [hS.h4];conv=>whnf)|(rw [hq];conv=>whnf)|(rw [k1];conv=>whnf)|(refine Rt QD (fun _=>?_);conv=>whnf)|(refine msH hML ?_;conv=>whnf)|(refine Yc ?_;conv=>whnf)|(refine msT ?_;conv=>whnf)|(refine apJ (f:=.int .i64) (S:=S) (J:=J) (m:=m) (fun _=>rfl) rfl (by omega) ?_;conv=>whnf)|(refine hS.AcZ fun σ1 hS f l=>?_;have k1:=f.get k1 (by simp;omega);have hq:=f.get hq (by simp;omega);have ff:=ff.trans f;conv=>whnf)|(refine hS.UF fun σ1 hS f l=>?_;have k1:=f.get k1 (by simp;omega);have hq:=f.get hq (by simp;omega);have ff:=ff.trans f;conv=>whnf)|(refine hS.Aaf fun σ1 hS f l=>?_;have k1:=f.get k1 (by simp;omega);have hq:=f.get hq (by simp;omega);have ff:=ff.trans f;conv=>whnf)|(refine hS.Aag fun σ1 hS f l=>?_;have k1:=f.get k1 (by simp;omega);have hq:=f.get hq (by simp;omega);have ff:=ff.trans f;conv=>whnf)|(refine Iw hq fun σ1 f hq l=>?_;have hS:=hS.keep f (by simp;omega);have k1:=f.get k1 (by simp;omega);have ff:=ff.trans f;conv=>whnf)|(refine Iw k1 fun σ1 f k1 l=>?_;have hS:=hS.keep f (by simp;omega);have hq:=f.get hq (by simp;omega);have ff:=ff.trans f;conv=>whnf)|(refine kA ?_;conv=>whnf)|(refine Br.mk (fun hc=>?_) fun hc=>?_<;>first|exact hc.elim|conv=>whnf)|(refine kB ?_))
 refine BH ((LH (t:=4) (sz:=some 2) k1).trans rfl) ?_
 exact⟨_,_,_,rfl,rfl,hS,hq,ff.mono (by simp)⟩
def Fst (l:List Int) (x:Int) (i:Nat):Prop:=l[i]?=some x∧x∉l.take i
theorem WW {S0 C0:List Int} {t:Int} (h:t∉S0):Fst (S0++t::C0) t S0.length:=⟨by simp,by simpa using h⟩
set_option maxHeartbeats 1000000 in
theorem Aer {l:List Int} {x:Int} {k:Nat} {nn:Bool} (hl:l.length<2^62) (hk:Fst l x k):AX (Ag tab) 84 [.sl nn (vs (.int .i64) l),.int .i64 x] (· =.int .i64 k):=by
 have hkl:k<l.length:=(List.getElem?_eq_some_iff.1 hk.1).1
 have hkx:l[k]=x:=(List.getElem?_eq_some_iff.1 hk.1).2
 have hno:∀i (h:i<k),l[i]'(by omega)≠x:=fun i h e=>hk.2 (by rw[List.mem_take_iff_getElem];exact⟨i,by omega,e⟩)
 refine Ai rfl rfl ?_
 (conv=>whnf);repeat' (first  |(refine kA ?_;conv=>whnf)|(refine Br.mk (fun hc=>?_) fun hc=>?_<;>first|exact hc.elim|conv=>whnf)|(refine kB ?_))
 refine Au (fun m env s=>∃i:Nat,m=l.length-i∧i≤k∧env=[(0,.sl nn (vs (.int .i64) l)),(1,.int .i64 x),(7,.int .i64 l.length),(8,.int .i64 i)]∧s=⟨[],0⟩) ?_ _ _ _ ⟨0,rfl,by omega,rfl,rfl⟩
 rintro _ _ _ ⟨i,rfl,hi,rfl,rfl⟩
 refine⟨rfl,?_⟩
 have hlt:i<l.length:=by omega
 by_cases e:i=k
 ·subst e
  clear hno
  (conv=>whnf);repeat' (first  |(refine kA ?_;conv=>whnf)|(refine Br.mk (fun hc=>?_) fun hc=>?_<;>first|exact hc.elim|conv=>whnf)|(refine kB ?_))
  all_goals first
   |(exfalso;omega)
   |rfl
   |exact absurd hkx.symm ‹_›
 ·have h1:=hno i (by omega)
  (conv=>whnf);repeat' (first  |(refine kA ?_;conv=>whnf)|(refine Br.mk (fun hc=>?_) fun hc=>?_<;>first|exact hc.elim|conv=>whnf)|(refine kB ?_))
  all_goals first
   |(exfalso;omega)
   |exact again.mk ⟨_,by omega,i+1,rfl,by omega,rfl,rfl⟩
   |exact absurd (Eq.symm ‹_›) h1
set_option maxHeartbeats 1000000 in
theorem Aes {l:List Int} {nn:Bool} (hl:l.length<2^62) (h0:l≠[]):AX (Ag tab) 85 [.sl nn (vs (.int .i64) l)] (fun v=>∃x∈l,(∀ u∈l,x≤u)∧v=.int .i64 x):=by
 have hpos:0<l.length:=List.length_pos_iff.2 h0
 refine Ai rfl rfl ?_
 (conv=>whnf);repeat' (first  |(refine kA ?_;conv=>whnf)|(refine Br.mk (fun hc=>?_) fun hc=>?_<;>first|exact hc.elim|conv=>whnf)|(refine kB ?_))
 all_goals first|(exfalso;omega)|skip
 refine Au (fun m env s=>∃(i:Nat) (x:Int),m=l.length-i∧1≤i∧i≤l.length∧x∈l∧(∀ u∈l.take i,x≤u)∧env=[(0,.sl nn (vs (.int .i64) l)),(3,.int .i64 x),(4,.int .i64 i)]∧s=⟨[],0⟩) ?_ _ _ _ ⟨1,_,rfl,by omega,by omega,List.getElem_mem hpos,?_,rfl,rfl⟩
 ·rintro _ _ _ ⟨i,x,rfl,h1,hi,hx,hle,rfl,rfl⟩
  refine⟨rfl,?_⟩
  by_cases hlt:i<l.length
  ·have hT:=List.take_succ_eq_append_getElem hlt
   (conv=>whnf);repeat' (first  |(refine kA ?_;conv=>whnf)|(refine Br.mk (fun hc=>?_) fun hc=>?_<;>first|exact hc.elim|conv=>whnf)|(refine kB ?_))
   all_goals first
        |(exfalso;omega)
        |exact again.mk ⟨_,by omega,i+1,_,rfl,by omega,by omega,(by split;exact List.getElem_mem hlt;exact hx),(by
          intro u hu
          rw[hT,List.mem_append,List.mem_singleton]at hu
          rcases hu with hu|rfl
          ·have:=hle u hu;split<;>omega
          ·split<;>omega),rfl,rfl⟩
  ·rw[List.take_of_length_le (by omega)]at hle
   (conv=>whnf);repeat' (first  |(refine kA ?_;conv=>whnf)|(refine Br.mk (fun hc=>?_) fun hc=>?_<;>first|exact hc.elim|conv=>whnf)|(refine kB ?_))
   all_goals first
        |(exfalso;omega)
        |exact⟨x,hx,hle,rfl⟩
 ·intro u hu
  rw[List.mem_take_iff_getElem]at hu
  obtain⟨j,hj,rfl⟩:=hu
  have:j=0:=by omega
  subst this
  exact Int.le_refl _
theorem Afm {α:Type} {f:α→AV} {A B J:List α} {a n:Nat} (ha:a=A.length) (hn:n=B.length):sub (vs f (A++B++J)) a n=vs f B:=by
 subst ha;subst hn
 simp[vs,sub]
theorem Afn {α:Type} {f:α→AV} {B J:List α} {n:Nat} (hn:n=B.length):sub (vs f (B++J)) 0 n=vs f B:=by
 subst hn
 simp[vs,sub]
theorem Afo {α:Type} {f:α→AV} {A B J:List α} {k i:Nat} {K:AV→Prop} (hk:k=A.length+i) (hi:i<B.length) (h:K (f B[i])):RU (vs f (A++B++J)) k K:=by
 subst hk
 refine Az ?_ h
 rw[Am,vs,List.append_assoc,List.map_append,List.getElem?_append_right (by simp),List.length_map,Nat.add_sub_cancel_left,List.getElem?_map,List.getElem?_append_left hi,List.getElem?_eq_getElem hi]
 rfl
theorem Zq {α:Type} {D:List Int} {i:Nat} {a:Option α} {f f' g:Int→Option α} (hi:i<D.length) (h:∀v,f v=if v∈D.take i then a else g v) (h':∀v,f' v=if v=D[i]then a else f v) (v:Int):f' v=if v∈D.take (i+1)then a else g v:=by
 have hm:v∈D.take (i+1)↔v∈D.take i∨v=D[i]:=by rw[List.take_succ_eq_append_getElem hi,List.mem_append,List.mem_singleton]
 rw[h']
 by_cases e:v=D[i]
 ·rw[if_pos e,if_pos (hm.2 (.inr e))]
 ·rw[if_neg e,h]
  by_cases k:v∈D.take i
  ·rw[if_pos k,if_pos (hm.2 (.inl k))]
  ·rw[if_neg k,if_neg fun hc=>(hm.1 hc).elim k e]
section
variable {G:GS} {CV:List (AV×AV)} {cn:Bool} {σ:List Obj} {BD Ba Dn:List (Int×Int)} {Di:List (Int×Bool)} {c:Nat} {t:Int}
set_option maxHeartbeats 1000000 in
theorem Acp {stk:AV} {a b:Int} (hS:HS G CV cn σ BD Ba stk Di Dn) (h1:AZ Ba t=some a) (h2:AZ BD t=some b) (hne:a≠b):
 CJ (Ag tab) 58 [.ref 6 G.f 0 0,.int .i64 t] ⟨σ,c⟩ fun out s'=>∃c',out=.ok (.E5 [])∧s'=⟨σ,c'⟩:=by
 refine CB rfl rfl ?_
 (conv=>whnf);repeat' (first|(rw [hS.h6];conv=>whnf)|(rw [hS.h2];conv=>whnf)|(rw [hS.h3];conv=>whnf)|(refine Rt h1 (fun _=>?_);conv=>whnf)|(refine Rt h2 (fun _=>?_);conv=>whnf)|(refine kA ?_;conv=>whnf)|(refine Br.mk (fun hc=>?_) fun hc=>?_<;>first|exact hc.elim|conv=>whnf)|(refine kB ?_))
 all_goals first
  |exact⟨_,rfl,rfl⟩
  |exact absurd ‹_› hne
set_option maxHeartbeats 4000000 in
theorem Acr {q gs n a0:Nat} {a:Int} {S0 C0 J:List Int} (hS:HS G CV cn σ BD Ba (.own q gs 0 n) Di Dn) (h1:AZ Ba t=some a) (h2:AZ BD t=some a)
 (hq:nth σ q=some (.arr gs 1 true true (vs (.int .i64) (S0++t::C0++J)))) (hq6:6<q) (ha:a0=S0.length) (hn:n=(S0++t::C0).length) (hl:n<2^40) (ht:t∉S0) (hon:II Di):
 CJ (Ag tab) 58 [.ref 6 G.f 0 0,.int .i64 t] ⟨σ,c⟩ fun out s'=>∃σ' c' IJ KE x,out=.ok (.E5 [])∧s'=⟨σ',c'⟩∧x∈t::C0∧(∀ u∈t::C0,x≤u)∧HS G CV cn σ' BD Ba (.own q gs 0 a0) IJ KE∧II IJ∧(∀ v,AZ IJ v=if v∈t::C0 then none else AZ Di v)∧(∀ v,AZ KE v=if v∈t::C0 then some x else AZ Dn v)∧G7 σ σ' [4,5,6]∧σ'.length=σ.length:=by
 have hnl:n=a0+(t::C0).length:=by rw[hn,List.length_append,ha]
 have hix:=Aer (nn:=true) (l:=S0++t::C0) (x:=t) (k:=a0) (by omega) (by rw[ha];exact WW ht)
 obtain⟨_,⟨x,hx,hxm,rfl⟩,UN⟩:=(Aes (nn:=true) (l:=t::C0) (by omega) (by simp)).UZ
 have hq':=hq
 rw[List.append_assoc]at hq'
 have hvl:(vs (.int .i64) (S0++t::C0++J)).length=n+J.length:=by rw[hn];simp[vs];omega
 refine CB rfl rfl ?_
 (conv=>whnf);repeat' (first|(rw [hS.h6];conv=>whnf)|(rw [hS.h2];conv=>whnf)|(rw [hS.h3];conv=>whnf)|(rw [hq];conv=>whnf)|(refine PY ⟨rfl,by omega⟩ ?_;conv=>whnf)|(refine Rt h1 (fun _=>?_);conv=>whnf)|(refine Rt h2 (fun _=>?_);conv=>whnf)|(refine EU (Afn hn) ?_;conv=>whnf)|(refine EU (Afm (J:=J) ha (show n-a0=(t::C0).length by omega)) ?_;conv=>whnf)|((first|refine Ae hix ?_|refine Ae UN ?_);rintro _ rfl;conv=>whnf)|(refine kA ?_;conv=>whnf)|(refine Br.mk (fun hc=>?_) fun hc=>?_<;>first|exact hc.elim|conv=>whnf)|(refine kB ?_))
 all_goals first|(exfalso;omega)|(exact absurd rfl ‹_›)|skip
 have hkl:n-a0=(t::C0).length:=by omega
 refine Au (fun m env s=>∃(i c':Nat) (σ':List Obj) (IJ:List (Int×Bool)) (KE:List (Int×Int)),m=(t::C0).length-i∧i≤(t::C0).length∧HS G CV cn σ' BD Ba (.own q gs 0 n) IJ KE∧II IJ∧(∀ v,AZ IJ v=if v∈(t::C0).take i then none else AZ Di v)∧(∀ v,AZ KE v=if v∈(t::C0).take i then some x else AZ Dn v)∧nth σ' q=some (.arr gs 1 true true (vs (.int .i64) (S0++t::C0++J)))∧G7 σ σ' [4,5]∧σ'.length=σ.length∧env=[(0,.ref 6 G.f 0 0),(4,.int .i64 a0),(5,.int .i64 x),(39,.own q gs a0 (n-a0)),(40,.int .i64 (n-a0:Nat)),(41,.int .i64 i)]∧s=⟨σ',c'⟩) ?_ _ _ _ ⟨0,_,_,_,_,rfl,by omega,hS,hon,by simp,by simp,hq,.refl,rfl,rfl,rfl⟩
 clear hS hq hon hix UN hq'
 rintro _ _ _ ⟨i,c',σ1,XA,AaV,rfl,hi,hS,hon,ho,hs,hq,ff,fl,rfl,rfl⟩
 refine⟨rfl,?_⟩
 by_cases hlt:i<(t::C0).length
 ·have hs':∀v,AZ (Bz AaV (t::C0)[i] x) v=if v∈(t::C0).take (i+1)then some x else AZ Dn v:=Zq hlt hs fun v=>Cj _ _ _ _
  have ho':∀v,AZ (HY XA (t::C0)[i]) v=if v∈(t::C0).take (i+1)then none else AZ Di v:=Zq hlt ho fun v=>XC hon
  have ho0:AZ XA (t::C0)[i]=none→∀v,AZ XA v=if v∈(t::C0).take (i+1)then none else AZ Di v:=fun hn=>Zq hlt ho fun v=>by
   by_cases e:v=(t::C0)[i]
   ·rw[if_pos e,e];exact hn
   ·rw[if_neg e]
  have AdU:=Vh hon (t::C0)[i]
  generalize hy:(t::C0)[i]=y at hs' ho' ho0 AdU
  (conv=>whnf);repeat' (first|(rw [hS.h6];conv=>whnf)|(rw [hS.h5];conv=>whnf)|(rw [hS.h4];conv=>whnf)|(rw [hq];conv=>whnf)|(refine PY ⟨rfl,rfl,by omega,by omega⟩ ?_;conv=>whnf)|(cases a0<;>(conv=>whnf))|(refine Afo (by omega) hlt ?_;rw[hy];conv=>whnf)|(refine Yc ?_;conv=>whnf)|(refine hS.Aen fun σ1 hS f l=>?_;have hq:=f.get hq (by simp;omega);have fl:=l.trans fl;have ff:=ff.trans f;conv=>whnf)|(refine fkT (fun hn=>?_) (fun j w hw he=>?_)<;>conv=>whnf)|(rw [he];refine hS.Aaf fun σ1 hS f l=>?_;have hq:=f.get hq (by simp;omega);have fl:=l.trans fl;have ff:=ff.trans f;conv=>whnf)|(refine kA ?_;conv=>whnf)|(refine Br.mk (fun hc=>?_) fun hc=>?_<;>first|exact hc.elim|conv=>whnf)|(refine kB ?_))
  all_goals first
   |(exfalso;omega)
   |exact again.mk ⟨_,by omega,i+1,_,_,_,_,rfl,by omega,hS,hon,ho0 hn,hs',hq,ff.mono (by simp),fl,rfl,rfl⟩
   |exact again.mk ⟨_,by omega,i+1,_,_,_,_,rfl,by omega,hS,AdU,ho',hs',hq,ff.mono (by simp),fl,rfl,rfl⟩
 ·rw[List.take_of_length_le (by omega)]at ho hs
  (conv=>whnf);repeat' (first|(rw [hS.h6];conv=>whnf)|(rw [hq];conv=>whnf)|(refine hS.Aag fun σ1 hS f l=>?_;have fl:=l.trans fl;have ff:=ff.trans f;conv=>whnf)|(refine kA ?_;conv=>whnf)|(refine Br.mk (fun hc=>?_) fun hc=>?_<;>first|exact hc.elim|conv=>whnf)|(refine kB ?_))
  all_goals first
   |(exfalso;omega)
   |exact⟨_,_,_,_,x,rfl,rfl,hx,hxm,hS,hon,ho,hs,ff.mono (by simp),fl⟩
end
def JD (es:List (Int×Int)) (v:Int):List Int:=(es.filter fun e=>decide (e.1=v)).map (·.2)
theorem Jo {es:List (Int×Int)} {v w:Int}:w∈JD es v↔(v,w)∈es:=by
 unfold JD
 rw[List.mem_map]
 constructor
 ·rintro⟨⟨a,b⟩,h,rfl⟩
  obtain⟨h1,h2⟩:=List.mem_filter.1 h
  have:=of_decide_eq_true h2
  simp only at this
  subst this
  exact h1
 ·intro h
  exact⟨(v,w),List.mem_filter.2 ⟨h,decide_eq_true rfl⟩,rfl⟩
theorem Least.uniq {nx:Int→List Int} {v x y:Int} (h:Least nx v x) (k:Least nx v y):x=y:=by
 have h1:=h.2.2 y k.1 k.2.1
 have h2:=k.2.2 x h.1 h.2.1
 omega
structure Grow (e:Int×Int) (o o':List Int):Prop where
 mem:∀x,x∈o'↔x∈o∨(e.1∈o∧x=e.2)
inductive Round:List (Int×Int)→List Int→List Int→Prop
 |nil {o:List Int}:Round [] o o
 |cons {e:Int×Int} {es:List (Int×Int)} {o o1 o2:List Int} (h:Grow e o o1) (k:Round es o1 o2):Round (e::es) o o2
theorem Round.mono {es:List (Int×Int)} {o o':List Int} (h:Round es o o'):∀x∈o,x∈o':=by
 induction h with
 |nil=>exact fun _ h=>h
 |cons h _ ih=>exact fun x hx=>ih x ((h.mem x).2 (.inl hx))
theorem Round.sound {es:List (Int×Int)} {o o':List Int} (h:Round es o o') {C:Int→Prop} (hC:∀e∈es,C e.1→C e.2) (ho:∀x∈o,C x):∀x∈o',C x:=by
 induction h with
 |nil=>exact ho
 |cons h _ ih=>
  refine ih (fun e he=>hC e (List.mem_cons_of_mem _ he)) fun x hx=>?_
  rcases(h.mem x).1 hx with k|⟨k,rfl⟩
  ·exact ho x k
  ·exact hC _ (by simp) (ho _ k)
theorem Round.takes {es:List (Int×Int)} {o o':List Int} (h:Round es o o') {e:Int×Int} (he:e∈es) (h1:e.1∈o):e.2∈o':=by
 induction h with
 |nil=>cases he
 |cons h k ih=>
  rcases List.mem_cons.1 he with rfl|he
  ·exact k.mono _ ((h.mem _).2 (.inr ⟨h1,rfl⟩))
  ·exact ih he ((h.mem _).2 (.inl h1))
inductive Rounds (es:List (Int×Int)):Nat→List Int→List Int→Prop
 |zero {o:List Int}:Rounds es 0 o o
 |succ {n:Nat} {o o1 o2:List Int} (h:Rounds es n o o1) (k:Round es o1 o2):Rounds es (n+1) o o2
def Ky (es:List (Int×Int)) (o:List Int):Prop:=∀e∈es,e.1∈o→e.2∈o
theorem Round.fix {es:List (Int×Int)} {o o':List Int} (h:Round es o o') (hc:Ky es o):∀x,x∈o'↔x∈o:=
 fun x=>⟨fun k=>h.sound (C:=fun x=>x∈o) (fun e he=>hc e he) (fun _ h=>h) x k,fun k=>h.mono x k⟩
theorem MP {es:List (Int×Int)} {o o':List Int} (h:∀x,x∈o'↔x∈o) (hc:Ky es o):Ky es o':=fun e he k=>(h _).2 (hc e he ((h _).1 k))
def Y1 (ids o:List Int):Nat:=ids.countP fun x=>decide (x∈o)
theorem Y5 (ids o:List Int):Y1 ids o≤ids.length:=List.countP_le_length
theorem Y4 {ids o o':List Int} (hm:∀x∈o,x∈o') {y:Int} (hy:y∈ids) (h1:y∉o) (h2:y∈o'):Y1 ids o<Y1 ids o':=by
 unfold Y1
 induction ids with
 |nil=>cases hy
 |cons a ids ih=>
  rw[List.countP_cons,List.countP_cons]
  have hle:ids.countP (fun x=>decide (x∈o))≤ids.countP (fun x=>decide (x∈o')):=List.countP_mono_left fun x _ h=>decide_eq_true (hm x (of_decide_eq_true h))
  by_cases e:a=y
  ·subst e
   rw[if_neg (by simpa using h1),if_pos (by simpa using h2)]
   omega
  ·have:=ih (by rcases List.mem_cons.1 hy with k|k;exact absurd k.symm e;exact k)
   by_cases k:a∈o
   ·rw[if_pos (by simpa using k),if_pos (by simpa using hm a k)];omega
   ·rw[if_neg (by simpa using k)]
    split<;>omega
theorem Rounds.inv {es:List (Int×Int)} {ids:List Int} (hes:∀e∈es,e.2∈ids) {n:Nat} {o o':List Int} (h:Rounds es n o o'):Ky es o'∨Y1 ids o+n≤Y1 ids o':=by
 induction h with
 |zero=>exact .inr (by omega)
 |succ h k ih=>
  rename_i n o1 o2
  rcases ih with hc|hc
  ·exact .inl (MP (k.fix hc) hc)
  ·rcases Classical.em (Ky es o1)with h1|h1
   ·exact .inl (MP (k.fix h1) h1)
   ·right
    obtain⟨e,he⟩:=Classical.not_forall.1 h1
    obtain⟨he1,he2⟩:=Classical.not_imp.1 he
    obtain⟨he3,he4⟩:=Classical.not_imp.1 he2
    have:=Y4 (ids:=ids) k.mono (hes e he1) he4 (k.takes he1 he3)
    omega
theorem Rounds.reach {es:List (Int×Int)} {ids:List Int} (hes:∀e∈es,e.2∈ids) {a:Int} (ha:a∈ids) {o:List Int} (h:Rounds es ids.length [a] o) (x:Int):x∈o↔IY (JD es) a x:=by
 have hmono:∀{n:Nat} {o o':List Int},Rounds es n o o'→∀x∈o,x∈o':=fun h=>by
  induction h with
  |zero=>exact fun _ h=>h
  |succ _ k ih=>exact fun x hx=>k.mono x (ih x hx)
 have Ack:∀{n:Nat} {o:List Int},Rounds es n [a] o→∀x∈o,IY (JD es) a x:=fun{n}=>by
  induction n with
  |zero=>intro o h x hx;cases h;rw[List.mem_singleton.1 hx];exact .refl
  |succ n ih=>
   intro o h
   cases h with
   |succ h k=>exact k.sound (fun e he hr=>.step hr (Jo.2 he)) (ih h)
 refine⟨Ack h x,fun hr=>?_⟩
 have hc:Ky es o:=by
  rcases h.inv hes with k|k
  ·exact k
  ·have h1:0<Y1 ids [a]:=by
        unfold Y1
        rw[List.countP_pos_iff]
        exact⟨a,ha,by simp⟩
   have:=Y5 ids o
   omega
 exact hr.stay (C:=fun x=>x∈o) (fun v hv w hw=>hc (v,w) (Jo.1 hw) hv) (hmono h a (by simp))
theorem N8 {nx:Int→List Int} {ids:List Int} (hi:ids.Pairwise (· <·)) {a x:Int} (hin:∀u,IY nx a u→u∈ids) (hx:IY nx a x∧IY nx x a) (hno:∀y∈ids,y<x→¬(IY nx a y∧IY nx y a)):Least nx a x:=
 ⟨hx.1,hx.2,fun u h1 h2=>by
  rcases Int.lt_or_le u x with k|k
  ·exact absurd ⟨h1,h2⟩ (hno u (hin u h1) k)
  ·exact k⟩
theorem Jl {α:Type} [DecidableEq α]:∀{R W:List α},R.Nodup→(∀ x∈R,x∈W)→R.length≤W.length
 |[],W,_,_=>by simp
 |a::R,W,h,hs=>by
  obtain⟨h1,h2⟩:=List.nodup_cons.1 h
  have ha:a∈W:=hs a (by simp)
  have:=Jl (R:=R) (W:=W.erase a) h2 fun x hx=>(List.mem_erase_of_ne (by rintro rfl;exact h1 hx)).2 (hs x (by simp[hx]))
  rw[List.length_erase_of_mem ha]at this
  have:=List.length_pos_of_mem ha
  simp;omega
structure AB (s:TJ) (BD Ba:List (Int×Int)) (Di:List (Int×Bool)) (Dn:List (Int×Int)):Prop where
 n:s.n=BD.length
 ix:∀v,s.vis v→AZ BD v=some (s.ix v:Int)
 Z9:∀v,¬s.vis v→AZ BD v=none
 low:∀v,s.vis v→AZ Ba v=some (s.low v:Int)
 on:∀v,v∈s.S→AZ Di v=some true
 on0:∀v,v∉s.S→AZ Di v=none
 onN:II Di
 sm:∀v,s.vis v→v∉s.S→AZ Dn v=some (s.sm v)
 ixN:II BD
section
variable {s:TJ} {BD Ba Dn:List (Int×Int)} {Di:List (Int×Bool)}
theorem AB.start {ix low:Int→Nat} {T:List (Int×Nat)} {sm:Int→Int}:AB ⟨0,fun _=>False,ix,low,[],T,sm⟩ [] [] [] []:=
 AB.mk rfl (fun _ h=>False.elim h) (fun _ _=>rfl) (fun _ h=>False.elim h) (fun _ h=>absurd h (by simp)) (fun _ _=>rfl) List.Pairwise.nil (fun _ h=>False.elim h) List.Pairwise.nil
theorem AB.enter (h:AB s BD Ba Di Dn) {m:Int} {T1:List (Int×Nat)} (hm:¬s.vis m) (V5:m∉s.S):AB (Ld s m T1) (Bz BD m BD.length) (Bz Ba m BD.length) (Bz Di m true) Dn:=by
 have hne:∀v,s.vis v→v≠m:=fun v hv e=>hm (e▸hv)
 refine⟨?_,?_,?_,?_,?_,?_,PS h.onN _ _,?_,PS h.ixN _ _⟩
 ·show s.n+1=_
  rw[Y0 (h.Z9 m hm),h.n]
 ·intro v hv
  show _=some ((upd s.ix m s.n v:Nat):Int)
  rw[Cj]
  by_cases e:v=m
  ·subst e;rw[if_pos rfl,En,h.n]
  ·rw[if_neg e,upd_ne e]
   exact h.ix v (hv.resolve_right e)
 ·intro v hv
  have h1:v≠m:=fun e=>hv (.inr e)
  rw[Cj,if_neg h1]
  exact h.Z9 v fun k=>hv (.inl k)
 ·intro v hv
  show _=some ((upd s.low m s.n v:Nat):Int)
  rw[Cj]
  by_cases e:v=m
  ·subst e;rw[if_pos rfl,En,h.n]
  ·rw[if_neg e,upd_ne e]
   exact h.low v (hv.resolve_right e)
 ·intro v hv
  rw[Cj]
  by_cases e:v=m
  ·rw[if_pos e]
  ·rw[if_neg e]
   have hv':v∈s.S++[m]:=hv
   rw[List.mem_append,List.mem_singleton]at hv'
   exact h.on v (hv'.resolve_right e)
 ·intro v hv
  have hv':v∉s.S++[m]:=hv
  rw[List.mem_append,List.mem_singleton]at hv'
  rw[Cj,if_neg fun e=>hv' (.inr e)]
  exact h.on0 v fun k=>hv' (.inl k)
 ·intro v hv hvS
  have hv':v∉s.S++[m]:=hvS
  rw[List.mem_append,List.mem_singleton]at hv'
  exact h.sm v (hv.resolve_right fun e=>hv' (.inr e)) fun k=>hv' (.inl k)
theorem AB.put (h:AB s BD Ba Di Dn) {u:Int} {x:Int} {n:Nat} {T:List (Int×Nat)} (hx:x=n):AB ⟨s.n,s.vis,s.ix,upd s.low u n,s.S,T,s.sm⟩ BD (Bz Ba u x) Di Dn:=by
 refine⟨h.n,h.ix,h.Z9,fun v hv=>?_,h.on,h.on0,h.onN,h.sm,h.ixN⟩
 show _=some ((upd s.low u n v:Nat):Int)
 rw[Cj]
 by_cases e:v=u
 ·subst e;rw[if_pos rfl,En,hx]
 ·rw[if_neg e,upd_ne e];exact h.low v hv
theorem AB.same (h:AB s BD Ba Di Dn) {u:Int} {x:Int} (hx:x=s.low u):AB s BD (Bz Ba u x) Di Dn:=by
 refine⟨h.n,h.ix,h.Z9,fun v hv=>?_,h.on,h.on0,h.onN,h.sm,h.ixN⟩
 rw[Cj]
 by_cases e:v=u
 ·subst e;rw[if_pos rfl,hx]
 ·rw[if_neg e];exact h.low v hv
theorem AB.frames (h:AB s BD Ba Di Dn) (T:List (Int×Nat)):AB ⟨s.n,s.vis,s.ix,s.low,s.S,T,s.sm⟩ BD Ba Di Dn:=
 ⟨h.n,h.ix,h.Z9,h.low,h.on,h.on0,h.onN,h.sm,h.ixN⟩
theorem AB.pop (h:AB s BD Ba Di Dn) {t x:Int} {C0 S0:List Int} {T0:List (Int×Nat)} {IJ:List (Int×Bool)} {KE:List (Int×Int)} (hS:s.S=S0++t::C0) (hd:∀v∈S0,v∉t::C0) (hk:II IJ)
 (ho:∀v,AZ IJ v=if v∈t::C0 then Option.none else AZ Di v) (hs:∀v,AZ KE v=if v∈t::C0 then some x else AZ Dn v):AB (Acj s t C0 S0 T0 x) BD Ba IJ KE:=by
 have hm:∀v,v∈s.S↔v∈S0∨v∈t::C0:=fun v=>by rw[hS,List.mem_append]
 refine⟨h.n,h.ix,h.Z9,h.low,?_,?_,hk,?_,h.ixN⟩
 ·intro v hv
  have hv':v∈S0:=hv
  rw[ho,if_neg (hd v hv')]
  exact h.on v ((hm v).2 (.inl hv'))
 ·intro v hv
  have hv':v∉S0:=hv
  rw[ho]
  by_cases e:v∈t::C0
  ·rw[if_pos e]
  ·rw[if_neg e]
   exact h.on0 v fun k=>((hm v).1 k).elim hv' e
 ·intro v hv hvS
  have hv':v∉S0:=hvS
  rw[hs]
  show _=some (if v∈t::C0 then x else s.sm v)
  by_cases e:v∈t::C0
  ·rw[if_pos e,if_pos e]
  ·rw[if_neg e,if_neg e]
   exact h.sm v hv fun k=>((hm v).1 k).elim hv' e
end
def Stk (lo:Nat) (σ:List Obj) (stk:AV) (S:List Int):Prop:=(stk=.sl false []∧S=[])∨∃q g J,lo≤q∧stk=.own q g 0 S.length∧nth σ q=some (.arr g 1 true true (vs (.int .i64) (S++J)))
theorem Stk.keep {lo:Nat} {σ σ':List Obj} {stk:AV} {S:List Int} {F:List Nat} (h:Stk lo σ stk S) (f:G7 σ σ' F) (hF:∀o∈F,o<lo∨o∉stk.obj):Stk lo σ' stk S:=by
 rcases h with h|⟨q,g,J,h1,rfl,h2⟩
 ·exact .inl h
 ·refine .inr ⟨q,g,J,h1,rfl,f.get h2 fun hm=>?_⟩
  rcases hF q hm with k|k
  ·omega
  ·exact k (by simp[AV.obj])
def NxS (CV:List (Int×AV)) (σ:List Obj) (lo:Nat) (nx:Int→List Int):Prop:=
 ∀v,(AZ CV v=none∧nx v=[])∨∃o g,AZ CV v=some (.own o g 0 (nx v).length)∧nth σ o=some (.arr g 1 true true (vs (.int .i64) (nx v)))∧6<o∧o<lo
def SL (p:Int×Nat):AV:=.agg [.int .i64 p.1,.int .i64 p.2]
theorem AaM (p:Int×Nat):(SL p).cells.length=2:=rfl
structure VR (G:GS) (CV:List (AV×AV)) (cn:Bool) (nx:Int→List Int) (ids:List Int) (lo:Nat) (σ0 σ:List Obj) (s:TJ) (L:List (Int×Nat)) (BD Ba:List (Int×Int)) (stk:AV) (Di:List (Int×Bool)) (Dn:List (Int×Int)) (pt gt:Nat) (J:List (Int×Nat)):Prop where
 hs:HS G CV cn σ BD Ba stk Di Dn
 fl:∀o,(o<2∨6<o)→o<lo→nth σ o=nth σ0 o
 ln:lo≤σ.length
 ab:AB s BD Ba Di Dn
 tj:Ey nx s
 sT:s.T=L.reverse
 sk:Stk lo σ stk s.S
 td:nth σ pt=some (.arr gt 2 true true (vs SL (L++J)))
 tp:lo≤pt∧pt∉stk.obj
 vi:∀v,s.vis v→v∈ids
section
variable {G:GS} {CV:List (AV×AV)} {cn:Bool} {nx:Int→List Int} {ids:List Int} {lo:Nat} {σ0 σ σ':List Obj} {s:TJ} {L L1:List (Int×Nat)} {BD Ba Dn:List (Int×Int)} {stk:AV} {Di:List (Int×Bool)} {pt gt:Nat} {J:List (Int×Nat)} {t u:Int} {k ku:Nat}
theorem Jm {F:List Nat} (h:∀o,(o<2∨6<o)→o<lo→nth σ o=nth σ0 o) (ln:lo≤σ.length) (f:G7 σ σ' F) (hF:∀o∈F,(2≤o∧o≤6)∨lo≤o):∀o,(o<2∨6<o)→o<lo→nth σ' o=nth σ0 o:=
 fun o ho hl=>(f.eq o (by omega) fun hm=>by have:=hF o hm;omega).trans (h o ho hl)
theorem VR.stay (hlo:6<lo) (h:VR G CV cn nx ids lo σ0 σ s (L1++[(u,ku)]++[(t,(nx t).length)]) BD Ba stk Di Dn pt gt J) (hl:s.low t<s.ix t) {x:Int} (hx:x=((min (s.low u) (s.low t):Nat):Int)) (hs:HS G CV cn σ' BD (Bz Ba u x) stk Di Dn) (f:G7 σ σ' [3]):
 VR G CV cn nx ids lo σ0 σ' (QO s t ((u,ku)::L1.reverse)) (L1++[(u,ku)]) BD (Bz Ba u x) stk Di Dn pt gt ((t,(nx t).length)::J):=by
 have hT:s.T=(t,(nx t).length)::(u,ku)::L1.reverse:=by rw[h.sT];simp
 refine⟨hs,Jm h.fl h.ln f (by simp),Nat.le_trans h.ln f.len,h.ab.put hx,h.tj.stay hT hl,by simp,h.sk.keep f (by simp;omega),?_,h.tp,h.vi⟩
 rw[f.get h.td (by have:=h.tp;simp;omega)]
 simp
theorem VR.pop {S0 C0:List Int} {x:Int} {IJ:List (Int×Bool)} {KE:List (Int×Int)} {G8:AV} (hlo:6<lo) (h:VR G CV cn nx ids lo σ0 σ s (L++[(t,(nx t).length)]) BD Ba stk Di Dn pt gt J) (hl:s.low t=s.ix t) (hS:s.S=S0++t::C0) (hx:x∈t::C0) (hmin:∀u∈t::C0,x≤u)
 (hk:II IJ) (ho:∀v,AZ IJ v=if v∈t::C0 then none else AZ Di v) (hm:∀v,AZ KE v=if v∈t::C0 then some x else AZ Dn v) (hs:HS G CV cn σ' BD Ba G8 IJ KE) (f:G7 σ σ' [4,5,6]) (hk2:Stk lo σ' G8 S0) (hob:∀o∈G8.obj,o∈stk.obj):
 VR G CV cn nx ids lo σ0 σ' (Acj s t C0 S0 L.reverse x) L BD Ba G8 IJ KE pt gt ((t,(nx t).length)::J):=by
 have hT:s.T=(t,(nx t).length)::L.reverse:=by rw[h.sT];simp
 have hd:∀v∈S0,v∉t::C0:=fun v hv hc=>by
  have hsI:=h.tj.sI
  rw[hS,List.pairwise_append]at hsI
  exact Nat.lt_irrefl _ (hsI.2.2 v hv v hc)
 refine⟨hs,Jm h.fl h.ln f (by simp),Nat.le_trans h.ln f.len,h.ab.pop hS hd hk ho hm,h.tj.pop hT hl hS hx hmin,rfl,hk2,?_,⟨h.tp.1,fun hc=>h.tp.2 (hob _ hc)⟩,h.vi⟩
 rw[f.get h.td (by have:=h.tp;simp;omega)]
 simp
theorem VR.up (hlo:6<lo) (h:VR G CV cn nx ids lo σ0 σ s L BD Ba stk Di Dn pt gt J) {x:Int} (hx:x=s.low u) (hs:HS G CV cn σ' BD (Bz Ba u x) stk Di Dn) (f:G7 σ σ' [3]):
 VR G CV cn nx ids lo σ0 σ' s L BD (Bz Ba u x) stk Di Dn pt gt J:=
 ⟨hs,Jm h.fl h.ln f (by simp),Nat.le_trans h.ln f.len,h.ab.same hx,h.tj,h.sT,h.sk.keep f (by simp;omega),f.get h.td (by have:=h.tp;simp;omega),h.tp,h.vi⟩
theorem VR.see (hlo:6<lo) {m x:Int} {σ1:List Obj} (h:VR G CV cn nx ids lo σ0 σ s (L1++[(t,k)]) BD Ba stk Di Dn pt gt J) (hk:(nx t)[k]?=some m) (hm:s.vis m) (V5:m∈s.S) (hx:x=((min (s.low t) (s.ix m):Nat):Int))
 (f:G7 σ σ1 [pt]) (htd:nth σ1 pt=some (.arr gt 2 true true (vs SL (L1++[(t,k+1)]++J)))) (hs:HS G CV cn σ' BD (Bz Ba t x) stk Di Dn) (f':G7 σ1 σ' [3]):
 VR G CV cn nx ids lo σ0 σ' (Qw s t k L1.reverse m) (L1++[(t,k+1)]) BD (Bz Ba t x) stk Di Dn pt gt J:=by
 have hT:s.T=(t,k)::L1.reverse:=by rw[h.sT];simp
 have hp:=h.tp
 have ff:=f.trans f'
 have hj:=h.tj.see hT hk hm
 have ha:AB (Qw s t k L1.reverse m) BD (Bz Ba t x) Di Dn:=by
  have:=h.ab.put (u:=t) (T:=(t,k+1)::L1.reverse) hx
  unfold Qw
  rw[if_pos V5]
  exact this
 refine⟨hs,Jm h.fl h.ln ff (by simp;omega),Nat.le_trans h.ln ff.len,ha,hj,by simp,h.sk.keep ff ?_,f'.get htd (by simp;omega),h.tp,h.vi⟩
 intro o ho
 simp at ho
 rcases ho with rfl|rfl
 ·exact .inr h.tp.2
 ·exact .inl (by omega)
theorem VR.AeU (hlo:6<lo) {m:Int} {σ1:List Obj} (h:VR G CV cn nx ids lo σ0 σ s (L1++[(t,k)]) BD Ba stk Di Dn pt gt J) (hk:(nx t)[k]?=some m) (hm:s.vis m) (V5:m∉s.S)
 (f:G7 σ σ1 [pt]) (htd:nth σ1 pt=some (.arr gt 2 true true (vs SL (L1++[(t,k+1)]++J)))):
 VR G CV cn nx ids lo σ0 σ1 (Qw s t k L1.reverse m) (L1++[(t,k+1)]) BD Ba stk Di Dn pt gt J:=by
 have hT:s.T=(t,k)::L1.reverse:=by rw[h.sT];simp
 have hp:=h.tp
 have hj:=h.tj.see hT hk hm
 have ha:AB (Qw s t k L1.reverse m) BD Ba Di Dn:=by
  have:=h.ab.frames ((t,k+1)::L1.reverse)
  unfold Qw
  rw[if_neg V5]
  exact this
 refine⟨h.hs.keep f (by simp;omega),Jm h.fl h.ln f (by simp;omega),Nat.le_trans h.ln f.len,ha,hj,by simp,h.sk.keep f ?_,htd,h.tp,h.vi⟩
 intro o ho
 simp at ho
 subst ho
 exact .inr h.tp.2
theorem VR.enter (hlo:6<lo) {m:Int} {σ1 σ2 σ3:List Obj} {G8:AV} {gt':Nat} (h:VR G CV cn nx ids lo σ0 σ s (L1++[(t,k)]) BD Ba stk Di Dn pt gt J) (hk:(nx t)[k]?=some m) (hm:¬s.vis m) (hid:m∈ids)
 (f:G7 σ σ1 [pt]) (hs:HS G CV cn σ2 (Bz BD m BD.length) (Bz Ba m BD.length) G8 (Bz Di m true) Dn) (f2:G7 σ1 σ2 (2::3::4::6::stk.obj)) (hk2:Stk lo σ2 G8 (s.S++[m])) (hob:pt∉G8.obj) (hso:∀o∈stk.obj,lo≤o)
 (f3:G7 σ2 σ3 [pt]) (htd:nth σ3 pt=some (.arr gt' 2 true true (vs SL (L1++[(t,k+1)]++[(m,0)])))):
 VR G CV cn nx ids lo σ0 σ3 (Ld s m ((t,k+1)::L1.reverse)) (L1++[(t,k+1)]++[(m,0)]) (Bz BD m BD.length) (Bz Ba m BD.length) G8 (Bz Di m true) Dn pt gt' []:=by
 have hT:s.T=(t,k)::L1.reverse:=by rw[h.sT];simp
 have hp:=h.tp
 have hmk:m∈nx t:=List.mem_of_getElem? hk
 have V5:m∉s.S:=fun hx=>hm (h.tj.sV _ hx)
 have hg:Goes nx s m ((t,k+1)::L1.reverse):=by
  refine⟨by rw[hT];rfl,fun p hp=>?_,fun p hp=>?_⟩
  ·rcases List.mem_cons.1 hp with rfl|hp
   ·exact .inr ⟨(t,k),by rw[hT];rfl,rfl,rfl,hk⟩
   ·exact .inl (by rw[hT];exact List.mem_cons_of_mem _ hp)
  ·rw[hT]at hp
   cases hp
   exact hmk
 have ff:=(f.trans f2).trans f3
 refine⟨hs.keep f3 (by simp;omega),Jm h.fl h.ln ff ?_,Nat.le_trans h.ln ff.len,h.ab.enter hm V5,h.tj.enter hm hg,by simp,hk2.keep f3 ?_,by rw[htd];simp,⟨hp.1,hob⟩,?_⟩
 ·intro o ho
  simp at ho
  rcases ho with ho|ho|ho|ho|ho|ho|ho
  all_goals first|omega|exact .inr (hso o ho)
 ·intro o ho
  simp at ho
  subst ho
  exact .inr hob
 ·rintro v (hv|rfl)
  ·exact h.vi v hv
  ·exact hid
def wT (B:Nat) (L:List (Int×Nat)):Nat:=(L.map fun p=>B+1-p.2).sum
def wA (B:Nat) (ids:List Int) (BD:List (Int×Int)) (L:List (Int×Nat)):Nat:=(ids.length-Y1 ids (BD.map (·.1)))*(B+2)+wT B L
theorem Kv {B:Nat} {L:List (Int×Nat)} {p:Int×Nat}:wT B (L++[p])=wT B L+(B+1-p.2):=by simp[wT]
theorem NK {B:Nat} (hk:k≤B):wA B ids BD L<wA B ids BD (L++[(t,k)]):=by
 unfold wA;rw[Kv];dsimp only;omega
theorem Y2 {B:Nat} (hk:k<B):wA B ids BD (L++[(t,k+1)])<wA B ids BD (L++[(t,k)]):=by
 unfold wA;rw[Kv,Kv];dsimp only;omega
theorem Y3 {B:Nat} {m:Int} {x:Int} (hk:k<B) (hm:m∈ids) (h:AZ BD m=none):wA B ids (Bz BD m x) (L++[(t,k+1)]++[(m,0)])<wA B ids BD (L++[(t,k)]):=by
 have h1:=Y4 (ids:=ids) (o:=BD.map (·.1)) (o':=(Bz BD m x).map (·.1)) (fun y hy=>NM.2 (.inr hy)) hm (IK.1 h) (NM.2 (.inl rfl))
 have h2:=Y5 ids ((Bz BD m x).map (·.1))
 unfold wA
 rw[Kv,Kv,Kv]
 dsimp only
 obtain⟨d,hd⟩:∃d,ids.length-Y1 ids (BD.map (·.1))=(ids.length-Y1 ids ((Bz BD m x).map (·.1)))+1+d:=⟨_,(Nat.add_sub_cancel' (by omega)).symm⟩
 rw[hd,Nat.add_mul,Nat.add_mul,Nat.one_mul]
 omega
theorem VR.len (hnd:ids.Nodup) (h:VR G CV cn nx ids lo σ0 σ s L BD Ba stk Di Dn pt gt J):s.S.length≤ids.length∧L.length≤ids.length:=by
 constructor
 ·refine Jl ?_ fun x hx=>h.vi x (h.tj.sV x hx)
  exact h.tj.sI.imp fun h e=>by subst e;exact Nat.lt_irrefl _ h
 ·have h1:(s.T.map (·.1)).Nodup:=List.pairwise_map.2 (h.tj.tI.imp fun h e=>by rw[e]at h;exact Nat.lt_irrefl _ h)
  have h2:=Jl h1 (W:=ids) fun x hx=>by
   obtain⟨p,hp,rfl⟩:=List.mem_map.1 hx
   exact h.vi _ (h.tj.sV _ (h.tj.tS p hp))
  rw[h.sT]at h2
  simpa using h2
end
end AI
end Go.Proofs.YtjjhejbffgaabaaGreatDoor
