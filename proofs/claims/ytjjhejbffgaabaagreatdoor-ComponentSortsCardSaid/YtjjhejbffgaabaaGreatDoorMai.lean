/- component.Strong: the state in the store. component.Strong: the state in the store; a node is entered. The first place in a list; the least of a list. component.Strong: a node is left. What is reached along edges: round by round; the least of those that reach each other. Plain. component.Strong: what the store says of Tarjan's state; its steps: plain. -/
import Derived.Test.YtjjhejbffgaabaaGreatDoorMaa
import Derived.Test.YtjjhejbffgaabaaGreatDoorPSe
import Derived.Test.YtjjhejbffgaabaaGreatDoorMah
import Derived.Test.YtjjhejbffgaabaaGreatDoorMae
set_option linter.unusedVariables false
set_option maxRecDepth 4000
namespace Go.Proofs.YtjjhejbffgaabaaGreatDoor
namespace AI
theorem Qi {α:Type} {l r:List α} {i:Nat} (h:i<l.length):nth (l++r) i=nth l i:=by
 rw[Aw,Aw,List.getElem?_append_left h]
theorem Om {α:Type} {l:List α} {x:α}:nth (l++[x]) l.length=some x:=by
 rw[Aw,List.getElem?_append_right (Nat.le_refl _)];simp
theorem Rj {α:Type} {l:List α} {i:Nat} {x y:α} (h:nth l i=some y):nth (l.set i x) i=some x:=by
 rw[Aw,List.getElem?_set_self (Dh h)]
theorem UM {α:Type} {l:List α} {i j:Nat} {x:α} (h:i≠j):nth (l.set i x) j=nth l j:=by
 rw[Aw,Aw,List.getElem?_set_ne h]
structure HY (σ σ':List Obj) (F:List Nat):Prop where
 len:σ.length≤σ'.length
 eq:∀o,o<σ.length→o∉F→nth σ' o=nth σ o
theorem HY.refl {σ:List Obj} {F:List Nat}:HY σ σ F:=⟨Nat.le_refl _,fun _ _ _=>rfl⟩
theorem HY.trans {σ σ1 σ2:List Obj} {F F':List Nat} (h:HY σ σ1 F) (k:HY σ1 σ2 F'):HY σ σ2 (F++F'):=
 ⟨Nat.le_trans h.len k.len,fun o ho hf=>by
  rw[List.mem_append]at hf
  exact(k.eq o (Nat.lt_of_lt_of_le ho h.len) fun e=>hf (.inr e)).trans (h.eq o ho fun e=>hf (.inl e))⟩
theorem HY.mono {σ σ':List Obj} {F F':List Nat} (h:HY σ σ' F) (hf:∀o∈F,o∈F'∨σ.length≤o):HY σ σ' F':=
 ⟨h.len,fun o ho hn=>h.eq o ho fun hm=>(hf o hm).elim hn fun h=>by omega⟩
theorem HY.get {σ σ':List Obj} {F:List Nat} {o:Nat} {x:Obj} (h:HY σ σ' F) (hx:nth σ o=some x) (hf:o∉F):nth σ' o=some x:=(h.eq o (Dh hx) hf).trans hx
theorem MO {σ:List Obj} {y:Obj} {K:List Obj→Prop} (h:∀σ',HY σ σ' []→nth σ' σ.length=some y→σ'.length=σ.length+1→K σ'):XG σ y K:=
 (Oo _ _ _).2 (h _ ⟨by simp,fun o ho _=>Qi ho⟩ Om (by simp))
theorem I4 {σ:List Obj} {o:Nat} {x y:Obj} {K:List Obj→Prop} (hx:nth σ o=some x) (h:∀σ',HY σ σ' [o]→nth σ' o=some y→σ'.length=σ.length→K σ'):J9 σ o y K:=
 (EX _ _ _ _).2 (h _ ⟨by simp,fun p hp hn=>UM (by simpa using fun e=>hn (by simp[e]))⟩ (Rj hx) (by simp))
theorem MZ {t o g es c':Nat} {sz:Option Nat} {σ:List Obj} {x:AV} {nn cl:Bool} (h:nth σ o=some (.arr g es nn cl [x])):F7 [(t,.ref o g 0 0)] ⟨σ,c'⟩ [.cell t sz]=(loadCells x.cells sz).map fun v=>[v]:=by
 have e:Env.get [(t,AV.ref o g 0 0)] t=.ref o g 0 0:=by simp[Env.get]
 have e2:Oj [(t,.ref o g 0 0)] ⟨σ,c'⟩ (.cell t sz)=loadCells x.cells sz:=by
  show(match Env.get [(t,AV.ref o g 0 0)] t with
   | .ref o g i off=>match nth σ o with
     |some (.arr g' _ _ _ elems)=>if g=g' then match nth elems i with
         |some x=>loadCells (x.cells.drop off) sz
         |none=>none
      else none
     |_=>none
   |_=>none)=_
  rw[e]
  simp only[h,if_true]
  rfl
 show(match Oj [(t,.ref o g 0 0)] ⟨σ,c'⟩ (.cell t sz),some []with
  |some v,some vs=>some (v::vs)
  |_,_=>none)=_
 rw[e2]
 cases loadCells x.cells sz<;>rfl
structure GS where
 a:Nat
 b:Nat
 c:Nat
 d:Nat
 e:Nat
 f:Nat
structure HS (G:GS) (Df:List (AV×AV)) (cn:Bool) (σ:List Obj) (BM Bc:List (Int×Int)) (stk:AV) (Dy:List (Int×Bool)) (DK:List (Int×Int)):Prop where
 h1:nth σ 1=some (.mp G.a cn Df)
 h2:nth σ 2=some (.mp G.b true (Bq BM))
 h3:nth σ 3=some (.mp G.c true (Bq Bc))
 h4:nth σ 4=some (.mp G.d true (Jm Dy))
 h5:nth σ 5=some (.mp G.e true (Bq DK))
 h6:nth σ 6=some (.arr G.f 6 true false [.agg [.map 1 G.a,.map 2 G.b,.map 3 G.c,stk,.map 4 G.d,.map 5 G.e]])
section
variable {G:GS} {Df:List (AV×AV)} {cn:Bool} {σ:List Obj} {BM Bc DK:List (Int×Int)} {Dy:List (Int×Bool)} {stk:AV}
theorem HS.keep {σ':List Obj} {F:List Nat} (h:HS G Df cn σ BM Bc stk Dy DK) (f:HY σ σ' F) (hF:∀o∈F,6<o):HS G Df cn σ' BM Bc stk Dy DK:=by
 have hn:∀o,o≤6→o∉F:=fun o ho hm=>by have:=hF o hm;omega
 exact⟨f.get h.h1 (hn _ (by omega)),f.get h.h2 (hn _ (by omega)),f.get h.h3 (hn _ (by omega)),f.get h.h4 (hn _ (by omega)),f.get h.h5 (hn _ (by omega)),f.get h.h6 (hn _ (by omega))⟩
theorem HS.AeS {M:List (Int×Int)} {K:List Obj→Prop} (h:HS G Df cn σ BM Bc stk Dy DK) (hK:∀σ',HS G Df cn σ' M Bc stk Dy DK→HY σ σ' [2]→σ'.length=σ.length→K σ'):J9 σ 2 (.mp G.b true (Bq M)) K:=
 I4 h.h2 fun σ' f k l=>hK σ' ⟨f.get h.h1 (by simp),k,f.get h.h3 (by simp),f.get h.h4 (by simp),f.get h.h5 (by simp),f.get h.h6 (by simp)⟩ f l
theorem HS.V7 {M:List (Int×Int)} {K:List Obj→Prop} (h:HS G Df cn σ BM Bc stk Dy DK) (hK:∀σ',HS G Df cn σ' BM M stk Dy DK→HY σ σ' [3]→σ'.length=σ.length→K σ'):J9 σ 3 (.mp G.c true (Bq M)) K:=
 I4 h.h3 fun σ' f k l=>hK σ' ⟨f.get h.h1 (by simp),f.get h.h2 (by simp),k,f.get h.h4 (by simp),f.get h.h5 (by simp),f.get h.h6 (by simp)⟩ f l
theorem HS.AbT {M:List (Int×Bool)} {K:List Obj→Prop} (h:HS G Df cn σ BM Bc stk Dy DK) (hK:∀σ',HS G Df cn σ' BM Bc stk M DK→HY σ σ' [4]→σ'.length=σ.length→K σ'):J9 σ 4 (.mp G.d true (Jm M)) K:=
 I4 h.h4 fun σ' f k l=>hK σ' ⟨f.get h.h1 (by simp),f.get h.h2 (by simp),f.get h.h3 (by simp),k,f.get h.h5 (by simp),f.get h.h6 (by simp)⟩ f l
theorem HS.Agx {M:List (Int×Int)} {K:List Obj→Prop} (h:HS G Df cn σ BM Bc stk Dy DK) (hK:∀σ',HS G Df cn σ' BM Bc stk Dy M→HY σ σ' [5]→σ'.length=σ.length→K σ'):J9 σ 5 (.mp G.e true (Bq M)) K:=
 I4 h.h5 fun σ' f k l=>hK σ' ⟨f.get h.h1 (by simp),f.get h.h2 (by simp),f.get h.h3 (by simp),f.get h.h4 (by simp),k,f.get h.h6 (by simp)⟩ f l
theorem HS.AbU {Hz:AV} {K:List Obj→Prop} (h:HS G Df cn σ BM Bc stk Dy DK) (hK:∀σ',HS G Df cn σ' BM Bc Hz Dy DK→HY σ σ' [6]→σ'.length=σ.length→K σ'):J9 σ 6 (.arr G.f 6 true false [.agg [.map 1 G.a,.map 2 G.b,.map 3 G.c,Hz,.map 4 G.d,.map 5 G.e]]) K:=
 I4 h.h6 fun σ' f k l=>hK σ' ⟨f.get h.h1 (by simp),f.get h.h2 (by simp),f.get h.h3 (by simp),f.get h.h4 (by simp),f.get h.h5 (by simp),k⟩ f l
end
theorem RJ {α β:Type} [DecidableEq α] {M:List (α×β)} {k:α} {v:β}:Ba (BJ M k v) k=some v:=by rw[CX,if_pos rfl]
theorem TD {M:List (Int×Int)} {k v:Int} {K:Option (Nat×AV)→Prop} (h:Ba M k=some v) (hK:∀i,K (some (i,.int .i64 v))):Hy .int (.int .i64 k) (Bq M) K:=
 fkI (fun hm=>by rw[h]at hm;cases hm) fun i w hm=>by
  rw[h]at hm
  cases hm
  exact hK i
theorem fkZ {M:List (Int×Int)} {k:Int} {K:Option (Nat×AV)→Prop} (h:Ba M k=none) (hK:K none):Hy .int (.int .i64 k) (Bq M) K:=
 fkI (fun _=>hK) fun i w hm=>by rw[h]at hm;cases hm
theorem msH {M:List (Int×Int)} {k:Int} {n n':Nat} {K:List (AV×AV)→Prop} (e:n=n') (h:K (Bq (BJ M k n'))):MW .int (.int .i64 k) (.int .i64 n) (Bq M) K:=by
 subst e;exact Za h
theorem apJ {α:Type} {f:α→AV} {es g n bytes:Nat} {cl:Bool} {S J:List α} {m:α} {K:Nat→Bool→Bool→List AV→Prop} (hf:∀x,(f x).cells.length=es) (hn:n=S.length) (hr:(S.length+1)*bytes≤2 ^ 46) (h:K (S.length+1) true cl (vs f (S++[m]))):
 KT g g es es n true cl true (vs f (S++J)) [f m] bytes K:=by
 subst hn
 refine⟨⟨rfl,rfl,by simp,by intro y hy;simp at hy;subst hy;exact hf m,JZ hr⟩,?_⟩
 have e:(vs f (S++J)).take S.length++[f m]=vs f (S++[m]):=by
  simp[vs]
 rw[e,Bool.and_true]
 simpa using h
set_option maxHeartbeats 4000000 in
theorem Agj {G:GS} {Df:List (AV×AV)} {cn:Bool} {σ:List Obj} {BM Bc DK:List (Int×Int)} {Dy:List (Int×Bool)} {c:Nat} {m:Int} (hS:HS G Df cn σ BM Bc (.sl false []) Dy DK) (hm:Ba BM m=none) (hl:BM.length<2^40):
 BL (Ae tab) 57 [.ref 6 G.f 0 0,.int .i64 m] ⟨σ,c⟩
  fun out s'=>∃σ' c' o g,out=.ok (.agg [.int .i64 m,.int .i64 0])∧s'=⟨σ',c'⟩∧HS G Df cn σ' (BJ BM m BM.length) (BJ Bc m BM.length) (.own o g 0 1) (BJ Dy m true) DK∧nth σ' o=some (.arr g 1 true true (vs (.int .i64) [m]))∧σ.length≤o∧HY σ σ' [2,3,4,6]:=by
 have hML:(Bq BM).length=BM.length:=List.length_map _
 have hlt:=Dh hS.h6
 refine BI rfl rfl ?_
 (conv=>whnf);repeat' (first|(refine MO fun σ1 ff k1 l1=>?_;have hS:=hS.keep ff (by simp);replace k1:nth σ1 σ.length=some (.arr c 2 true true [.agg [.int .i64 0,.int .i64 0]]):=k1;replace l1:σ1.length=σ.length+1:=l1;replace ff:HY σ σ1 []:=ff;conv=>whnf)|(rw [hS.h6];conv=>whnf)|(rw [hS.h2];conv=>whnf)|(rw [hS.h3];conv=>whnf)|(rw [hS.h4];conv=>whnf)|(refine TD RJ (fun _=>?_);conv=>whnf)|(refine msH hML ?_;conv=>whnf)|(refine Za ?_;conv=>whnf)|(refine msT ?_;conv=>whnf)|(refine hS.AeS fun σ1 hS f l=>?_;have k1:=f.get k1 (by simp;omega);have ff:=ff.trans f;conv=>whnf)|(refine hS.V7 fun σ1 hS f l=>?_;have k1:=f.get k1 (by simp;omega);have ff:=ff.trans f;conv=>whnf)|(refine hS.AbT fun σ1 hS f l=>?_;have k1:=f.get k1 (by simp;omega);have ff:=ff.trans f;conv=>whnf)|(refine hS.AbU fun σ1 hS f l=>?_;have k1:=f.get k1 (by simp;omega);have ff:=ff.trans f;conv=>whnf)|(rw [k1];conv=>whnf)|(refine kA ?_;conv=>whnf)|(refine Br.mk (fun hc=>?_) fun hc=>?_<;>first|exact hc.elim|conv=>whnf)|(refine kB ?_))
 dsimp only[push,List.isEmpty_cons,List.length_singleton]
 obtain⟨σ2,hσ2⟩:∃σ2,σ2=σ1++[Obj.arr (c+1) 1 (!false) true [.int .i64 m]]:=⟨_,rfl⟩
 rw[← hσ2]
 have f2:HY σ1 σ2 []:=by rw[hσ2];exact⟨by simp,fun o ho _=>Qi ho⟩
 have q2:nth σ2 σ1.length=some (.arr (c+1) 1 true true [.int .i64 m]):=by rw[hσ2];exact Om
 have hlt1:σ.length≠σ1.length:=by omega
 have hl1:6<σ1.length:=by omega
 replace hS:=hS.keep f2 (by simp)
 replace k1:=f2.get k1 (by simp)
 replace ff:=ff.trans f2
 conv=>whnf
 (conv=>whnf);repeat' (first|(rw [hS.h6];conv=>whnf)|(rw [hS.h4];conv=>whnf)|(refine msT ?_;conv=>whnf)|(refine hS.AbT fun σ1 hS f l=>?_;have k1:=f.get k1 (by simp;omega);have q2:=f.get q2 (by simp;omega);have ff:=ff.trans f;conv=>whnf)|(refine hS.AbU fun σ1 hS f l=>?_;have k1:=f.get k1 (by simp;omega);have q2:=f.get q2 (by simp;omega);have ff:=ff.trans f;conv=>whnf)|(rw [k1];conv=>whnf)|(refine I4 k1 fun σ1 f k1 l=>?_;have hS:=hS.keep f (by simp;omega);have q2:=f.get q2 (by simp;omega);have ff:=ff.trans f;conv=>whnf)|(refine kA ?_;conv=>whnf)|(refine Br.mk (fun hc=>?_) fun hc=>?_<;>first|exact hc.elim|conv=>whnf)|(refine kB ?_))
 refine BO ((MZ (t:=4) (sz:=some 2) k1).trans rfl) ?_
 exact⟨_,_,_,_,rfl,rfl,hS,q2,by omega,ff.mono (by simp)⟩
set_option maxHeartbeats 4000000 in
theorem AeI {G:GS} {Df:List (AV×AV)} {cn:Bool} {σ:List Obj} {BM Bc DK:List (Int×Int)} {Dy:List (Int×Bool)} {c q gs n:Nat} {S J:List Int} {m:Int} (hS:HS G Df cn σ BM Bc (.own q gs 0 n) Dy DK) (hn:n=S.length) (hm:Ba BM m=none) (hl:S.length<2^40)
 (hq:nth σ q=some (.arr gs 1 true true (vs (.int .i64) (S++J)))) (hq6:6<q):
 BL (Ae tab) 57 [.ref 6 G.f 0 0,.int .i64 m] ⟨σ,c⟩
  fun out s'=>∃σ' c' g,out=.ok (.agg [.int .i64 m,.int .i64 0])∧s'=⟨σ',c'⟩∧HS G Df cn σ' (BJ BM m BM.length) (BJ Bc m BM.length) (.own q g 0 (S.length+1)) (BJ Dy m true) DK∧nth σ' q=some (.arr g 1 true true (vs (.int .i64) (S++[m])))∧HY σ σ' [2,3,4,6,q]:=by
 subst hn
 have hML:(Bq BM).length=BM.length:=List.length_map _
 have hlt:=Dh hS.h6
 have hqσ:σ.length≠q:=by have:=Dh hq;omega
 refine BI rfl rfl ?_
 (conv=>whnf);repeat' (first|(refine MO fun σ1 ff k1 l1=>?_;have hS:=hS.keep ff (by simp);replace k1:nth σ1 σ.length=some (.arr c 2 true true [.agg [.int .i64 0,.int .i64 0]]):=k1;have hq:=ff.get hq (by simp);replace ff:HY σ σ1 []:=ff;conv=>whnf)|(rw [hS.h6];conv=>whnf)|(rw [hS.h2];conv=>whnf)|(rw [hS.h3];conv=>whnf)|(rw [hS.h4];conv=>whnf)|(rw [hq];conv=>whnf)|(rw [k1];conv=>whnf)|(refine TD RJ (fun _=>?_);conv=>whnf)|(refine msH hML ?_;conv=>whnf)|(refine Za ?_;conv=>whnf)|(refine msT ?_;conv=>whnf)|(refine apJ (f:=.int .i64) (S:=S) (J:=J) (m:=m) (fun _=>rfl) rfl (by omega) ?_;conv=>whnf)|(refine hS.AeS fun σ1 hS f l=>?_;have k1:=f.get k1 (by simp;omega);have hq:=f.get hq (by simp;omega);have ff:=ff.trans f;conv=>whnf)|(refine hS.V7 fun σ1 hS f l=>?_;have k1:=f.get k1 (by simp;omega);have hq:=f.get hq (by simp;omega);have ff:=ff.trans f;conv=>whnf)|(refine hS.AbT fun σ1 hS f l=>?_;have k1:=f.get k1 (by simp;omega);have hq:=f.get hq (by simp;omega);have ff:=ff.trans f;conv=>whnf)|(refine hS.AbU fun σ1 hS f l=>?_;have k1:=f.get k1 (by simp;omega);have hq:=f.get hq (by simp;omega);have ff:=ff.trans f;conv=>whnf)|(refine I4 hq fun σ1 f hq l=>?_;have hS:=hS.keep f (by simp;omega);have k1:=f.get k1 (by simp;omega);have ff:=ff.trans f;conv=>whnf)|(refine I4 k1 fun σ1 f k1 l=>?_;have hS:=hS.keep f (by simp;omega);have hq:=f.get hq (by simp;omega);have ff:=ff.trans f;conv=>whnf)|(refine kA ?_;conv=>whnf)|(refine Br.mk (fun hc=>?_) fun hc=>?_<;>first|exact hc.elim|conv=>whnf)|(refine kB ?_))
 refine BO ((MZ (t:=4) (sz:=some 2) k1).trans rfl) ?_
 exact⟨_,_,_,rfl,rfl,hS,hq,ff.mono (by simp)⟩
def Fst (l:List Int) (x:Int) (i:Nat):Prop:=l[i]?=some x∧x∉l.take i
theorem Y2 {S0 C0:List Int} {t:Int} (h:t∉S0):Fst (S0++t::C0) t S0.length:=⟨by simp,by simpa using h⟩
set_option maxHeartbeats 1000000 in
theorem Ahn {l:List Int} {x:Int} {k:Nat} {nn:Bool} (hl:l.length<2^62) (hk:Fst l x k):Ar (Ae tab) 84 [.sl nn (vs (.int .i64) l),.int .i64 x] (· =.int .i64 k):=by
 have hkl:k<l.length:=(List.getElem?_eq_some_iff.1 hk.1).1
 have hkx:l[k]=x:=(List.getElem?_eq_some_iff.1 hk.1).2
 have hno:∀i (h:i<k),l[i]'(by omega)≠x:=fun i h e=>hk.2 (by rw[List.mem_take_iff_getElem];exact⟨i,by omega,e⟩)
 refine Ad rfl rfl ?_
 (conv=>whnf);repeat' (first  |(refine kA ?_;conv=>whnf)|(refine Br.mk (fun hc=>?_) fun hc=>?_<;>first|exact hc.elim|conv=>whnf)|(refine kB ?_))
 refine Ah (fun m env s=>∃i:Nat,m=l.length-i∧i≤k∧env=[(0,.sl nn (vs (.int .i64) l)),(1,.int .i64 x),(7,.int .i64 l.length),(8,.int .i64 i)]∧s=⟨[],0⟩) ?_ _ _ _ ⟨0,rfl,by omega,rfl,rfl⟩
 rintro _ _ _ ⟨i,rfl,hi,rfl,rfl⟩
 refine⟨rfl,?_⟩
 have hlt:i<l.length:=by omega
 by_cases e:i=k
 ·subst e
  clear hno
  (conv=>whnf);repeat' (first  |(refine kA ?_;conv=>whnf)|(refine Br.mk (fun hc=>?_) fun hc=>?_<;>first|exact hc.elim|conv=>whnf)|(refine kB ?_))
  all_goals first
   |(exfalso;omega)
   |rfl
   |exact absurd hkx.symm ‹_›
 ·have h1:=hno i (by omega)
  (conv=>whnf);repeat' (first  |(refine kA ?_;conv=>whnf)|(refine Br.mk (fun hc=>?_) fun hc=>?_<;>first|exact hc.elim|conv=>whnf)|(refine kB ?_))
  all_goals first
   |(exfalso;omega)
   |exact again.mk ⟨_,by omega,i+1,rfl,by omega,rfl,rfl⟩
   |exact absurd (Eq.symm ‹_›) h1
set_option maxHeartbeats 1000000 in
theorem Aho {l:List Int} {nn:Bool} (hl:l.length<2^62) (h0:l≠[]):Ar (Ae tab) 85 [.sl nn (vs (.int .i64) l)] (fun v=>∃x∈l,(∀ u∈l,x≤u)∧v=.int .i64 x):=by
 have hpos:0<l.length:=List.length_pos_iff.2 h0
 refine Ad rfl rfl ?_
 (conv=>whnf);repeat' (first  |(refine kA ?_;conv=>whnf)|(refine Br.mk (fun hc=>?_) fun hc=>?_<;>first|exact hc.elim|conv=>whnf)|(refine kB ?_))
 all_goals first|(exfalso;omega)|skip
 refine Ah (fun m env s=>∃(i:Nat) (x:Int),m=l.length-i∧1≤i∧i≤l.length∧x∈l∧(∀ u∈l.take i,x≤u)∧env=[(0,.sl nn (vs (.int .i64) l)),(3,.int .i64 x),(4,.int .i64 i)]∧s=⟨[],0⟩) ?_ _ _ _ ⟨1,_,rfl,by omega,by omega,List.getElem_mem hpos,?_,rfl,rfl⟩
 ·rintro _ _ _ ⟨i,x,rfl,h1,hi,hx,hle,rfl,rfl⟩
  refine⟨rfl,?_⟩
  by_cases hlt:i<l.length
  ·have hT:=List.take_succ_eq_append_getElem hlt
   (conv=>whnf);repeat' (first  |(refine kA ?_;conv=>whnf)|(refine Br.mk (fun hc=>?_) fun hc=>?_<;>first|exact hc.elim|conv=>whnf)|(refine kB ?_))
   all_goals first
        |(exfalso;omega)
        |exact again.mk ⟨_,by omega,i+1,_,rfl,by omega,by omega,(by split;exact List.getElem_mem hlt;exact hx),(by
          intro u hu
          rw[hT,List.mem_append,List.mem_singleton]at hu
          rcases hu with hu|rfl
          ·have:=hle u hu;split<;>omega
          ·split<;>omega),rfl,rfl⟩
  ·rw[List.take_of_length_le (by omega)]at hle
   (conv=>whnf);repeat' (first  |(refine kA ?_;conv=>whnf)|(refine Br.mk (fun hc=>?_) fun hc=>?_<;>first|exact hc.elim|conv=>whnf)|(refine kB ?_))
   all_goals first
        |(exfalso;omega)
        |exact⟨x,hx,hle,rfl⟩
 ·intro u hu
  rw[List.mem_take_iff_getElem]at hu
  obtain⟨j,hj,rfl⟩:=hu
  have:j=0:=by omega
  subst this
  exact Int.le_refl _
theorem Ahk {α:Type} {f:α→AV} {A B J:List α} {a n:Nat} (ha:a=A.length) (hn:n=B.length):sub (vs f (A++B++J)) a n=vs f B:=by
 subst ha;subst hn
 simp[vs,sub]
theorem Ahl {α:Type} {f:α→AV} {B J:List α} {n:Nat} (hn:n=B.length):sub (vs f (B++J)) 0 n=vs f B:=by
 subst hn
 simp[vs,sub]
theorem Ahm {α:Type} {f:α→AV} {A B J:List α} {k i:Nat} {K:AV→Prop} (hk:k=A.length+i) (hi:i<B.length) (h:K (f B[i])):Ue (vs f (A++B++J)) k K:=by
 subst hk
 refine Am ?_ h
 rw[Aw,vs,List.append_assoc,List.map_append,List.getElem?_append_right (by simp),List.length_map,Nat.add_sub_cancel_left,List.getElem?_map,List.getElem?_append_left hi,List.getElem?_eq_getElem hi]
 rfl
theorem Abc {α:Type} {D:List Int} {i:Nat} {a:Option α} {f f' g:Int→Option α} (hi:i<D.length) (h:∀v,f v=if v∈D.take i then a else g v) (h':∀v,f' v=if v=D[i]then a else f v) (v:Int):f' v=if v∈D.take (i+1)then a else g v:=by
 have hm:v∈D.take (i+1)↔v∈D.take i∨v=D[i]:=by rw[List.take_succ_eq_append_getElem hi,List.mem_append,List.mem_singleton]
 rw[h']
 by_cases e:v=D[i]
 ·rw[if_pos e,if_pos (hm.2 (.inr e))]
 ·rw[if_neg e,h]
  by_cases k:v∈D.take i
  ·rw[if_pos k,if_pos (hm.2 (.inl k))]
  ·rw[if_neg k,if_neg fun hc=>(hm.1 hc).elim k e]
section
variable {G:GS} {Df:List (AV×AV)} {cn:Bool} {σ:List Obj} {BM Bc DK:List (Int×Int)} {Dy:List (Int×Bool)} {c:Nat} {t:Int}
set_option maxHeartbeats 1000000 in
theorem Adk {stk:AV} {a b:Int} (hS:HS G Df cn σ BM Bc stk Dy DK) (h1:Ba Bc t=some a) (h2:Ba BM t=some b) (hne:a≠b):
 BL (Ae tab) 58 [.ref 6 G.f 0 0,.int .i64 t] ⟨σ,c⟩ fun out s'=>∃c',out=.ok (.EY [])∧s'=⟨σ,c'⟩:=by
 refine BI rfl rfl ?_
 (conv=>whnf);repeat' (first|(rw [hS.h6];conv=>whnf)|(rw [hS.h2];conv=>whnf)|(rw [hS.h3];conv=>whnf)|(refine TD h1 (fun _=>?_);conv=>whnf)|(refine TD h2 (fun _=>?_);conv=>whnf)|(refine kA ?_;conv=>whnf)|(refine Br.mk (fun hc=>?_) fun hc=>?_<;>first|exact hc.elim|conv=>whnf)|(refine kB ?_))
 all_goals first
  |exact⟨_,rfl,rfl⟩
  |exact absurd ‹_› hne
set_option maxHeartbeats 4000000 in
theorem Adl {q gs n a0:Nat} {a:Int} {S0 C0 J:List Int} (hS:HS G Df cn σ BM Bc (.own q gs 0 n) Dy DK) (h1:Ba Bc t=some a) (h2:Ba BM t=some a)
 (hq:nth σ q=some (.arr gs 1 true true (vs (.int .i64) (S0++t::C0++J)))) (hq6:6<q) (ha:a0=S0.length) (hn:n=(S0++t::C0).length) (hl:n<2^40) (ht:t∉S0) (hon:I7 Dy):
 BL (Ae tab) 58 [.ref 6 G.f 0 0,.int .i64 t] ⟨σ,c⟩ fun out s'=>∃σ' c' IZ Ld x,out=.ok (.EY [])∧s'=⟨σ',c'⟩∧x∈t::C0∧(∀ u∈t::C0,x≤u)∧HS G Df cn σ' BM Bc (.own q gs 0 a0) IZ Ld∧I7 IZ∧(∀ v,Ba IZ v=if v∈t::C0 then none else Ba Dy v)∧(∀ v,Ba Ld v=if v∈t::C0 then some x else Ba DK v)∧HY σ σ' [4,5,6]∧σ'.length=σ.length:=by
 have hnl:n=a0+(t::C0).length:=by rw[hn,List.length_append,ha]
 have hix:=Ahn (nn:=true) (l:=S0++t::C0) (x:=t) (k:=a0) (by omega) (by rw[ha];exact Y2 ht)
 obtain⟨_,⟨x,hx,hxm,rfl⟩,WS⟩:=(Aho (nn:=true) (l:=t::C0) (by omega) (by simp)).Ob
 have hq':=hq
 rw[List.append_assoc]at hq'
 have hvl:(vs (.int .i64) (S0++t::C0++J)).length=n+J.length:=by rw[hn];simp[vs];omega
 refine BI rfl rfl ?_
 (conv=>whnf);repeat' (first|(rw [hS.h6];conv=>whnf)|(rw [hS.h2];conv=>whnf)|(rw [hS.h3];conv=>whnf)|(rw [hq];conv=>whnf)|(refine QS ⟨rfl,by omega⟩ ?_;conv=>whnf)|(refine TD h1 (fun _=>?_);conv=>whnf)|(refine TD h2 (fun _=>?_);conv=>whnf)|(refine Ec (Ahl hn) ?_;conv=>whnf)|(refine Ec (Ahk (J:=J) ha (show n-a0=(t::C0).length by omega)) ?_;conv=>whnf)|((first|refine Aa hix ?_|refine Aa WS ?_);rintro _ rfl;conv=>whnf)|(refine kA ?_;conv=>whnf)|(refine Br.mk (fun hc=>?_) fun hc=>?_<;>first|exact hc.elim|conv=>whnf)|(refine kB ?_))
 all_goals first|(exfalso;omega)|(exact absurd rfl ‹_›)|skip
 have hkl:n-a0=(t::C0).length:=by omega
 refine Ah (fun m env s=>∃(i c':Nat) (σ':List Obj) (IZ:List (Int×Bool)) (Ld:List (Int×Int)),m=(t::C0).length-i∧i≤(t::C0).length∧HS G Df cn σ' BM Bc (.own q gs 0 n) IZ Ld∧I7 IZ∧(∀ v,Ba IZ v=if v∈(t::C0).take i then none else Ba Dy v)∧(∀ v,Ba Ld v=if v∈(t::C0).take i then some x else Ba DK v)∧nth σ' q=some (.arr gs 1 true true (vs (.int .i64) (S0++t::C0++J)))∧HY σ σ' [4,5]∧σ'.length=σ.length∧env=[(0,.ref 6 G.f 0 0),(4,.int .i64 a0),(5,.int .i64 x),(39,.own q gs a0 (n-a0)),(40,.int .i64 (n-a0:Nat)),(41,.int .i64 i)]∧s=⟨σ',c'⟩) ?_ _ _ _ ⟨0,_,_,_,_,rfl,by omega,hS,hon,by simp,by simp,hq,.refl,rfl,rfl,rfl⟩
 clear hS hq hon hix WS hq'
 rintro _ _ _ ⟨i,c',σ1,Yj,AbG,rfl,hi,hS,hon,ho,hs,hq,ff,fl,rfl,rfl⟩
 refine⟨rfl,?_⟩
 by_cases hlt:i<(t::C0).length
 ·have hs':∀v,Ba (BJ AbG (t::C0)[i] x) v=if v∈(t::C0).take (i+1)then some x else Ba DK v:=Abc hlt hs fun v=>CX _ _ _ _
  have ho':∀v,Ba (Ii Yj (t::C0)[i]) v=if v∈(t::C0).take (i+1)then none else Ba Dy v:=Abc hlt ho fun v=>Yt hon
  have ho0:Ba Yj (t::C0)[i]=none→∀v,Ba Yj v=if v∈(t::C0).take (i+1)then none else Ba Dy v:=fun hn=>Abc hlt ho fun v=>by
   by_cases e:v=(t::C0)[i]
   ·rw[if_pos e,e];exact hn
   ·rw[if_neg e]
  have AfL:=Wp hon (t::C0)[i]
  generalize hy:(t::C0)[i]=y at hs' ho' ho0 AfL
  (conv=>whnf);repeat' (first|(rw [hS.h6];conv=>whnf)|(rw [hS.h5];conv=>whnf)|(rw [hS.h4];conv=>whnf)|(rw [hq];conv=>whnf)|(refine QS ⟨rfl,rfl,by omega,by omega⟩ ?_;conv=>whnf)|(cases a0<;>(conv=>whnf))|(refine Ahm (by omega) hlt ?_;rw[hy];conv=>whnf)|(refine Za ?_;conv=>whnf)|(refine hS.Agx fun σ1 hS f l=>?_;have hq:=f.get hq (by simp;omega);have fl:=l.trans fl;have ff:=ff.trans f;conv=>whnf)|(refine fkT (fun hn=>?_) (fun j w hw he=>?_)<;>conv=>whnf)|(rw [he];refine hS.AbT fun σ1 hS f l=>?_;have hq:=f.get hq (by simp;omega);have fl:=l.trans fl;have ff:=ff.trans f;conv=>whnf)|(refine kA ?_;conv=>whnf)|(refine Br.mk (fun hc=>?_) fun hc=>?_<;>first|exact hc.elim|conv=>whnf)|(refine kB ?_))
  all_goals first
   |(exfalso;omega)
   |exact again.mk ⟨_,by omega,i+1,_,_,_,_,rfl,by omega,hS,hon,ho0 hn,hs',hq,ff.mono (by simp),fl,rfl,rfl⟩
   |exact again.mk ⟨_,by omega,i+1,_,_,_,_,rfl,by omega,hS,AfL,ho',hs',hq,ff.mono (by simp),fl,rfl,rfl⟩
 ·rw[List.take_of_length_le (by omega)]at ho hs
  (conv=>whnf);repeat' (first|(rw [hS.h6];conv=>whnf)|(rw [hq];conv=>whnf)|(refine hS.AbU fun σ1 hS f l=>?_;have fl:=l.trans fl;have ff:=ff.trans f;conv=>whnf)|(refine kA ?_;conv=>whnf)|(refine Br.mk (fun hc=>?_) fun hc=>?_<;>first|exact hc.elim|conv=>whnf)|(refine kB ?_))
  all_goals first
   |(exfalso;omega)
   |exact⟨_,_,_,_,x,rfl,rfl,hx,hxm,hS,hon,ho,hs,ff.mono (by simp),fl⟩
end
def Il (es:List (Int×Int)) (v:Int):List Int:=(es.filter fun e=>decide (e.1=v)).map (·.2)
theorem KQ {es:List (Int×Int)} {v w:Int}:w∈Il es v↔(v,w)∈es:=by
 unfold Il
 rw[List.mem_map]
 constructor
 ·rintro⟨⟨a,b⟩,h,rfl⟩
  obtain⟨h1,h2⟩:=List.mem_filter.1 h
  have:=of_decide_eq_true h2
  simp only at this
  subst this
  exact h1
 ·intro h
  exact⟨(v,w),List.mem_filter.2 ⟨h,decide_eq_true rfl⟩,rfl⟩
theorem Least.uniq {nx:Int→List Int} {v x y:Int} (h:Least nx v x) (k:Least nx v y):x=y:=by
 have h1:=h.2.2 y k.1 k.2.1
 have h2:=k.2.2 x h.1 h.2.1
 omega
structure Grow (e:Int×Int) (o o':List Int):Prop where
 mem:∀x,x∈o'↔x∈o∨(e.1∈o∧x=e.2)
inductive Round:List (Int×Int)→List Int→List Int→Prop
 |nil {o:List Int}:Round [] o o
 |cons {e:Int×Int} {es:List (Int×Int)} {o o1 o2:List Int} (h:Grow e o o1) (k:Round es o1 o2):Round (e::es) o o2
theorem Round.snoc {e:Int×Int} {es:List (Int×Int)} {o o1 o2:List Int} (h:Round es o o1) (k:Grow e o1 o2):Round (es++[e]) o o2:=by
 induction h with
 |nil=>exact .cons k .nil
 |cons h _ ih=>exact .cons h (ih k)
theorem Round.mono {es:List (Int×Int)} {o o':List Int} (h:Round es o o'):∀x∈o,x∈o':=by
 induction h with
 |nil=>exact fun _ h=>h
 |cons h _ ih=>exact fun x hx=>ih x ((h.mem x).2 (.inl hx))
theorem Round.sound {es:List (Int×Int)} {o o':List Int} (h:Round es o o') {C:Int→Prop} (hC:∀e∈es,C e.1→C e.2) (ho:∀x∈o,C x):∀x∈o',C x:=by
 induction h with
 |nil=>exact ho
 |cons h _ ih=>
  refine ih (fun e he=>hC e (List.mem_cons_of_mem _ he)) fun x hx=>?_
  rcases(h.mem x).1 hx with k|⟨k,rfl⟩
  ·exact ho x k
  ·exact hC _ (by simp) (ho _ k)
theorem Round.takes {es:List (Int×Int)} {o o':List Int} (h:Round es o o') {e:Int×Int} (he:e∈es) (h1:e.1∈o):e.2∈o':=by
 induction h with
 |nil=>cases he
 |cons h k ih=>
  rcases List.mem_cons.1 he with rfl|he
  ·exact k.mono _ ((h.mem _).2 (.inr ⟨h1,rfl⟩))
  ·exact ih he ((h.mem _).2 (.inl h1))
inductive Rounds (es:List (Int×Int)):Nat→List Int→List Int→Prop
 |zero {o:List Int}:Rounds es 0 o o
 |succ {n:Nat} {o o1 o2:List Int} (h:Rounds es n o o1) (k:Round es o1 o2):Rounds es (n+1) o o2
def KR (es:List (Int×Int)) (o:List Int):Prop:=∀e∈es,e.1∈o→e.2∈o
theorem Round.fix {es:List (Int×Int)} {o o':List Int} (h:Round es o o') (hc:KR es o):∀x,x∈o'↔x∈o:=
 fun x=>⟨fun k=>h.sound (C:=fun x=>x∈o) (fun e he=>hc e he) (fun _ h=>h) x k,fun k=>h.mono x k⟩
theorem MK {es:List (Int×Int)} {o o':List Int} (h:∀x,x∈o'↔x∈o) (hc:KR es o):KR es o':=fun e he k=>(h _).2 (hc e he ((h _).1 k))
def Y9 (ids o:List Int):Nat:=ids.countP fun x=>decide (x∈o)
theorem ZC (ids o:List Int):Y9 ids o≤ids.length:=List.countP_le_length
theorem V6 {ids o o':List Int} (hm:∀x∈o,x∈o') {y:Int} (hy:y∈ids) (h1:y∉o) (h2:y∈o'):Y9 ids o<Y9 ids o':=by
 unfold Y9
 induction ids with
 |nil=>cases hy
 |cons a ids ih=>
  rw[List.countP_cons,List.countP_cons]
  have hle:ids.countP (fun x=>decide (x∈o))≤ids.countP (fun x=>decide (x∈o')):=List.countP_mono_left fun x _ h=>decide_eq_true (hm x (of_decide_eq_true h))
  by_cases e:a=y
  ·subst e
   rw[if_neg (by simpa using h1),if_pos (by simpa using h2)]
   omega
  ·have:=ih (by rcases List.mem_cons.1 hy with k|k;exact absurd k.symm e;exact k)
   by_cases k:a∈o
   ·rw[if_pos (by simpa using k),if_pos (by simpa using hm a k)];omega
   ·rw[if_neg (by simpa using k)]
    split<;>omega
theorem Rounds.inv {es:List (Int×Int)} {ids:List Int} (hes:∀e∈es,e.2∈ids) {n:Nat} {o o':List Int} (h:Rounds es n o o'):KR es o'∨Y9 ids o+n≤Y9 ids o':=by
 induction h with
 |zero=>exact .inr (by omega)
 |succ h k ih=>
  rename_i n o1 o2
  rcases ih with hc|hc
  ·exact .inl (MK (k.fix hc) hc)
  ·rcases Classical.em (KR es o1)with h1|h1
   ·exact .inl (MK (k.fix h1) h1)
   ·right
    obtain⟨e,he⟩:=Classical.not_forall.1 h1
    obtain⟨he1,he2⟩:=Classical.not_imp.1 he
    obtain⟨he3,he4⟩:=Classical.not_imp.1 he2
    have:=V6 (ids:=ids) k.mono (hes e he1) he4 (k.takes he1 he3)
    omega
theorem Rounds.reach {es:List (Int×Int)} {ids:List Int} (hes:∀e∈es,e.2∈ids) {a:Int} (ha:a∈ids) {o:List Int} (h:Rounds es ids.length [a] o) (x:Int):x∈o↔Ih (Il es) a x:=by
 have hmono:∀{n:Nat} {o o':List Int},Rounds es n o o'→∀x∈o,x∈o':=fun h=>by
  induction h with
  |zero=>exact fun _ h=>h
  |succ _ k ih=>exact fun x hx=>k.mono x (ih x hx)
 have Adg:∀{n:Nat} {o:List Int},Rounds es n [a] o→∀x∈o,Ih (Il es) a x:=fun{n}=>by
  induction n with
  |zero=>intro o h x hx;cases h;rw[List.mem_singleton.1 hx];exact .refl
  |succ n ih=>
   intro o h
   cases h with
   |succ h k=>exact k.sound (fun e he hr=>.step hr (KQ.2 he)) (ih h)
 refine⟨Adg h x,fun hr=>?_⟩
 have hc:KR es o:=by
  rcases h.inv hes with k|k
  ·exact k
  ·have h1:0<Y9 ids [a]:=by
        unfold Y9
        rw[List.countP_pos_iff]
        exact⟨a,ha,by simp⟩
   have:=ZC ids o
   omega
 exact hr.stay (C:=fun x=>x∈o) (fun v hv w hw=>hc (v,w) (KQ.1 hw) hv) (hmono h a (by simp))
theorem OG {nx:Int→List Int} {ids:List Int} (hi:ids.Pairwise (· <·)) {a x:Int} (hin:∀u,Ih nx a u→u∈ids) (hx:Ih nx a x∧Ih nx x a) (hno:∀y∈ids,y<x→¬(Ih nx a y∧Ih nx y a)):Least nx a x:=
 ⟨hx.1,hx.2,fun u h1 h2=>by
  rcases Int.lt_or_le u x with k|k
  ·exact absurd ⟨h1,h2⟩ (hno u (hin u h1) k)
  ·exact k⟩
theorem JM {α:Type} [DecidableEq α]:∀{R W:List α},R.Nodup→(∀ x∈R,x∈W)→R.length≤W.length
 |[],W,_,_=>by simp
 |a::R,W,h,hs=>by
  obtain⟨h1,h2⟩:=List.nodup_cons.1 h
  have ha:a∈W:=hs a (by simp)
  have:=JM (R:=R) (W:=W.erase a) h2 fun x hx=>(List.mem_erase_of_ne (by rintro rfl;exact h1 hx)).2 (hs x (by simp[hx]))
  rw[List.length_erase_of_mem ha]at this
  have:=List.length_pos_of_mem ha
  simp;omega
structure AB (s:TJ) (BM Bc:List (Int×Int)) (Dy:List (Int×Bool)) (DK:List (Int×Int)):Prop where
 n:s.n=BM.length
 ix:∀v,s.vis v→Ba BM v=some (s.ix v:Int)
 ix0:∀v,¬s.vis v→Ba BM v=none
 low:∀v,s.vis v→Ba Bc v=some (s.low v:Int)
 on:∀v,v∈s.S→Ba Dy v=some true
 on0:∀v,v∉s.S→Ba Dy v=none
 onN:I7 Dy
 sm:∀v,s.vis v→v∉s.S→Ba DK v=some (s.sm v)
 ixN:I7 BM
section
variable {s:TJ} {BM Bc DK:List (Int×Int)} {Dy:List (Int×Bool)}
theorem AB.start {ix low:Int→Nat} {T:List (Int×Nat)} {sm:Int→Int}:AB ⟨0,fun _=>False,ix,low,[],T,sm⟩ [] [] [] []:=
 AB.mk rfl (fun _ h=>False.elim h) (fun _ _=>rfl) (fun _ h=>False.elim h) (fun _ h=>absurd h (by simp)) (fun _ _=>rfl) List.Pairwise.nil (fun _ h=>False.elim h) List.Pairwise.nil
theorem AB.enter (h:AB s BM Bc Dy DK) {m:Int} {T1:List (Int×Nat)} (hm:¬s.vis m) (XA:m∉s.S):AB (LM s m T1) (BJ BM m BM.length) (BJ Bc m BM.length) (BJ Dy m true) DK:=by
 have hne:∀v,s.vis v→v≠m:=fun v hv e=>hm (e▸hv)
 refine⟨?_,?_,?_,?_,?_,?_,Qe h.onN _ _,?_,Qe h.ixN _ _⟩
 ·show s.n+1=_
  rw[Z4 (h.ix0 m hm),h.n]
 ·intro v hv
  show _=some ((upd s.ix m s.n v:Nat):Int)
  rw[CX]
  by_cases e:v=m
  ·subst e;rw[if_pos rfl,Et,h.n]
  ·rw[if_neg e,upd_ne e]
   exact h.ix v (hv.resolve_right e)
 ·intro v hv
  have h1:v≠m:=fun e=>hv (.inr e)
  rw[CX,if_neg h1]
  exact h.ix0 v fun k=>hv (.inl k)
 ·intro v hv
  show _=some ((upd s.low m s.n v:Nat):Int)
  rw[CX]
  by_cases e:v=m
  ·subst e;rw[if_pos rfl,Et,h.n]
  ·rw[if_neg e,upd_ne e]
   exact h.low v (hv.resolve_right e)
 ·intro v hv
  rw[CX]
  by_cases e:v=m
  ·rw[if_pos e]
  ·rw[if_neg e]
   have hv':v∈s.S++[m]:=hv
   rw[List.mem_append,List.mem_singleton]at hv'
   exact h.on v (hv'.resolve_right e)
 ·intro v hv
  have hv':v∉s.S++[m]:=hv
  rw[List.mem_append,List.mem_singleton]at hv'
  rw[CX,if_neg fun e=>hv' (.inr e)]
  exact h.on0 v fun k=>hv' (.inl k)
 ·intro v hv hvS
  have hv':v∉s.S++[m]:=hvS
  rw[List.mem_append,List.mem_singleton]at hv'
  exact h.sm v (hv.resolve_right fun e=>hv' (.inr e)) fun k=>hv' (.inl k)
theorem AB.put (h:AB s BM Bc Dy DK) {u:Int} {x:Int} {n:Nat} {T:List (Int×Nat)} (hx:x=n):AB ⟨s.n,s.vis,s.ix,upd s.low u n,s.S,T,s.sm⟩ BM (BJ Bc u x) Dy DK:=by
 refine⟨h.n,h.ix,h.ix0,fun v hv=>?_,h.on,h.on0,h.onN,h.sm,h.ixN⟩
 show _=some ((upd s.low u n v:Nat):Int)
 rw[CX]
 by_cases e:v=u
 ·subst e;rw[if_pos rfl,Et,hx]
 ·rw[if_neg e,upd_ne e];exact h.low v hv
theorem AB.same (h:AB s BM Bc Dy DK) {u:Int} {x:Int} (hx:x=s.low u):AB s BM (BJ Bc u x) Dy DK:=by
 refine⟨h.n,h.ix,h.ix0,fun v hv=>?_,h.on,h.on0,h.onN,h.sm,h.ixN⟩
 rw[CX]
 by_cases e:v=u
 ·subst e;rw[if_pos rfl,hx]
 ·rw[if_neg e];exact h.low v hv
theorem AB.frames (h:AB s BM Bc Dy DK) (T:List (Int×Nat)):AB ⟨s.n,s.vis,s.ix,s.low,s.S,T,s.sm⟩ BM Bc Dy DK:=
 ⟨h.n,h.ix,h.ix0,h.low,h.on,h.on0,h.onN,h.sm,h.ixN⟩
theorem AB.pop (h:AB s BM Bc Dy DK) {t x:Int} {C0 S0:List Int} {T0:List (Int×Nat)} {IZ:List (Int×Bool)} {Ld:List (Int×Int)} (hS:s.S=S0++t::C0) (hd:∀v∈S0,v∉t::C0) (hk:I7 IZ)
 (ho:∀v,Ba IZ v=if v∈t::C0 then Option.none else Ba Dy v) (hs:∀v,Ba Ld v=if v∈t::C0 then some x else Ba DK v):AB (AdV s t C0 S0 T0 x) BM Bc IZ Ld:=by
 have hm:∀v,v∈s.S↔v∈S0∨v∈t::C0:=fun v=>by rw[hS,List.mem_append]
 refine⟨h.n,h.ix,h.ix0,h.low,?_,?_,hk,?_,h.ixN⟩
 ·intro v hv
  have hv':v∈S0:=hv
  rw[ho,if_neg (hd v hv')]
  exact h.on v ((hm v).2 (.inl hv'))
 ·intro v hv
  have hv':v∉S0:=hv
  rw[ho]
  by_cases e:v∈t::C0
  ·rw[if_pos e]
  ·rw[if_neg e]
   exact h.on0 v fun k=>((hm v).1 k).elim hv' e
 ·intro v hv hvS
  have hv':v∉S0:=hvS
  rw[hs]
  show _=some (if v∈t::C0 then x else s.sm v)
  by_cases e:v∈t::C0
  ·rw[if_pos e,if_pos e]
  ·rw[if_neg e,if_neg e]
   exact h.sm v hv fun k=>((hm v).1 k).elim hv' e
end
def Stk (lo:Nat) (σ:List Obj) (stk:AV) (S:List Int):Prop:=(stk=.sl false []∧S=[])∨∃q g J,lo≤q∧stk=.own q g 0 S.length∧nth σ q=some (.arr g 1 true true (vs (.int .i64) (S++J)))
theorem Stk.keep {lo:Nat} {σ σ':List Obj} {stk:AV} {S:List Int} {F:List Nat} (h:Stk lo σ stk S) (f:HY σ σ' F) (hF:∀o∈F,o<lo∨o∉stk.obj):Stk lo σ' stk S:=by
 rcases h with h|⟨q,g,J,h1,rfl,h2⟩
 ·exact .inl h
 ·refine .inr ⟨q,g,J,h1,rfl,f.get h2 fun hm=>?_⟩
  rcases hF q hm with k|k
  ·omega
  ·exact k (by simp[AV.obj])
def NxS (Df:List (Int×AV)) (σ:List Obj) (lo:Nat) (nx:Int→List Int):Prop:=
 ∀v,(Ba Df v=none∧nx v=[])∨∃o g,Ba Df v=some (.own o g 0 (nx v).length)∧nth σ o=some (.arr g 1 true true (vs (.int .i64) (nx v)))∧6<o∧o<lo
def Un (p:Int×Nat):AV:=.agg [.int .i64 p.1,.int .i64 p.2]
theorem AbH (p:Int×Nat):(Un p).cells.length=2:=rfl
structure VR (G:GS) (Df:List (AV×AV)) (cn:Bool) (nx:Int→List Int) (ids:List Int) (lo:Nat) (σ0 σ:List Obj) (s:TJ) (L:List (Int×Nat)) (BM Bc:List (Int×Int)) (stk:AV) (Dy:List (Int×Bool)) (DK:List (Int×Int)) (pt gt:Nat) (J:List (Int×Nat)):Prop where
 hs:HS G Df cn σ BM Bc stk Dy DK
 fl:∀o,(o<2∨6<o)→o<lo→nth σ o=nth σ0 o
 ln:lo≤σ.length
 ab:AB s BM Bc Dy DK
 tj:EO nx s
 sT:s.T=L.reverse
 sk:Stk lo σ stk s.S
 td:nth σ pt=some (.arr gt 2 true true (vs Un (L++J)))
 tp:lo≤pt∧pt∉stk.obj
 vi:∀v,s.vis v→v∈ids
section
variable {G:GS} {Df:List (AV×AV)} {cn:Bool} {nx:Int→List Int} {ids:List Int} {lo:Nat} {σ0 σ σ':List Obj} {s:TJ} {L L1:List (Int×Nat)} {BM Bc DK:List (Int×Int)} {stk:AV} {Dy:List (Int×Bool)} {pt gt:Nat} {J:List (Int×Nat)} {t u:Int} {k ku:Nat}
theorem Jo {F:List Nat} (h:∀o,(o<2∨6<o)→o<lo→nth σ o=nth σ0 o) (ln:lo≤σ.length) (f:HY σ σ' F) (hF:∀o∈F,(2≤o∧o≤6)∨lo≤o):∀o,(o<2∨6<o)→o<lo→nth σ' o=nth σ0 o:=
 fun o ho hl=>(f.eq o (by omega) fun hm=>by have:=hF o hm;omega).trans (h o ho hl)
theorem VR.stay (hlo:6<lo) (h:VR G Df cn nx ids lo σ0 σ s (L1++[(u,ku)]++[(t,(nx t).length)]) BM Bc stk Dy DK pt gt J) (hl:s.low t<s.ix t) {x:Int} (hx:x=((min (s.low u) (s.low t):Nat):Int)) (hs:HS G Df cn σ' BM (BJ Bc u x) stk Dy DK) (f:HY σ σ' [3]):
 VR G Df cn nx ids lo σ0 σ' (RF s t ((u,ku)::L1.reverse)) (L1++[(u,ku)]) BM (BJ Bc u x) stk Dy DK pt gt ((t,(nx t).length)::J):=by
 have hT:s.T=(t,(nx t).length)::(u,ku)::L1.reverse:=by rw[h.sT];simp
 refine⟨hs,Jo h.fl h.ln f (by simp),Nat.le_trans h.ln f.len,h.ab.put hx,h.tj.stay hT hl,by simp,h.sk.keep f (by simp;omega),?_,h.tp,h.vi⟩
 rw[f.get h.td (by have:=h.tp;simp;omega)]
 simp
theorem VR.pop {S0 C0:List Int} {x:Int} {IZ:List (Int×Bool)} {Ld:List (Int×Int)} {Hz:AV} (hlo:6<lo) (h:VR G Df cn nx ids lo σ0 σ s (L++[(t,(nx t).length)]) BM Bc stk Dy DK pt gt J) (hl:s.low t=s.ix t) (hS:s.S=S0++t::C0) (hx:x∈t::C0) (hmin:∀u∈t::C0,x≤u)
 (hk:I7 IZ) (ho:∀v,Ba IZ v=if v∈t::C0 then none else Ba Dy v) (hm:∀v,Ba Ld v=if v∈t::C0 then some x else Ba DK v) (hs:HS G Df cn σ' BM Bc Hz IZ Ld) (f:HY σ σ' [4,5,6]) (hk2:Stk lo σ' Hz S0) (hob:∀o∈Hz.obj,o∈stk.obj):
 VR G Df cn nx ids lo σ0 σ' (AdV s t C0 S0 L.reverse x) L BM Bc Hz IZ Ld pt gt ((t,(nx t).length)::J):=by
 have hT:s.T=(t,(nx t).length)::L.reverse:=by rw[h.sT];simp
 have hd:∀v∈S0,v∉t::C0:=fun v hv hc=>by
  have hsI:=h.tj.sI
  rw[hS,List.pairwise_append]at hsI
  exact Nat.lt_irrefl _ (hsI.2.2 v hv v hc)
 refine⟨hs,Jo h.fl h.ln f (by simp),Nat.le_trans h.ln f.len,h.ab.pop hS hd hk ho hm,h.tj.pop hT hl hS hx hmin,rfl,hk2,?_,⟨h.tp.1,fun hc=>h.tp.2 (hob _ hc)⟩,h.vi⟩
 rw[f.get h.td (by have:=h.tp;simp;omega)]
 simp
theorem VR.up (hlo:6<lo) (h:VR G Df cn nx ids lo σ0 σ s L BM Bc stk Dy DK pt gt J) {x:Int} (hx:x=s.low u) (hs:HS G Df cn σ' BM (BJ Bc u x) stk Dy DK) (f:HY σ σ' [3]):
 VR G Df cn nx ids lo σ0 σ' s L BM (BJ Bc u x) stk Dy DK pt gt J:=
 ⟨hs,Jo h.fl h.ln f (by simp),Nat.le_trans h.ln f.len,h.ab.same hx,h.tj,h.sT,h.sk.keep f (by simp;omega),f.get h.td (by have:=h.tp;simp;omega),h.tp,h.vi⟩
theorem VR.see (hlo:6<lo) {m x:Int} {σ1:List Obj} (h:VR G Df cn nx ids lo σ0 σ s (L1++[(t,k)]) BM Bc stk Dy DK pt gt J) (hk:(nx t)[k]?=some m) (hm:s.vis m) (XA:m∈s.S) (hx:x=((min (s.low t) (s.ix m):Nat):Int))
 (f:HY σ σ1 [pt]) (htd:nth σ1 pt=some (.arr gt 2 true true (vs Un (L1++[(t,k+1)]++J)))) (hs:HS G Df cn σ' BM (BJ Bc t x) stk Dy DK) (f':HY σ1 σ' [3]):
 VR G Df cn nx ids lo σ0 σ' (Ri s t k L1.reverse m) (L1++[(t,k+1)]) BM (BJ Bc t x) stk Dy DK pt gt J:=by
 have hT:s.T=(t,k)::L1.reverse:=by rw[h.sT];simp
 have hp:=h.tp
 have ff:=f.trans f'
 have hj:=h.tj.see hT hk hm
 have ha:AB (Ri s t k L1.reverse m) BM (BJ Bc t x) Dy DK:=by
  have:=h.ab.put (u:=t) (T:=(t,k+1)::L1.reverse) hx
  unfold Ri
  rw[if_pos XA]
  exact this
 refine⟨hs,Jo h.fl h.ln ff (by simp;omega),Nat.le_trans h.ln ff.len,ha,hj,by simp,h.sk.keep ff ?_,f'.get htd (by simp;omega),h.tp,h.vi⟩
 intro o ho
 simp at ho
 rcases ho with rfl|rfl
 ·exact .inr h.tp.2
 ·exact .inl (by omega)
theorem VR.Agm (hlo:6<lo) {m:Int} {σ1:List Obj} (h:VR G Df cn nx ids lo σ0 σ s (L1++[(t,k)]) BM Bc stk Dy DK pt gt J) (hk:(nx t)[k]?=some m) (hm:s.vis m) (XA:m∉s.S)
 (f:HY σ σ1 [pt]) (htd:nth σ1 pt=some (.arr gt 2 true true (vs Un (L1++[(t,k+1)]++J)))):
 VR G Df cn nx ids lo σ0 σ1 (Ri s t k L1.reverse m) (L1++[(t,k+1)]) BM Bc stk Dy DK pt gt J:=by
 have hT:s.T=(t,k)::L1.reverse:=by rw[h.sT];simp
 have hp:=h.tp
 have hj:=h.tj.see hT hk hm
 have ha:AB (Ri s t k L1.reverse m) BM Bc Dy DK:=by
  have:=h.ab.frames ((t,k+1)::L1.reverse)
  unfold Ri
  rw[if_neg XA]
  exact this
 refine⟨h.hs.keep f (by simp;omega),Jo h.fl h.ln f (by simp;omega),Nat.le_trans h.ln f.len,ha,hj,by simp,h.sk.keep f ?_,htd,h.tp,h.vi⟩
 intro o ho
 simp at ho
 subst ho
 exact .inr h.tp.2
theorem VR.enter (hlo:6<lo) {m:Int} {σ1 σ2 σ3:List Obj} {Hz:AV} {gt':Nat} (h:VR G Df cn nx ids lo σ0 σ s (L1++[(t,k)]) BM Bc stk Dy DK pt gt J) (hk:(nx t)[k]?=some m) (hm:¬s.vis m) (hid:m∈ids)
 (f:HY σ σ1 [pt]) (hs:HS G Df cn σ2 (BJ BM m BM.length) (BJ Bc m BM.length) Hz (BJ Dy m true) DK) (f2:HY σ1 σ2 (2::3::4::6::stk.obj)) (hk2:Stk lo σ2 Hz (s.S++[m])) (hob:pt∉Hz.obj) (hso:∀o∈stk.obj,lo≤o)
 (f3:HY σ2 σ3 [pt]) (htd:nth σ3 pt=some (.arr gt' 2 true true (vs Un (L1++[(t,k+1)]++[(m,0)])))):
 VR G Df cn nx ids lo σ0 σ3 (LM s m ((t,k+1)::L1.reverse)) (L1++[(t,k+1)]++[(m,0)]) (BJ BM m BM.length) (BJ Bc m BM.length) Hz (BJ Dy m true) DK pt gt' []:=by
 have hT:s.T=(t,k)::L1.reverse:=by rw[h.sT];simp
 have hp:=h.tp
 have hmk:m∈nx t:=List.mem_of_getElem? hk
 have XA:m∉s.S:=fun hx=>hm (h.tj.sV _ hx)
 have hg:Goes nx s m ((t,k+1)::L1.reverse):=by
  refine⟨by rw[hT];rfl,fun p hp=>?_,fun p hp=>?_⟩
  ·rcases List.mem_cons.1 hp with rfl|hp
   ·exact .inr ⟨(t,k),by rw[hT];rfl,rfl,rfl,hk⟩
   ·exact .inl (by rw[hT];exact List.mem_cons_of_mem _ hp)
  ·rw[hT]at hp
   cases hp
   exact hmk
 have ff:=(f.trans f2).trans f3
 refine⟨hs.keep f3 (by simp;omega),Jo h.fl h.ln ff ?_,Nat.le_trans h.ln ff.len,h.ab.enter hm XA,h.tj.enter hm hg,by simp,hk2.keep f3 ?_,by rw[htd];simp,⟨hp.1,hob⟩,?_⟩
 ·intro o ho
  simp at ho
  rcases ho with ho|ho|ho|ho|ho|ho|ho
  all_goals first|omega|exact .inr (hso o ho)
 ·intro o ho
  simp at ho
  subst ho
  exact .inr hob
 ·rintro v (hv|rfl)
  ·exact h.vi v hv
  ·exact hid
def wT (B:Nat) (L:List (Int×Nat)):Nat:=(L.map fun p=>B+1-p.2).sum
def wA (B:Nat) (ids:List Int) (BM:List (Int×Int)) (L:List (Int×Nat)):Nat:=(ids.length-Y9 ids (BM.map (·.1)))*(B+2)+wT B L
theorem Lc {B:Nat} {L:List (Int×Nat)} {p:Int×Nat}:wT B (L++[p])=wT B L+(B+1-p.2):=by simp[wT]
theorem Oc {B:Nat} (hk:k≤B):wA B ids BM L<wA B ids BM (L++[(t,k)]):=by
 unfold wA;rw[Lc];dsimp only;omega
theorem ZM {B:Nat} (hk:k<B):wA B ids BM (L++[(t,k+1)])<wA B ids BM (L++[(t,k)]):=by
 unfold wA;rw[Lc,Lc];dsimp only;omega
theorem ZN {B:Nat} {m:Int} {x:Int} (hk:k<B) (hm:m∈ids) (h:Ba BM m=none):wA B ids (BJ BM m x) (L++[(t,k+1)]++[(m,0)])<wA B ids BM (L++[(t,k)]):=by
 have h1:=V6 (ids:=ids) (o:=BM.map (·.1)) (o':=(BJ BM m x).map (·.1)) (fun y hy=>Ol.2 (.inr hy)) hm (I8.1 h) (Ol.2 (.inl rfl))
 have h2:=ZC ids ((BJ BM m x).map (·.1))
 unfold wA
 rw[Lc,Lc,Lc]
 dsimp only
 obtain⟨d,hd⟩:∃d,ids.length-Y9 ids (BM.map (·.1))=(ids.length-Y9 ids ((BJ BM m x).map (·.1)))+1+d:=⟨_,(Nat.add_sub_cancel' (by omega)).symm⟩
 rw[hd,Nat.add_mul,Nat.add_mul,Nat.one_mul]
 omega
theorem VR.len (hnd:ids.Nodup) (h:VR G Df cn nx ids lo σ0 σ s L BM Bc stk Dy DK pt gt J):s.S.length≤ids.length∧L.length≤ids.length:=by
 constructor
 ·refine JM ?_ fun x hx=>h.vi x (h.tj.sV x hx)
  exact h.tj.sI.imp fun h e=>by subst e;exact Nat.lt_irrefl _ h
 ·have h1:(s.T.map (·.1)).Nodup:=List.pairwise_map.2 (h.tj.tI.imp fun h e=>by rw[e]at h;exact Nat.lt_irrefl _ h)
  have h2:=JM h1 (W:=ids) fun x hx=>by
   obtain⟨p,hp,rfl⟩:=List.mem_map.1 hx
   exact h.vi _ (h.tj.sV _ (h.tj.tS p hp))
  rw[h.sT]at h2
  simpa using h2
end
end AI
end Go.Proofs.YtjjhejbffgaabaaGreatDoor
