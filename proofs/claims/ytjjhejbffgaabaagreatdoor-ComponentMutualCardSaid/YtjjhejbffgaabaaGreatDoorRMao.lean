/- component.Strong: a node is left. What is reached along edges: round by round; the least of those that reach each other. Plain. component.Strong: what the store says of Tarjan's state; its steps: plain. -/
import Derived.Test.YtjjhejbffgaabaaGreatDoorRMan
set_option linter.unusedVariables false
set_option maxRecDepth 4000
namespace Go.Proofs.YtjjhejbffgaabaaGreatDoor
namespace AI
theorem Ajz {α:Type} {f:α→AV} {A B J:List α} {a n:Nat} (ha:a=A.length) (hn:n=B.length):sub (vs f (A++B++J)) a n=vs f B:=by
 subst ha;subst hn
 simp[vs,sub]
theorem AjA {α:Type} {f:α→AV} {B J:List α} {n:Nat} (hn:n=B.length):sub (vs f (B++J)) 0 n=vs f B:=by
 subst hn
 simp[vs,sub]
theorem AjB {α:Type} {f:α→AV} {A B J:List α} {k i:Nat} {K:AV→Prop} (hk:k=A.length+i) (hi:i<B.length) (h:K (f B[i])):BX (vs f (A++B++J)) k K:=by
 subst hk
 refine Ak ?_ h
 rw[Az,vs,List.append_assoc,List.map_append,List.getElem?_append_right (by simp),List.length_map,Nat.add_sub_cancel_left,List.getElem?_map,List.getElem?_append_left hi,List.getElem?_eq_getElem hi]
 rfl
theorem AaR {α:Type} {D:List Int} {i:Nat} {a:Option α} {f f' g:Int→Option α} (hi:i<D.length) (h:∀v,f v=if v∈D.take i then a else g v) (h':∀v,f' v=if v=D[i]then a else f v) (v:Int):f' v=if v∈D.take (i+1)then a else g v:=by
 have hm:v∈D.take (i+1)↔v∈D.take i∨v=D[i]:=by rw[List.take_succ_eq_append_getElem hi,List.mem_append,List.mem_singleton]
 rw[h']
 by_cases e:v=D[i]
 ·rw[if_pos e,if_pos (hm.2 (.inr e))]
 ·rw[if_neg e,h]
  by_cases k:v∈D.take i
  ·rw[if_pos k,if_pos (hm.2 (.inl k))]
  ·rw[if_neg k,if_neg fun hc=>(hm.1 hc).elim k e]
section
variable {G:GS} {Dl:List (AV×AV)} {cn:Bool} {σ:List Obj} {BR Bv DR:List (Int×Int)} {DK:List (Int×Bool)} {c:Nat} {t:Int}
set_option maxHeartbeats 1000000 in
theorem Afv {stk:AV} {a b:Int} (hS:HS G Dl cn σ BR Bv stk DK DR) (h1:Bh Bv t=some a) (h2:Bh BR t=some b) (hne:a≠b):
 AY (Ac tab) 58 [.ref 6 G.f 0 0,.int .i64 t] ⟨σ,c⟩ fun out s'=>∃c',out=.ok (.Du [])∧s'=⟨σ,c'⟩:=by
 refine AL rfl rfl ?_
 (conv=>whnf);repeat' (first|(rw [hS.h6];conv=>whnf)|(rw [hS.h2];conv=>whnf)|(rw [hS.h3];conv=>whnf)|(refine Uo h1 (fun _=>?_);conv=>whnf)|(refine Uo h2 (fun _=>?_);conv=>whnf)|(refine kA ?_;conv=>whnf)|(refine Br.mk (fun hc=>?_) fun hc=>?_<;>first|exact hc.elim|conv=>whnf)|(refine kB ?_))
 all_goals first
  |exact⟨_,rfl,rfl⟩
  |exact absurd ‹_› hne
set_option maxHeartbeats 4000000 in
theorem Afw {q gs n a0:Nat} {a:Int} {S0 C0 J:List Int} (hS:HS G Dl cn σ BR Bv (.own q gs 0 n) DK DR) (h1:Bh Bv t=some a) (h2:Bh BR t=some a)
 (hq:nth σ q=some (.arr gs 1 true true (vs (.int .i64) (S0++t::C0++J)))) (hq6:6<q) (ha:a0=S0.length) (hn:n=(S0++t::C0).length) (hl:n<2^40) (ht:t∉S0) (hon:Jc DK):
 AY (Ac tab) 58 [.ref 6 G.f 0 0,.int .i64 t] ⟨σ,c⟩ fun out s'=>∃σ' c' Jf LP x,out=.ok (.Du [])∧s'=⟨σ',c'⟩∧x∈t::C0∧(∀ u∈t::C0,x≤u)∧HS G Dl cn σ' BR Bv (.own q gs 0 a0) Jf LP∧Jc Jf∧(∀ v,Bh Jf v=if v∈t::C0 then none else Bh DK v)∧(∀ v,Bh LP v=if v∈t::C0 then some x else Bh DR v)∧H9 σ σ' [4,5,6]∧σ'.length=σ.length:=by
 have hnl:n=a0+(t::C0).length:=by rw[hn,List.length_append,ha]
 have hix:=AjC (nn:=true) (l:=S0++t::C0) (x:=t) (k:=a0) (by omega) (by rw[ha];exact Zy ht)
 obtain⟨_,⟨x,hx,hxm,rfl⟩,Xp⟩:=(AjD (nn:=true) (l:=t::C0) (by omega) (by simp)).Xj
 have hq':=hq
 rw[List.append_assoc]at hq'
 have hvl:(vs (.int .i64) (S0++t::C0++J)).length=n+J.length:=by rw[hn];simp[vs];omega
 refine AL rfl rfl ?_
 (conv=>whnf);repeat' (first|(rw [hS.h6];conv=>whnf)|(rw [hS.h2];conv=>whnf)|(rw [hS.h3];conv=>whnf)|(rw [hq];conv=>whnf)|(refine Qq ⟨rfl,by omega⟩ ?_;conv=>whnf)|(refine Uo h1 (fun _=>?_);conv=>whnf)|(refine Uo h2 (fun _=>?_);conv=>whnf)|(refine Bj (AjA hn) ?_;conv=>whnf)|(refine Bj (Ajz (J:=J) ha (show n-a0=(t::C0).length by omega)) ?_;conv=>whnf)|((first|refine Aa hix ?_|refine Aa Xp ?_);rintro _ rfl;conv=>whnf)|(refine kA ?_;conv=>whnf)|(refine Br.mk (fun hc=>?_) fun hc=>?_<;>first|exact hc.elim|conv=>whnf)|(refine kB ?_))
 all_goals first|(exfalso;omega)|(exact absurd rfl ‹_›)|skip
 have hkl:n-a0=(t::C0).length:=by omega
 refine Ah (fun m env s=>∃(i c':Nat) (σ':List Obj) (Jf:List (Int×Bool)) (LP:List (Int×Int)),m=(t::C0).length-i∧i≤(t::C0).length∧HS G Dl cn σ' BR Bv (.own q gs 0 n) Jf LP∧Jc Jf∧(∀ v,Bh Jf v=if v∈(t::C0).take i then none else Bh DK v)∧(∀ v,Bh LP v=if v∈(t::C0).take i then some x else Bh DR v)∧nth σ' q=some (.arr gs 1 true true (vs (.int .i64) (S0++t::C0++J)))∧H9 σ σ' [4,5]∧σ'.length=σ.length∧env=[(0,.ref 6 G.f 0 0),(4,.int .i64 a0),(5,.int .i64 x),(39,.own q gs a0 (n-a0)),(40,.int .i64 (n-a0:Nat)),(41,.int .i64 i)]∧s=⟨σ',c'⟩) ?_ _ _ _ ⟨0,_,_,_,_,rfl,by omega,hS,hon,by simp,by simp,hq,.refl,rfl,rfl,rfl⟩
 clear hS hq hon hix Xp hq'
 rintro _ _ _ ⟨i,c',σ1,Zz,Adf,rfl,hi,hS,hon,ho,hs,hq,ff,fl,rfl,rfl⟩
 refine⟨rfl,?_⟩
 by_cases hlt:i<(t::C0).length
 ·have hs':∀v,Bh (BO Adf (t::C0)[i] x) v=if v∈(t::C0).take (i+1)then some x else Bh DR v:=AaR hlt hs fun v=>Dh _ _ _ _
  have ho':∀v,Bh (Iz Zz (t::C0)[i]) v=if v∈(t::C0).take (i+1)then none else Bh DK v:=AaR hlt ho fun v=>Zu hon
  have ho0:Bh Zz (t::C0)[i]=none→∀v,Bh Zz v=if v∈(t::C0).take (i+1)then none else Bh DK v:=fun hn=>AaR hlt ho fun v=>by
   by_cases e:v=(t::C0)[i]
   ·rw[if_pos e,e];exact hn
   ·rw[if_neg e]
  have Ahu:=Xn hon (t::C0)[i]
  generalize hy:(t::C0)[i]=y at hs' ho' ho0 Ahu
  (conv=>whnf);repeat' (first|(rw [hS.h6];conv=>whnf)|(rw [hS.h5];conv=>whnf)|(rw [hS.h4];conv=>whnf)|(rw [hq];conv=>whnf)|(refine Qq ⟨rfl,rfl,by omega,by omega⟩ ?_;conv=>whnf)|(cases a0<;>(conv=>whnf))|(refine AjB (by omega) hlt ?_;rw[hy];conv=>whnf)|(refine msI ?_;conv=>whnf)|(refine hS.AjE fun σ1 hS f l=>?_;have hq:=f.get hq (by simp;omega);have fl:=l.trans fl;have ff:=ff.trans f;conv=>whnf)|(refine fkT (fun hn=>?_) (fun j w hw he=>?_)<;>conv=>whnf)|(rw [he];refine hS.Adg fun σ1 hS f l=>?_;have hq:=f.get hq (by simp;omega);have fl:=l.trans fl;have ff:=ff.trans f;conv=>whnf)|(refine kA ?_;conv=>whnf)|(refine Br.mk (fun hc=>?_) fun hc=>?_<;>first|exact hc.elim|conv=>whnf)|(refine kB ?_))
  all_goals first
   |(exfalso;omega)
   |exact again.mk ⟨_,by omega,i+1,_,_,_,_,rfl,by omega,hS,hon,ho0 hn,hs',hq,ff.mono (by simp),fl,rfl,rfl⟩
   |exact again.mk ⟨_,by omega,i+1,_,_,_,_,rfl,by omega,hS,Ahu,ho',hs',hq,ff.mono (by simp),fl,rfl,rfl⟩
 ·rw[List.take_of_length_le (by omega)]at ho hs
  (conv=>whnf);repeat' (first|(rw [hS.h6];conv=>whnf)|(rw [hq];conv=>whnf)|(refine hS.Adh fun σ1 hS f l=>?_;have fl:=l.trans fl;have ff:=ff.trans f;conv=>whnf)|(refine kA ?_;conv=>whnf)|(refine Br.mk (fun hc=>?_) fun hc=>?_<;>first|exact hc.elim|conv=>whnf)|(refine kB ?_))
  all_goals first
   |(exfalso;omega)
   |exact⟨_,_,_,_,x,rfl,rfl,hx,hxm,hS,hon,ho,hs,ff.mono (by simp),fl⟩
end
def MH (es:List (Int×Int)) (v:Int):List Int:=(es.filter fun e=>decide (e.1=v)).map (·.2)
theorem P8 {es:List (Int×Int)} {v w:Int}:w∈MH es v↔(v,w)∈es:=by
 unfold MH
 rw[List.mem_map]
 constructor
 ·rintro⟨⟨a,b⟩,h,rfl⟩
  obtain⟨h1,h2⟩:=List.mem_filter.1 h
  have:=of_decide_eq_true h2
  simp only at this
  subst this
  exact h1
 ·intro h
  exact⟨(v,w),List.mem_filter.2 ⟨h,decide_eq_true rfl⟩,rfl⟩
theorem Least.uniq {nx:Int→List Int} {v x y:Int} (h:Least nx v x) (k:Least nx v y):x=y:=by
 have h1:=h.2.2 y k.1 k.2.1
 have h2:=k.2.2 x h.1 h.2.1
 omega
structure Grow (e:Int×Int) (o o':List Int):Prop where
 mem:∀x,x∈o'↔x∈o∨(e.1∈o∧x=e.2)
inductive Round:List (Int×Int)→List Int→List Int→Prop
 |nil {o:List Int}:Round [] o o
 |cons {e:Int×Int} {es:List (Int×Int)} {o o1 o2:List Int} (h:Grow e o o1) (k:Round es o1 o2):Round (e::es) o o2
theorem Round.snoc {e:Int×Int} {es:List (Int×Int)} {o o1 o2:List Int} (h:Round es o o1) (k:Grow e o1 o2):Round (es++[e]) o o2:=by
 induction h with
 |nil=>exact .cons k .nil
 |cons h _ ih=>exact .cons h (ih k)
theorem Round.mono {es:List (Int×Int)} {o o':List Int} (h:Round es o o'):∀x∈o,x∈o':=by
 induction h with
 |nil=>exact fun _ h=>h
 |cons h _ ih=>exact fun x hx=>ih x ((h.mem x).2 (.inl hx))
theorem Round.sound {es:List (Int×Int)} {o o':List Int} (h:Round es o o') {C:Int→Prop} (hC:∀e∈es,C e.1→C e.2) (ho:∀x∈o,C x):∀x∈o',C x:=by
 induction h with
 |nil=>exact ho
 |cons h _ ih=>
  refine ih (fun e he=>hC e (List.mem_cons_of_mem _ he)) fun x hx=>?_
  rcases(h.mem x).1 hx with k|⟨k,rfl⟩
  ·exact ho x k
  ·exact hC _ (by simp) (ho _ k)
theorem Round.takes {es:List (Int×Int)} {o o':List Int} (h:Round es o o') {e:Int×Int} (he:e∈es) (h1:e.1∈o):e.2∈o':=by
 induction h with
 |nil=>cases he
 |cons h k ih=>
  rcases List.mem_cons.1 he with rfl|he
  ·exact k.mono _ ((h.mem _).2 (.inr ⟨h1,rfl⟩))
  ·exact ih he ((h.mem _).2 (.inl h1))
inductive Rounds (es:List (Int×Int)):Nat→List Int→List Int→Prop
 |zero {o:List Int}:Rounds es 0 o o
 |succ {n:Nat} {o o1 o2:List Int} (h:Rounds es n o o1) (k:Round es o1 o2):Rounds es (n+1) o o2
def LG (es:List (Int×Int)) (o:List Int):Prop:=∀e∈es,e.1∈o→e.2∈o
theorem Round.fix {es:List (Int×Int)} {o o':List Int} (h:Round es o o') (hc:LG es o):∀x,x∈o'↔x∈o:=
 fun x=>⟨fun k=>h.sound (C:=fun x=>x∈o) (fun e he=>hc e he) (fun _ h=>h) x k,fun k=>h.mono x k⟩
theorem N8 {es:List (Int×Int)} {o o':List Int} (h:∀x,x∈o'↔x∈o) (hc:LG es o):LG es o':=fun e he k=>(h _).2 (hc e he ((h _).1 k))
def inN (ids o:List Int):Nat:=ids.countP fun x=>decide (x∈o)
theorem AbN (ids o:List Int):inN ids o≤ids.length:=List.countP_le_length
theorem AbO {ids o o':List Int} (hm:∀x∈o,x∈o') {y:Int} (hy:y∈ids) (h1:y∉o) (h2:y∈o'):inN ids o<inN ids o':=by
 unfold inN
 induction ids with
 |nil=>cases hy
 |cons a ids ih=>
  rw[List.countP_cons,List.countP_cons]
  have hle:ids.countP (fun x=>decide (x∈o))≤ids.countP (fun x=>decide (x∈o')):=List.countP_mono_left fun x _ h=>decide_eq_true (hm x (of_decide_eq_true h))
  by_cases e:a=y
  ·subst e
   rw[if_neg (by simpa using h1),if_pos (by simpa using h2)]
   omega
  ·have:=ih (by rcases List.mem_cons.1 hy with k|k;exact absurd k.symm e;exact k)
   by_cases k:a∈o
   ·rw[if_pos (by simpa using k),if_pos (by simpa using hm a k)];omega
   ·rw[if_neg (by simpa using k)]
    split<;>omega
theorem Rounds.inv {es:List (Int×Int)} {ids:List Int} (hes:∀e∈es,e.2∈ids) {n:Nat} {o o':List Int} (h:Rounds es n o o'):LG es o'∨inN ids o+n≤inN ids o':=by
 induction h with
 |zero=>exact .inr (by omega)
 |succ h k ih=>
  rename_i n o1 o2
  rcases ih with hc|hc
  ·exact .inl (N8 (k.fix hc) hc)
  ·rcases Classical.em (LG es o1)with h1|h1
   ·exact .inl (N8 (k.fix h1) h1)
   ·right
    obtain⟨e,he⟩:=Classical.not_forall.1 h1
    obtain⟨he1,he2⟩:=Classical.not_imp.1 he
    obtain⟨he3,he4⟩:=Classical.not_imp.1 he2
    have:=AbO (ids:=ids) k.mono (hes e he1) he4 (k.takes he1 he3)
    omega
theorem Rounds.reach {es:List (Int×Int)} {ids:List Int} (hes:∀e∈es,e.2∈ids) {a:Int} (ha:a∈ids) {o:List Int} (h:Rounds es ids.length [a] o) (x:Int):x∈o↔Jm (MH es) a x:=by
 have hmono:∀{n:Nat} {o o':List Int},Rounds es n o o'→∀x∈o,x∈o':=fun h=>by
  induction h with
  |zero=>exact fun _ h=>h
  |succ _ k ih=>exact fun x hx=>k.mono x (ih x hx)
 have Ago:∀{n:Nat} {o:List Int},Rounds es n [a] o→∀x∈o,Jm (MH es) a x:=fun{n}=>by
  induction n with
  |zero=>intro o h x hx;cases h;rw[List.mem_singleton.1 hx];exact .refl
  |succ n ih=>
   intro o h
   cases h with
   |succ h k=>exact k.sound (fun e he hr=>.step hr (P8.2 he)) (ih h)
 refine⟨Ago h x,fun hr=>?_⟩
 have hc:LG es o:=by
  rcases h.inv hes with k|k
  ·exact k
  ·have h1:0<inN ids [a]:=by
        unfold inN
        rw[List.countP_pos_iff]
        exact⟨a,ha,by simp⟩
   have:=AbN ids o
   omega
 exact hr.stay (C:=fun x=>x∈o) (fun v hv w hw=>hc (v,w) (P8.1 hw) hv) (hmono h a (by simp))
theorem Pj {nx:Int→List Int} {ids:List Int} (hi:ids.Pairwise (· <·)) {a x:Int} (hin:∀u,Jm nx a u→u∈ids) (hx:Jm nx a x∧Jm nx x a) (hno:∀y∈ids,y<x→¬(Jm nx a y∧Jm nx y a)):Least nx a x:=
 ⟨hx.1,hx.2,fun u h1 h2=>by
  rcases Int.lt_or_le u x with k|k
  ·exact absurd ⟨h1,h2⟩ (hno u (hin u h1) k)
  ·exact k⟩
theorem JH {α:Type} [DecidableEq α]:∀{R W:List α},R.Nodup→(∀ x∈R,x∈W)→R.length≤W.length
 |[],W,_,_=>by simp
 |a::R,W,h,hs=>by
  obtain⟨h1,h2⟩:=List.nodup_cons.1 h
  have ha:a∈W:=hs a (by simp)
  have:=JH (R:=R) (W:=W.erase a) h2 fun x hx=>(List.mem_erase_of_ne (by rintro rfl;exact h1 hx)).2 (hs x (by simp[hx]))
  rw[List.length_erase_of_mem ha]at this
  have:=List.length_pos_of_mem ha
  simp;omega
structure AB (s:TJ) (BR Bv:List (Int×Int)) (DK:List (Int×Bool)) (DR:List (Int×Int)):Prop where
 n:s.n=BR.length
 ix:∀v,s.vis v→Bh BR v=some (s.ix v:Int)
 ix0:∀v,¬s.vis v→Bh BR v=none
 low:∀v,s.vis v→Bh Bv v=some (s.low v:Int)
 on:∀v,v∈s.S→Bh DK v=some true
 on0:∀v,v∉s.S→Bh DK v=none
 onN:Jc DK
 sm:∀v,s.vis v→v∉s.S→Bh DR v=some (s.sm v)
 ixN:Jc BR
section
variable {s:TJ} {BR Bv DR:List (Int×Int)} {DK:List (Int×Bool)}
theorem AB.start {ix low:Int→Nat} {T:List (Int×Nat)} {sm:Int→Int}:AB ⟨0,fun _=>False,ix,low,[],T,sm⟩ [] [] [] []:=
 AB.mk rfl (fun _ h=>False.elim h) (fun _ _=>rfl) (fun _ h=>False.elim h) (fun _ h=>absurd h (by simp)) (fun _ _=>rfl) List.Pairwise.nil (fun _ h=>False.elim h) List.Pairwise.nil
theorem AB.enter (h:AB s BR Bv DK DR) {m:Int} {T1:List (Int×Nat)} (hm:¬s.vis m) (YD:m∉s.S):AB (MG s m T1) (BO BR m BR.length) (BO Bv m BR.length) (BO DK m true) DR:=by
 have hne:∀v,s.vis v→v≠m:=fun v hv e=>hm (e▸hv)
 refine⟨?_,?_,?_,?_,?_,?_,Qo h.onN _ _,?_,Qo h.ixN _ _⟩
 ·show s.n+1=_
  rw[AaP (h.ix0 m hm),h.n]
 ·intro v hv
  show _=some ((upd s.ix m s.n v:Nat):Int)
  rw[Dh]
  by_cases e:v=m
  ·subst e;rw[if_pos rfl,EK,h.n]
  ·rw[if_neg e,upd_ne e]
   exact h.ix v (hv.resolve_right e)
 ·intro v hv
  have h1:v≠m:=fun e=>hv (.inr e)
  rw[Dh,if_neg h1]
  exact h.ix0 v fun k=>hv (.inl k)
 ·intro v hv
  show _=some ((upd s.low m s.n v:Nat):Int)
  rw[Dh]
  by_cases e:v=m
  ·subst e;rw[if_pos rfl,EK,h.n]
  ·rw[if_neg e,upd_ne e]
   exact h.low v (hv.resolve_right e)
 ·intro v hv
  rw[Dh]
  by_cases e:v=m
  ·rw[if_pos e]
  ·rw[if_neg e]
   have hv':v∈s.S++[m]:=hv
   rw[List.mem_append,List.mem_singleton]at hv'
   exact h.on v (hv'.resolve_right e)
 ·intro v hv
  have hv':v∉s.S++[m]:=hv
  rw[List.mem_append,List.mem_singleton]at hv'
  rw[Dh,if_neg fun e=>hv' (.inr e)]
  exact h.on0 v fun k=>hv' (.inl k)
 ·intro v hv hvS
  have hv':v∉s.S++[m]:=hvS
  rw[List.mem_append,List.mem_singleton]at hv'
  exact h.sm v (hv.resolve_right fun e=>hv' (.inr e)) fun k=>hv' (.inl k)
theorem AB.put (h:AB s BR Bv DK DR) {u:Int} {x:Int} {n:Nat} {T:List (Int×Nat)} (hx:x=n):AB ⟨s.n,s.vis,s.ix,upd s.low u n,s.S,T,s.sm⟩ BR (BO Bv u x) DK DR:=by
 refine⟨h.n,h.ix,h.ix0,fun v hv=>?_,h.on,h.on0,h.onN,h.sm,h.ixN⟩
 show _=some ((upd s.low u n v:Nat):Int)
 rw[Dh]
 by_cases e:v=u
 ·subst e;rw[if_pos rfl,EK,hx]
 ·rw[if_neg e,upd_ne e];exact h.low v hv
theorem AB.same (h:AB s BR Bv DK DR) {u:Int} {x:Int} (hx:x=s.low u):AB s BR (BO Bv u x) DK DR:=by
 refine⟨h.n,h.ix,h.ix0,fun v hv=>?_,h.on,h.on0,h.onN,h.sm,h.ixN⟩
 rw[Dh]
 by_cases e:v=u
 ·subst e;rw[if_pos rfl,hx]
 ·rw[if_neg e];exact h.low v hv
theorem AB.frames (h:AB s BR Bv DK DR) (T:List (Int×Nat)):AB ⟨s.n,s.vis,s.ix,s.low,s.S,T,s.sm⟩ BR Bv DK DR:=
 ⟨h.n,h.ix,h.ix0,h.low,h.on,h.on0,h.onN,h.sm,h.ixN⟩
theorem AB.pop (h:AB s BR Bv DK DR) {t x:Int} {C0 S0:List Int} {T0:List (Int×Nat)} {Jf:List (Int×Bool)} {LP:List (Int×Int)} (hS:s.S=S0++t::C0) (hd:∀v∈S0,v∉t::C0) (hk:Jc Jf)
 (ho:∀v,Bh Jf v=if v∈t::C0 then Option.none else Bh DK v) (hs:∀v,Bh LP v=if v∈t::C0 then some x else Bh DR v):AB (Agt s t C0 S0 T0 x) BR Bv Jf LP:=by
 have hm:∀v,v∈s.S↔v∈S0∨v∈t::C0:=fun v=>by rw[hS,List.mem_append]
 refine⟨h.n,h.ix,h.ix0,h.low,?_,?_,hk,?_,h.ixN⟩
 ·intro v hv
  have hv':v∈S0:=hv
  rw[ho,if_neg (hd v hv')]
  exact h.on v ((hm v).2 (.inl hv'))
 ·intro v hv
  have hv':v∉S0:=hv
  rw[ho]
  by_cases e:v∈t::C0
  ·rw[if_pos e]
  ·rw[if_neg e]
   exact h.on0 v fun k=>((hm v).1 k).elim hv' e
 ·intro v hv hvS
  have hv':v∉S0:=hvS
  rw[hs]
  show _=some (if v∈t::C0 then x else s.sm v)
  by_cases e:v∈t::C0
  ·rw[if_pos e,if_pos e]
  ·rw[if_neg e,if_neg e]
   exact h.sm v hv fun k=>((hm v).1 k).elim hv' e
end
def Stk (lo:Nat) (σ:List Obj) (stk:AV) (S:List Int):Prop:=(stk=.sl false []∧S=[])∨∃q g J,lo≤q∧stk=.own q g 0 S.length∧nth σ q=some (.arr g 1 true true (vs (.int .i64) (S++J)))
theorem Stk.keep {lo:Nat} {σ σ':List Obj} {stk:AV} {S:List Int} {F:List Nat} (h:Stk lo σ stk S) (f:H9 σ σ' F) (hF:∀o∈F,o<lo∨o∉stk.obj):Stk lo σ' stk S:=by
 rcases h with h|⟨q,g,J,h1,rfl,h2⟩
 ·exact .inl h
 ·refine .inr ⟨q,g,J,h1,rfl,f.get h2 fun hm=>?_⟩
  rcases hF q hm with k|k
  ·omega
  ·exact k (by simp[AV.obj])
def NxS (Dl:List (Int×AV)) (σ:List Obj) (lo:Nat) (nx:Int→List Int):Prop:=
 ∀v,(Bh Dl v=none∧nx v=[])∨∃o g,Bh Dl v=some (.own o g 0 (nx v).length)∧nth σ o=some (.arr g 1 true true (vs (.int .i64) (nx v)))∧6<o∧o<lo
def Vg (p:Int×Nat):AV:=.agg [.int .i64 p.1,.int .i64 p.2]
theorem AdU (p:Int×Nat):(Vg p).cells.length=2:=rfl
structure VR (G:GS) (Dl:List (AV×AV)) (cn:Bool) (nx:Int→List Int) (ids:List Int) (lo:Nat) (σ0 σ:List Obj) (s:TJ) (L:List (Int×Nat)) (BR Bv:List (Int×Int)) (stk:AV) (DK:List (Int×Bool)) (DR:List (Int×Int)) (pt gt:Nat) (J:List (Int×Nat)):Prop where
 hs:HS G Dl cn σ BR Bv stk DK DR
 fl:∀o,(o<2∨6<o)→o<lo→nth σ o=nth σ0 o
 ln:lo≤σ.length
 ab:AB s BR Bv DK DR
 tj:EY nx s
 sT:s.T=L.reverse
 sk:Stk lo σ stk s.S
 td:nth σ pt=some (.arr gt 2 true true (vs Vg (L++J)))
 tp:lo≤pt∧pt∉stk.obj
 vi:∀v,s.vis v→v∈ids
section
variable {G:GS} {Dl:List (AV×AV)} {cn:Bool} {nx:Int→List Int} {ids:List Int} {lo:Nat} {σ0 σ σ':List Obj} {s:TJ} {L L1:List (Int×Nat)} {BR Bv DR:List (Int×Int)} {stk:AV} {DK:List (Int×Bool)} {pt gt:Nat} {J:List (Int×Nat)} {t u:Int} {k ku:Nat}
theorem JQ {F:List Nat} (h:∀o,(o<2∨6<o)→o<lo→nth σ o=nth σ0 o) (ln:lo≤σ.length) (f:H9 σ σ' F) (hF:∀o∈F,(2≤o∧o≤6)∨lo≤o):∀o,(o<2∨6<o)→o<lo→nth σ' o=nth σ0 o:=
 fun o ho hl=>(f.eq o (by omega) fun hm=>by have:=hF o hm;omega).trans (h o ho hl)
theorem VR.stay (hlo:6<lo) (h:VR G Dl cn nx ids lo σ0 σ s (L1++[(u,ku)]++[(t,(nx t).length)]) BR Bv stk DK DR pt gt J) (hl:s.low t<s.ix t) {x:Int} (hx:x=((min (s.low u) (s.low t):Nat):Int)) (hs:HS G Dl cn σ' BR (BO Bv u x) stk DK DR) (f:H9 σ σ' [3]):
 VR G Dl cn nx ids lo σ0 σ' (S9 s t ((u,ku)::L1.reverse)) (L1++[(u,ku)]) BR (BO Bv u x) stk DK DR pt gt ((t,(nx t).length)::J):=by
 have hT:s.T=(t,(nx t).length)::(u,ku)::L1.reverse:=by rw[h.sT];simp
 refine⟨hs,JQ h.fl h.ln f (by simp),Nat.le_trans h.ln f.len,h.ab.put hx,h.tj.stay hT hl,by simp,h.sk.keep f (by simp;omega),?_,h.tp,h.vi⟩
 rw[f.get h.td (by have:=h.tp;simp;omega)]
 simp
theorem VR.pop {S0 C0:List Int} {x:Int} {Jf:List (Int×Bool)} {LP:List (Int×Int)} {Ii:AV} (hlo:6<lo) (h:VR G Dl cn nx ids lo σ0 σ s (L++[(t,(nx t).length)]) BR Bv stk DK DR pt gt J) (hl:s.low t=s.ix t) (hS:s.S=S0++t::C0) (hx:x∈t::C0) (hmin:∀u∈t::C0,x≤u)
 (hk:Jc Jf) (ho:∀v,Bh Jf v=if v∈t::C0 then none else Bh DK v) (hm:∀v,Bh LP v=if v∈t::C0 then some x else Bh DR v) (hs:HS G Dl cn σ' BR Bv Ii Jf LP) (f:H9 σ σ' [4,5,6]) (hk2:Stk lo σ' Ii S0) (hob:∀o∈Ii.obj,o∈stk.obj):
 VR G Dl cn nx ids lo σ0 σ' (Agt s t C0 S0 L.reverse x) L BR Bv Ii Jf LP pt gt ((t,(nx t).length)::J):=by
 have hT:s.T=(t,(nx t).length)::L.reverse:=by rw[h.sT];simp
 have hd:∀v∈S0,v∉t::C0:=fun v hv hc=>by
  have hsI:=h.tj.sI
  rw[hS,List.pairwise_append]at hsI
  exact Nat.lt_irrefl _ (hsI.2.2 v hv v hc)
 refine⟨hs,JQ h.fl h.ln f (by simp),Nat.le_trans h.ln f.len,h.ab.pop hS hd hk ho hm,h.tj.pop hT hl hS hx hmin,rfl,hk2,?_,⟨h.tp.1,fun hc=>h.tp.2 (hob _ hc)⟩,h.vi⟩
 rw[f.get h.td (by have:=h.tp;simp;omega)]
 simp
theorem VR.up (hlo:6<lo) (h:VR G Dl cn nx ids lo σ0 σ s L BR Bv stk DK DR pt gt J) {x:Int} (hx:x=s.low u) (hs:HS G Dl cn σ' BR (BO Bv u x) stk DK DR) (f:H9 σ σ' [3]):
 VR G Dl cn nx ids lo σ0 σ' s L BR (BO Bv u x) stk DK DR pt gt J:=
 ⟨hs,JQ h.fl h.ln f (by simp),Nat.le_trans h.ln f.len,h.ab.same hx,h.tj,h.sT,h.sk.keep f (by simp;omega),f.get h.td (by have:=h.tp;simp;omega),h.tp,h.vi⟩
theorem VR.see (hlo:6<lo) {m x:Int} {σ1:List Obj} (h:VR G Dl cn nx ids lo σ0 σ s (L1++[(t,k)]) BR Bv stk DK DR pt gt J) (hk:(nx t)[k]?=some m) (hm:s.vis m) (YD:m∈s.S) (hx:x=((min (s.low t) (s.ix m):Nat):Int))
 (f:H9 σ σ1 [pt]) (htd:nth σ1 pt=some (.arr gt 2 true true (vs Vg (L1++[(t,k+1)]++J)))) (hs:HS G Dl cn σ' BR (BO Bv t x) stk DK DR) (f':H9 σ1 σ' [3]):
 VR G Dl cn nx ids lo σ0 σ' (Si s t k L1.reverse m) (L1++[(t,k+1)]) BR (BO Bv t x) stk DK DR pt gt J:=by
 have hT:s.T=(t,k)::L1.reverse:=by rw[h.sT];simp
 have hp:=h.tp
 have ff:=f.trans f'
 have hj:=h.tj.see hT hk hm
 have ha:AB (Si s t k L1.reverse m) BR (BO Bv t x) DK DR:=by
  have:=h.ab.put (u:=t) (T:=(t,k+1)::L1.reverse) hx
  unfold Si
  rw[if_pos YD]
  exact this
 refine⟨hs,JQ h.fl h.ln ff (by simp;omega),Nat.le_trans h.ln ff.len,ha,hj,by simp,h.sk.keep ff ?_,f'.get htd (by simp;omega),h.tp,h.vi⟩
 intro o ho
 simp at ho
 rcases ho with rfl|rfl
 ·exact .inr h.tp.2
 ·exact .inl (by omega)
theorem VR.Akd (hlo:6<lo) {m:Int} {σ1:List Obj} (h:VR G Dl cn nx ids lo σ0 σ s (L1++[(t,k)]) BR Bv stk DK DR pt gt J) (hk:(nx t)[k]?=some m) (hm:s.vis m) (YD:m∉s.S)
 (f:H9 σ σ1 [pt]) (htd:nth σ1 pt=some (.arr gt 2 true true (vs Vg (L1++[(t,k+1)]++J)))):
 VR G Dl cn nx ids lo σ0 σ1 (Si s t k L1.reverse m) (L1++[(t,k+1)]) BR Bv stk DK DR pt gt J:=by
 have hT:s.T=(t,k)::L1.reverse:=by rw[h.sT];simp
 have hp:=h.tp
 have hj:=h.tj.see hT hk hm
 have ha:AB (Si s t k L1.reverse m) BR Bv DK DR:=by
  have:=h.ab.frames ((t,k+1)::L1.reverse)
  unfold Si
  rw[if_neg YD]
  exact this
 refine⟨h.hs.keep f (by simp;omega),JQ h.fl h.ln f (by simp;omega),Nat.le_trans h.ln f.len,ha,hj,by simp,h.sk.keep f ?_,htd,h.tp,h.vi⟩
 intro o ho
 simp at ho
 subst ho
 exact .inr h.tp.2
theorem VR.enter (hlo:6<lo) {m:Int} {σ1 σ2 σ3:List Obj} {Ii:AV} {gt':Nat} (h:VR G Dl cn nx ids lo σ0 σ s (L1++[(t,k)]) BR Bv stk DK DR pt gt J) (hk:(nx t)[k]?=some m) (hm:¬s.vis m) (hid:m∈ids)
 (f:H9 σ σ1 [pt]) (hs:HS G Dl cn σ2 (BO BR m BR.length) (BO Bv m BR.length) Ii (BO DK m true) DR) (f2:H9 σ1 σ2 (2::3::4::6::stk.obj)) (hk2:Stk lo σ2 Ii (s.S++[m])) (hob:pt∉Ii.obj) (hso:∀o∈stk.obj,lo≤o)
 (f3:H9 σ2 σ3 [pt]) (htd:nth σ3 pt=some (.arr gt' 2 true true (vs Vg (L1++[(t,k+1)]++[(m,0)])))):
 VR G Dl cn nx ids lo σ0 σ3 (MG s m ((t,k+1)::L1.reverse)) (L1++[(t,k+1)]++[(m,0)]) (BO BR m BR.length) (BO Bv m BR.length) Ii (BO DK m true) DR pt gt' []:=by
 have hT:s.T=(t,k)::L1.reverse:=by rw[h.sT];simp
 have hp:=h.tp
 have hmk:m∈nx t:=List.mem_of_getElem? hk
 have YD:m∉s.S:=fun hx=>hm (h.tj.sV _ hx)
 have hg:Goes nx s m ((t,k+1)::L1.reverse):=by
  refine⟨by rw[hT];rfl,fun p hp=>?_,fun p hp=>?_⟩
  ·rcases List.mem_cons.1 hp with rfl|hp
   ·exact .inr ⟨(t,k),by rw[hT];rfl,rfl,rfl,hk⟩
   ·exact .inl (by rw[hT];exact List.mem_cons_of_mem _ hp)
  ·rw[hT]at hp
   cases hp
   exact hmk
 have ff:=(f.trans f2).trans f3
 refine⟨hs.keep f3 (by simp;omega),JQ h.fl h.ln ff ?_,Nat.le_trans h.ln ff.len,h.ab.enter hm YD,h.tj.enter hm hg,by simp,hk2.keep f3 ?_,by rw[htd];simp,⟨hp.1,hob⟩,?_⟩
 ·intro o ho
  simp at ho
  rcases ho with ho|ho|ho|ho|ho|ho|ho
  all_goals first|omega|exact .inr (hso o ho)
 ·intro o ho
  simp at ho
  subst ho
  exact .inr hob
 ·rintro v (hv|rfl)
  ·exact h.vi v hv
  ·exact hid
def wT (B:Nat) (L:List (Int×Nat)):Nat:=(L.map fun p=>B+1-p.2).sum
def wA (B:Nat) (ids:List Int) (BR:List (Int×Int)) (L:List (Int×Nat)):Nat:=(ids.length-inN ids (BR.map (·.1)))*(B+2)+wT B L
theorem LH {B:Nat} {L:List (Int×Nat)} {p:Int×Nat}:wT B (L++[p])=wT B L+(B+1-p.2):=by simp[wT]
theorem OE {B:Nat} (hk:k≤B):wA B ids BR L<wA B ids BR (L++[(t,k)]):=by
 unfold wA;rw[LH];dsimp only;omega
theorem Abv {B:Nat} (hk:k<B):wA B ids BR (L++[(t,k+1)])<wA B ids BR (L++[(t,k)]):=by
 unfold wA;rw[LH,LH];dsimp only;omega
theorem Abw {B:Nat} {m:Int} {x:Int} (hk:k<B) (hm:m∈ids) (h:Bh BR m=none):wA B ids (BO BR m x) (L++[(t,k+1)]++[(m,0)])<wA B ids BR (L++[(t,k)]):=by
 have h1:=AbO (ids:=ids) (o:=BR.map (·.1)) (o':=(BO BR m x).map (·.1)) (fun y hy=>OB.2 (.inr hy)) hm (Jd.1 h) (OB.2 (.inl rfl))
 have h2:=AbN ids ((BO BR m x).map (·.1))
 unfold wA
 rw[LH,LH,LH]
 dsimp only
 obtain⟨d,hd⟩:∃d,ids.length-inN ids (BR.map (·.1))=(ids.length-inN ids ((BO BR m x).map (·.1)))+1+d:=⟨_,(Nat.add_sub_cancel' (by omega)).symm⟩
 rw[hd,Nat.add_mul,Nat.add_mul,Nat.one_mul]
 omega
theorem VR.len (hnd:ids.Nodup) (h:VR G Dl cn nx ids lo σ0 σ s L BR Bv stk DK DR pt gt J):s.S.length≤ids.length∧L.length≤ids.length:=by
 constructor
 ·refine JH ?_ fun x hx=>h.vi x (h.tj.sV x hx)
  exact h.tj.sI.imp fun h e=>by subst e;exact Nat.lt_irrefl _ h
 ·have h1:(s.T.map (·.1)).Nodup:=List.pairwise_map.2 (h.tj.tI.imp fun h e=>by rw[e]at h;exact Nat.lt_irrefl _ h)
  have h2:=JH h1 (W:=ids) fun x hx=>by
   obtain⟨p,hp,rfl⟩:=List.mem_map.1 hx
   exact h.vi _ (h.tj.sV _ (h.tj.tS p hp))
  rw[h.sT]at h2
  simpa using h2
end
end AI
end Go.Proofs.YtjjhejbffgaabaaGreatDoor
