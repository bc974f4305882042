/- Components by labels: plain facts, no program in sight. -/
import Derived.Test.YtlbjddhbkhgceaaGreatDoorVa
set_option linter.unusedVariables false
set_option maxRecDepth 4000
namespace Go.Proofs.YtlbjddhbkhgceaaGreatDoor
namespace AI
def VE (n:Int) (e:List Int):Prop:=e≠[]∧(∀ v∈e,0≤v∧v<n)∧e.Pairwise (· <·)
instance (n:Int) (e:List Int):Decidable (VE n e):=by unfold VE;infer_instance
def Vld (n:Int) (L:List (List Int)):Prop:=0≤n∧n≤24∧L.length≤12∧∀e∈L,VE n e
instance (n:Int) (L:List (List Int)):Decidable (Vld n L):=by unfold Vld;infer_instance
def lb (P:List Int) (u:Nat):Int:=P.getD u 0
theorem lb_eq {P:List Int} {u:Nat} (h:u<P.length):lb P u=P[u]:=by simp[lb,List.getD_eq_getElem?_getD,h]
def Edge (L:List (List Int)) (a b:Nat):Prop:=∃e∈L,(a:Int)∈e∧(b:Int)∈e
inductive Con (L:List (List Int)):Nat→Nat→Nat→Prop
 |refl (k a:Nat):Con L k a a
 |step {k a b c:Nat}:Edge L a b→Con L k b c→Con L (k+1) a c
def Conn (L:List (List Int)) (a b:Nat):Prop:=∃k,Con L k a b
theorem Con.mono {L:List (List Int)} {k a b:Nat} (h:Con L k a b):∀{k'},k≤k'→Con L k' a b:=by
 induction h with
 |refl k a=>intro k' _;exact .refl k' a
 |step he _ ih=>
  intro k' hk
  obtain⟨k'',rfl⟩:∃k'',k'=k''+1:=⟨k'-1,by omega⟩
  exact .step he (ih (by omega))
theorem Con.trans {L:List (List Int)} {k a b:Nat} (h:Con L k a b) {k' c:Nat} (h':Con L k' b c):Con L (k+k') a c:=by
 induction h with
 |refl k a=>exact h'.mono (by omega)
 |step he _ ih=>rw[show ∀x y:Nat,x+1+y=(x+y)+1 by omega];exact .step he (ih h')
theorem Edge.symm {L:List (List Int)} {a b:Nat} (h:Edge L a b):Edge L b a:=by
 obtain⟨e,h1,h2,h3⟩:=h;exact⟨e,h1,h3,h2⟩
theorem Conn.refl (L:List (List Int)) (a:Nat):Conn L a a:=⟨0,.refl 0 a⟩
theorem Conn.edge {L:List (List Int)} {a b:Nat} (h:Edge L a b):Conn L a b:=⟨1,.step h (.refl 0 b)⟩
theorem Conn.trans {L:List (List Int)} {a b c:Nat} (h:Conn L a b) (h':Conn L b c):Conn L a c:=by
 obtain⟨k,h⟩:=h;obtain⟨k',h'⟩:=h';exact⟨_,h.trans h'⟩
theorem Conn.symm {L:List (List Int)} {a b:Nat} (h:Conn L a b):Conn L b a:=by
 obtain⟨k,h⟩:=h
 induction h with
 |refl k a=>exact .refl L a
 |step he _ ih=>exact ih.trans (.edge he.symm)
def Lab (L:List (List Int)) (n:Nat) (P:List Int):Prop:=P.length=n∧∀u<n,0≤lb P u∧lb P u≤u∧Conn L u (lb P u).toNat
def Flat (L:List (List Int)) (P:List Int):Prop:=∀a b,Edge L a b→lb P a=lb P b
theorem Flat.conn {L:List (List Int)} {P:List Int} (h:Flat L P) {a b:Nat} (hc:Conn L a b):lb P a=lb P b:=by
 obtain⟨k,hc⟩:=hc
 induction hc with
 |refl k a=>rfl
 |step he _ ih=>exact(h _ _ he).trans ih
theorem lab_le {L:List (List Int)} {n:Nat} {P Q:List Int} (hP:Lab L n P) (hQ:Lab L n Q) (hf:Flat L Q):∀u<n,lb Q u≤lb P u:=by
 intro u hu
 obtain⟨h1,h2,h3⟩:=hP.2 u hu
 rw[hf.conn h3]
 have:=(hQ.2 (lb P u).toNat (by omega)).2.1
 omega
theorem lab_unique {L:List (List Int)} {n:Nat} {P Q:List Int} (hP:Lab L n P) (hfP:Flat L P) (hQ:Lab L n Q) (hfQ:Flat L Q):P=Q:=by
 apply List.ext_getElem (by rw[hP.1,hQ.1])
 intro u h1 h2
 rw[hP.1]at h1
 have a:=lab_le hP hQ hfQ u h1
 have b:=lab_le hQ hP hfP u h1
 have e1:lb P u=P[u]:=lb_eq (by rw[hP.1];exact h1)
 have e2:lb Q u=Q[u]:=lb_eq h2
 omega
def iot (n:Nat):List Int:=(List.range n).map Int.ofNat
@[simp] theorem iot_length (n:Nat):(iot n).length=n:=by simp[iot]
theorem iot_succ (n:Nat):iot (n+1)=iot n++[(n:Int)]:=by simp[iot,List.range_succ]
theorem lb_iot {n u:Nat} (h:u<n):lb (iot n) u=u:=by simp[lb,iot,h]
theorem lab_iot (L:List (List Int)) (n:Nat):Lab L n (iot n):=by
 refine⟨by simp,fun u hu=>?_⟩
 rw[lb_iot hu]
 exact⟨by omega,by omega,by simpa using Conn.refl L u⟩
def join2 (f t:Int) (P:List Int):List Int:=P.map fun p=>if p=f then t else p
@[simp] theorem join2_length (f t:Int) (P:List Int):(join2 f t P).length=P.length:=by simp[join2]
theorem lb_join2 {f t:Int} {P:List Int} {u:Nat} (h:u<P.length):lb (join2 f t P) u=if lb P u=f then t else lb P u:=by
 rw[lb_eq (by simpa using h),lb_eq h];simp[join2]
theorem lab_join2 {L:List (List Int)} {n:Nat} {P:List Int} (hP:Lab L n P) {a b:Nat} (ha:a<n) (hb:b<n) (he:Edge L a b):
 Lab L n (join2 (max (lb P a) (lb P b)) (min (lb P a) (lb P b)) P):=by
 refine⟨by simp[hP.1],fun u hu=>?_⟩
 rw[lb_join2 (by rw[hP.1];exact hu)]
 obtain⟨u1,u2,u3⟩:=hP.2 u hu
 obtain⟨a1,a2,a3⟩:=hP.2 a ha
 obtain⟨b1,b2,b3⟩:=hP.2 b hb
 have hab:=Conn.edge he
 split
 ·rename_i h
  refine⟨by omega,by omega,?_⟩
  rcases Int.le_total (lb P a) (lb P b)with hl|hl
  ·rw[Int.max_eq_right hl]at h;rw[Int.min_eq_left hl]
   rw[h]at u3
   exact u3.trans (b3.symm.trans (hab.symm.trans a3))
  ·rw[Int.max_eq_left hl]at h;rw[Int.min_eq_right hl]
   rw[h]at u3
   exact u3.trans (a3.symm.trans (hab.trans b3))
 ·exact⟨u1,u2,u3⟩
theorem join2_same {P:List Int} {f t:Int} {a b:Nat} (h:lb P a=lb P b) (ha:a<P.length) (hb:b<P.length):lb (join2 f t P) a=lb (join2 f t P) b:=by
 rw[lb_join2 ha,lb_join2 hb,h]
theorem join2_new {P:List Int} {a b:Nat} (ha:a<P.length) (hb:b<P.length):
 lb (join2 (max (lb P a) (lb P b)) (min (lb P a) (lb P b)) P) a=lb (join2 (max (lb P a) (lb P b)) (min (lb P a) (lb P b)) P) b:=by
 rw[lb_join2 ha,lb_join2 hb]
 split<;>split<;>omega
def cls (P:List Int) (n:Nat) (v:Int):List Int:=(iot n).filter fun u=>decide (lb P u.toNat=v)
def classes (P:List Int) (n:Nat) (k:Nat):List (List Int):=((iot k).filter fun v=>decide (lb P v.toNat=v)).map (cls P n)
theorem cls_succ (P:List Int) (i:Nat) (v:Int):cls P (i+1) v=cls P i v++if lb P i=v then[(i:Int)]else[]:=by
 unfold cls;rw[iot_succ,List.filter_append]
 congr 1
 simp only[List.filter_cons,Int.toNat_natCast,List.filter_nil,decide_eq_true_eq]
theorem classes_succ (P:List Int) (n k:Nat):classes P n (k+1)=classes P n k++if lb P k=k then[cls P n k]else[]:=by
 unfold classes;rw[iot_succ,List.filter_append,List.map_append]
 congr 1
 simp only[List.filter_cons,Int.toNat_natCast,List.filter_nil,decide_eq_true_eq]
 split<;>rfl
theorem countP_lt {α:Type} {p q:α→Bool}:∀{l:List α},(∀ x∈l,p x=true→q x=true)→(∃ x∈l,q x=true∧p x=false)→l.countP p<l.countP q
 |[],_,⟨x,hx,_⟩=>by simp at hx
 |a::l,h,⟨x,hx,hq,hp⟩=>by
  have hle:l.countP p≤l.countP q:=List.countP_mono_left fun x hx=>h x (List.mem_cons_of_mem _ hx)
  rcases List.mem_cons.1 hx with rfl|hx
  ·rw[List.countP_cons_of_pos hq,List.countP_cons_of_neg (by simp[hp])];omega
  ·have ih:=countP_lt (fun x hx=>h x (List.mem_cons_of_mem _ hx)) ⟨x,hx,hq,hp⟩
   cases ha:p a
   ·rw[List.countP_cons_of_neg (by simp[ha])]
    have:=List.countP_cons (p:=q) (a:=a) (l:=l)
    omega
   ·rw[List.countP_cons_of_pos ha,List.countP_cons_of_pos (h a (List.mem_cons_self ..) ha)];omega
open Classical in
theorem chain_stable_from {n c:Nat} (A:Nat→Nat→Prop) (h0:c≤(List.range n).countP (fun x=>decide (A 0 x))) (mono:∀k x,A k x→A (k+1) x) (bnd:∀k x,A k x→x<n)
 (stab:∀k,(∀ x,A (k+1) x→A k x)→∀x,A (k+2) x→A (k+1) x) (k x:Nat) (h:A k x):A (n-c) x:=by
 have mono':∀j k,j≤k→∀x,A j x→A k x:=by
  intro j k hjk
  induction hjk with
  |refl=>exact fun x h=>h
  |step _ ih=>exact fun x h=>mono _ _ (ih x h)
 have stab':∀j,(∀ x,A (j+1) x→A j x)→∀m x,A (j+m) x→A j x:=by
  intro j hj
  have hs:∀m x,A (j+m+1) x→A (j+m) x:=by
   intro m
   induction m with
   |zero=>exact hj
   |succ m ih=>exact stab (j+m) ih
  intro m
  induction m with
  |zero=>exact fun x h=>h
  |succ m ih=>exact fun x h=>ih x (hs m x h)
 have key:∀j,(∃ i,i≤j∧∀x,A (i+1) x→A i x)∨j+c≤(List.range n).countP (fun x=>decide (A j x)):=by
  intro j
  induction j with
  |zero=>exact .inr (by omega)
  |succ j ih=>
   rcases ih with⟨i,hi,hs⟩|hc
   ·exact .inl ⟨i,by omega,hs⟩
   ·by_cases hs:∀x,A (j+1) x→A j x
    ·exact .inl ⟨j,by omega,hs⟩
    ·refine .inr ?_
     obtain⟨x,hx⟩:=Classical.not_forall.1 hs
     obtain⟨h1,h2⟩:=Classical.not_imp.1 hx
     have:=countP_lt (l:=List.range n) (p:=fun x=>decide (A j x)) (q:=fun x=>decide (A (j+1) x)) (fun x _ h=>by simpa using mono j x (by simpa using h)) ⟨x,by simpa using bnd _ _ h1,by simpa using h1,by simpa using h2⟩
     omega
 have hle0:=List.countP_le_length (p:=fun x=>decide (A 0 x)) (l:=List.range n)
 rw[List.length_range]at hle0
 rcases key (n-c)with⟨i,hi,hs⟩|hc
 ·rcases Nat.le_total k i with hk|hk
  ·exact mono' i _ hi x (mono' k i hk x h)
  ·obtain⟨m,rfl⟩:∃m,k=i+m:=⟨k-i,by omega⟩
   exact mono' i _ hi x (stab' i hs m x h)
 ·have hle:=List.countP_le_length (p:=fun x=>decide (A (n-c) x)) (l:=List.range n)
  rw[List.length_range]at hle
  have:=List.countP_eq_length.1 (show (List.range n).countP (fun x=>decide (A (n-c) x))=(List.range n).length by rw[List.length_range];omega) x (by simpa using bnd _ _ h)
  simpa using this
theorem chain_stable {n:Nat} (A:Nat→Nat→Prop) (mono:∀k x,A k x→A (k+1) x) (bnd:∀k x,A k x→x<n)
 (stab:∀k,(∀ x,A (k+1) x→A k x)→∀x,A (k+2) x→A (k+1) x) (k x:Nat) (h:A k x):A n x:=
 chain_stable_from (c:=0) A (Nat.zero_le _) mono bnd stab k x h
theorem Con.snoc {L:List (List Int)} {k a b:Nat} (h:Con L k a b) {c:Nat} (he:Edge L b c):Con L (k+1) a c:=h.trans (.step he (.refl 0 c))
theorem Con.inv {L:List (List Int)} {k a c:Nat} (h:Con L k a c):a=c∨∃k' b,k=k'+1∧Con L k' a b∧Edge L b c:=by
 induction h with
 |refl k a=>exact .inl rfl
 |@step k a b c he h ih=>
  rcases ih with rfl|⟨k',b',rfl,h1,h2⟩
  ·exact .inr ⟨k,a,rfl,.refl k a,he⟩
  ·exact .inr ⟨k'+1,b',rfl,.step he h1,h2⟩
theorem Vld.lt {n:Int} {L:List (List Int)} (h:Vld n L) {a b:Nat} (he:Edge L a b):(a:Int)<n∧(b:Int)<n:=by
 obtain⟨e,h1,h2,h3⟩:=he
 exact⟨((h.2.2.2 e h1).2.1 _ h2).2,((h.2.2.2 e h1).2.1 _ h3).2⟩
theorem con_bound {n:Nat} {L:List (List Int)} (hv:Vld n L) {a b:Nat} (ha:a<n) (h:Conn L a b):Con L n a b:=by
 obtain⟨k,h⟩:=h
 refine chain_stable (n:=n) (fun k x=>Con L k a x) (fun k x h=>h.mono (by omega)) (fun k x h=>?_) (fun k hs x h=>?_) k b h
 ·rcases h.inv with rfl|⟨_,_,_,_,he⟩
  ·exact ha
  ·have:=(hv.lt he).2;omega
 ·rcases h.inv with rfl|⟨k',b',hk,h1,he⟩
  ·exact .refl _ _
  ·obtain rfl:k'=k+1:=by omega
   exact(hs _ h1).snoc he
def Near (L:List (List Int)) (k:Nat) (P:List Int):Prop:=∀u w,Con L k u w→u<P.length→lb P u≤w
theorem near_flat {n:Nat} {L:List (List Int)} {P:List Int} (hv:Vld n L) (hP:Lab L n P) (h:Near L n P):Flat L P:=by
 have hle:∀a b,Edge L a b→lb P a≤lb P b:=by
  intro a b he
  have hlt:=hv.lt he
  obtain⟨h1,h2,h3⟩:=hP.2 b (by omega)
  have:=h a (lb P b).toNat (con_bound hv (by omega) ((Conn.edge he).trans h3)) (by rw[hP.1];omega)
  omega
 intro a b he
 have h1:=hle a b he
 have h2:=hle b a he.symm
 omega
def Sinks (L:List (List Int)) (P Q:List Int):Prop:=(∀ u,u<P.length→lb Q u≤lb P u)∧∀a b,Edge L a b→lb Q a≤lb P b
theorem near_zero {L:List (List Int)} {n:Nat} {P:List Int} (hP:Lab L n P):Near L 0 P:=by
 intro u w h hu
 rw[hP.1]at hu
 cases h
 exact(hP.2 u hu).2.1
theorem near_succ {n:Nat} {L:List (List Int)} {P Q:List Int} {k:Nat} (hv:Vld n L) (hP:Lab L n P) (hQ:Lab L n Q) (h:Near L k P) (hs:Sinks L P Q):Near L (k+1) Q:=by
 intro u w hc hu
 rw[hQ.1]at hu
 cases hc with
 |refl=>exact(hQ.2 _ hu).2.1
 |step he hc=>
  have h1:=hs.2 _ _ he
  have h2:=h _ _ hc (by rw[hP.1];have:=(hv.lt he).2;omega)
  omega
end AI
end Go.Proofs.YtlbjddhbkhgceaaGreatDoor
