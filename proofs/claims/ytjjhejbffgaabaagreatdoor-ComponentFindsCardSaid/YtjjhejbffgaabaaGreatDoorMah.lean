/- A call of an entry that the model answers. component.Topo: its pieces. Maps of the call's own: entries struck out; maps to truth values. Tarjan's algorithm: what holds of its state, and its steps: plain. Tarjan's algorithm: a component leaves the stack: plain. -/
import Derived.Test.YtjjhejbffgaabaaGreatDoorPVa
import Derived.Test.YtjjhejbffgaabaaGreatDoorMag
import Derived.Test.YtjjhejbffgaabaaGreatDoorPCore
set_option linter.unusedVariables false
set_option maxRecDepth 4000
namespace Go.Proofs.YtjjhejbffgaabaaGreatDoor
namespace AI
theorem Yw {AP:Nat→Option Ji} {f:Nat} {sp:List AV→Ai→Option (AA×Ai)} {args:List AV} {s s':Ai} {out:AA} {K:AA→Ai→Prop} (hf:AP f=some (.ext sp)) (h:sp args s=some (out,s')) (hK:K out s'):BL AP f args s K:=
 ⟨1,out,s',by simp only[run,hf];exact h,hK⟩
theorem Ti {p:Int→Int}:∀{S:List Int} {x y:Int},x∉S→p x=y→BJ (Aj S p) x y=Aj (S++[x]) p
 |[],x,y,_,h=>by subst h;rfl
 |i::S,x,y,h,hy=>by
  show(if x=i then(x,y)::Aj S p else(i,p i)::BJ (Aj S p) x y)=(i,p i)::Aj (S++[x]) p
  rw[if_neg (fun e=>h (by rw[e];simp)),Ti (fun k=>h (List.mem_cons_of_mem _ k)) hy]
theorem msN {S:List Int} {p:Int→Int} {x y:Int} {K:List (AV×AV)→Prop} (hx:x∉S) (hy:p x=y) (h:K (Bq (Aj (S++[x]) p))):MW .int (.int .i64 x) (.int .i64 y) (Bq (Aj S p)) K:=
 Za (by rw[Ti hx hy];exact h)
theorem YO {S:List Int} {p:Int→Int}:(Bq (Aj S p)).length=S.length:=by simp[Bq,FM,Aj]
theorem Acx {S:List Int} {p:Int→Int} {x:Int} (hx:x∈S):∀i0,∃i,∃h:i<S.length,S[i]=x∧findKey .int (.int .i64 x) (Bq (Aj S p)) i0=some (some (i0+i,.int .i64 (p x))):=by
 induction S with
 |nil=>cases hx
 |cons y S ih=>
  intro i0
  by_cases e:x=y
  ·subst e
   refine⟨0,by simp,rfl,?_⟩
   simp[Bq,FM,Aj,findKey,BX]
  ·rcases List.mem_cons.1 hx with h|h
   ·exact absurd h e
   ·obtain⟨i,hi,h1,h2⟩:=ih h (i0+1)
    refine⟨i+1,by simpa using hi,by simpa using h1,?_⟩
    have hne:(x==y)=false:=by simpa using e
    have e1:findKey .int (.int .i64 x) (Bq (Aj (y::S) p)) i0=findKey .int (.int .i64 x) (Bq (Aj S p)) (i0+1):=by
     simp[Bq,FM,Aj,findKey,BX,hne]
    rw[e1,h2,show i0+1+i=i0+(i+1) by omega]
theorem erase_filter {S:List Int} {x:Int} (hn:S.Nodup):∀{i:Nat} (h:i<S.length),S[i]=x→S.eraseIdx i=S.filter fun y=>decide (y≠x):=by
 induction S with
 |nil=>intro i h;simp at h
 |cons y S ih=>
  intro i h hx
  have hn':=List.nodup_cons.1 hn
  cases i with
  |zero=>
   have:y=x:=hx
   subst this
   show S=_
   rw[List.filter_cons,if_neg (by simp)]
   refine(List.filter_eq_self.2 fun z hz=>?_).symm
   simpa using fun e:z=y=>hn'.1 (by rw[← e];exact hz)
  |succ i=>
   have hx':S[i]'(by simpa using h)=x:=hx
   have hne:y≠x:=fun e=>hn'.1 (by rw[e,←hx'];exact List.getElem_mem _)
   rw[List.eraseIdx_cons_succ,List.filter_cons,if_pos (by simpa using hne),ih hn'.2 (by simpa using h) hx']
theorem OD {α β:Type} (f:α→β):∀(l:List α) (i:Nat),(l.map f).eraseIdx i=(l.eraseIdx i).map f
 |[],_=>rfl
 |x::l,0=>rfl
 |x::l,i+1=>congrArg (f x::·) (OD f l i)
theorem VL {S:List Int} {p:Int→Int} {i:Nat}:(Bq (Aj S p)).eraseIdx i=Bq (Aj (S.eraseIdx i) p):=by
 show((S.map fun i=>(i,p i)).map fun q=>(AV.int .i64 q.1,AV.int .i64 q.2)).eraseIdx i=_
 rw[OD,OD]
 rfl
theorem fkD {S:List Int} {p:Int→Int} {x:Int} {K:Option (Nat×AV)→Prop} (hx:x∈S) (hn:S.Nodup) (h:∀i,(Bq (Aj S p)).eraseIdx i=Bq (Aj (S.filter fun y=>decide (y≠x)) p)→K (some (i,.int .i64 (p x)))):Hy .int (.int .i64 x) (Bq (Aj S p)) K:=by
 obtain⟨i,hi,h1,h2⟩:=Acx (p:=p) hx 0
 rw[Nat.zero_add]at h2
 exact⟨⟨_,h2,h i (by rw[VL,erase_filter hn hi h1])⟩⟩
theorem AcN {Lp Q9:Obj} {E:List (AV×AV)} {g c:Nat}:BL (Ae tab) 39 [.map 1 g] ⟨[Lp,.mp g true E,Q9],c⟩ fun out s'=>∃c',out=.ok (.fn 70 [.ref 3 c 0 0])∧s'=⟨[Lp,.mp g true E,Q9,.arr c 1 true false [.map 1 g]],c'⟩:=by
 refine BI rfl rfl ?_
 (conv=>whnf);repeat' (first  |(refine kA ?_;conv=>whnf)|(refine Br.mk (fun hc=>?_) fun hc=>?_<;>first|exact hc.elim|conv=>whnf)|(refine kB ?_))
 all_goals first|exact⟨_,rfl,rfl⟩
theorem Acy {l:List Int} (h:l.Pairwise (· <·)):Pj l=l:=FW (NI l) (h.imp fun h=>by omega) (Ho l)
theorem VN (S:List Int) (p:Int→Int):Um (Bq (Aj S p))=some S:=by
 have:=VJ (S.map fun i=>(i,AV.int .i64 (p i)))
 rw[List.map_map,List.map_map]at this
 have e1:(S.map ((fun p:Int×AV=>(AV.int .i64 p.1,p.2))∘fun i=>(i,AV.int .i64 (p i))))=Bq (Aj S p):=by simp[Bq,FM,Aj]
 rw[e1]at this
 rw[this]
 congr 1
 exact List.map_id'' (fun _=>rfl) S
theorem AcO {Lp Q9:Obj} {S:List Int} {p:Int→Int} {g k c:Nat} (h0:S≠[]) (hi:S.Pairwise (· <·)) (hr:∀z∈S,1≤z∧z≤1000000) (hl:S.length≤100000):
 BL (Ae tab) 38 [.fn 70 [.ref 3 k 0 0]] ⟨[Lp,.mp g true (Bq (Aj S p)),Q9,.arr k 1 true false [.map 1 g]],c⟩ fun out s'=>∃c',out=.ok (.own 4 c 0 S.length)∧s'=⟨[Lp,.mp g true (Bq (Aj S p)),Q9,.arr k 1 true false [.map 1 g],.arr c 1 true true (vs (.int .i64) S)],c'⟩:=by
 refine Yw (sp:=N9) rfl (out:=.ok (.own 4 c 0 S.length)) (s':=⟨[Lp,.mp g true (Bq (Aj S p)),Q9,.arr k 1 true false [.map 1 g],.arr c 1 true true (vs (.int .i64) S)],c+1⟩) ?_ ⟨_,rfl,rfl⟩
 have hd:=VN S p
 obtain⟨x,l,rfl⟩:∃x l,S=x::l:=by
  cases S with
  |nil=>exact absurd rfl h0
  |cons x l=>exact⟨x,l,rfl⟩
 have hnd:(x::l).Nodup:=hi.imp fun h=>by omega
 unfold N9
 simp only[Nat.beq_refl,cond_true,nth,and_self,if_true,hd]
 rw[if_pos ⟨hnd,fun z hz=>by have:=hr z hz;omega,by omega⟩,Acy hi]
 rfl
section
variable {α β:Type} [DecidableEq α]
def Ii:List (α×β)→α→List (α×β)
 |[],_=>[]
 |(k',v)::M,k=>if k=k' then M else(k',v)::Ii M k
def I7 (M:List (α×β)):Prop:=(M.map (·.1)).Nodup
theorem I8 {M:List (α×β)} {k:α}:Ba M k=none↔k∉M.map (·.1):=by
 induction M with
 |nil=>simp[Ba]
 |cons p M ih=>
  obtain⟨a,b⟩:=p
  by_cases h:k=a
  ·subst h;simp[Ba]
  ·rw[show Ba ((a,b)::M) k=Ba M k from if_neg h,ih,List.map_cons,List.mem_cons]
   simp[h]
theorem Yt {M:List (α×β)} (hn:I7 M) {k k':α}:Ba (Ii M k) k'=if k'=k then none else Ba M k':=by
 induction M with
 |nil=>simp[Ii,Ba]
 |cons p M ih=>
  obtain⟨a,b⟩:=p
  have hn':=List.nodup_cons.1 hn
  by_cases h:k=a
  ·subst h
   rw[show Ii ((k,b)::M) k=M from if_pos rfl]
   by_cases h1:k'=k
   ·subst h1
    rw[if_pos rfl]
    exact I8.2 hn'.1
   ·rw[if_neg h1]
    simp only[Ba,if_neg h1]
  ·rw[show Ii ((a,b)::M) k=(a,b)::Ii M k from if_neg h]
   simp only[Ba,ih hn'.2]
   by_cases h1:k'=a
   ·subst h1;rw[if_pos rfl,if_neg (fun e=>h e.symm),if_pos rfl]
   ·rw[if_neg h1,if_neg h1]
theorem Yu {M:List (α×β)} {k x:α} (h:x∈(Ii M k).map (·.1)):x∈M.map (·.1):=by
 induction M with
 |nil=>exact h
 |cons p M ih=>
  obtain⟨a,b⟩:=p
  by_cases e:k=a
  ·rw[show Ii ((a,b)::M) k=M from if_pos e]at h
   exact List.mem_cons_of_mem _ h
  ·rw[show Ii ((a,b)::M) k=(a,b)::Ii M k from if_neg e]at h
   rcases List.mem_cons.1 h with h|h
   ·exact h▸List.mem_cons_self ..
   ·exact List.mem_cons_of_mem _ (ih h)
theorem Wp {M:List (α×β)} (hn:I7 M) (k:α):I7 (Ii M k):=by
 induction M with
 |nil=>exact hn
 |cons p M ih=>
  obtain⟨a,b⟩:=p
  have hn':=List.nodup_cons.1 hn
  by_cases e:k=a
  ·rw[show Ii ((a,b)::M) k=M from if_pos e];exact hn'.2
  ·rw[show Ii ((a,b)::M) k=(a,b)::Ii M k from if_neg e]
   exact List.nodup_cons.2 ⟨fun h=>hn'.1 (Yu h),ih hn'.2⟩
theorem Ol {M:List (α×β)} {k x:α} {v:β}:x∈(BJ M k v).map (·.1)↔x=k∨x∈M.map (·.1):=by
 have h:=@I8 α β _ (BJ M k v) x
 have h2:=@I8 α β _ M x
 rw[CX]at h
 by_cases e:x=k
 ·subst e
  rw[if_pos rfl]at h
  refine⟨fun _=>.inl rfl,fun _=>Classical.byContradiction fun hc=>by have:=h.2 hc;cases this⟩
 ·rw[if_neg e]at h
  constructor
  ·intro hx
   refine .inr (Classical.byContradiction fun hc=>(h.1 (h2.2 hc)) hx)
  ·rintro(hx|hx)
   ·exact absurd hx e
   ·exact Classical.byContradiction fun hc=>(h2.1 (h.2 hc)) hx
theorem Qe {M:List (α×β)} (hn:I7 M) (k:α) (v:β):I7 (BJ M k v):=by
 induction M with
 |nil=>simp[I7,BJ]
 |cons p M ih=>
  obtain⟨a,b⟩:=p
  have hn':=List.nodup_cons.1 hn
  by_cases e:k=a
  ·subst e
   rw[show BJ ((k,b)::M) k v=(k,v)::M from if_pos rfl]
   exact List.nodup_cons.2 hn'
  ·rw[show BJ ((a,b)::M) k v=(a,b)::BJ M k v from if_neg e]
   refine List.nodup_cons.2 ⟨fun h=>?_,ih hn'.2⟩
   rcases Ol.1 h with h|h
   ·exact e h.symm
   ·exact hn'.1 h
theorem Z4 {M:List (α×β)} {k:α} {v:β} (h:Ba M k=none):(BJ M k v).length=M.length+1:=by
 induction M with
 |nil=>rfl
 |cons p M ih=>
  obtain⟨a,b⟩:=p
  by_cases e:k=a
  ·subst e;simp[Ba]at h
  ·simp only[Ba,if_neg e]at h
   rw[show BJ ((a,b)::M) k v=(a,b)::BJ M k v from if_neg e,List.length_cons,ih h,List.length_cons]
variable {fk:α→AV} {fv:β→AV} {t:Jj}
theorem UJ (hk:∀a b,BX t (fk a) (fk b)=some (decide (a=b))) (k:α):∀(M:List (α×β)) (i:Nat),
 (Ba M k=none∧findKey t (fk k) (FM fk fv M) i=some none)∨
 ∃j v,Ba M k=some v∧findKey t (fk k) (FM fk fv M) i=some (some (i+j,fv v))∧(FM fk fv M).eraseIdx j=FM fk fv (Ii M k)
 |[],i=>.inl ⟨rfl,rfl⟩
 |(a,b)::M,i=>by
  by_cases h:k=a
  ·subst h
   refine .inr ⟨0,b,by simp[Ba],?_,?_⟩
   ·simp only[FM,List.map_cons,findKey,hk,decide_true,Nat.add_zero]
   ·rw[show Ii ((k,b)::M) k=M from if_pos rfl];rfl
  ·have hd:Ii ((a,b)::M) k=(a,b)::Ii M k:=if_neg h
   rcases UJ hk k M (i+1)with⟨h1,h2⟩|⟨j,v,h1,h2,h3⟩
   ·refine .inl ⟨by simp[Ba,h,h1],?_⟩
    simp only[FM,List.map_cons,findKey,hk,decide_eq_false h]at h2 ⊢
    exact h2
   ·refine .inr ⟨j+1,v,by simp[Ba,h,h1],?_,?_⟩
    ·simp only[FM,List.map_cons,findKey,hk,decide_eq_false h]at h2 ⊢
     rw[h2];congr 3;omega
    ·rw[hd]
     show(fk a,fv b)::(FM fk fv M).eraseIdx j=(fk a,fv b)::FM fk fv (Ii M k)
     rw[h3]
theorem Yv (hk:∀a b,BX t (fk a) (fk b)=some (decide (a=b))) {M:List (α×β)} {k:α} {K:Option (Nat×AV)→Prop}
 (h1:Ba M k=none→K none) (h2:∀i v,Ba M k=some v→(FM fk fv M).eraseIdx i=FM fk fv (Ii M k)→K (some (i,fv v))):Hy t (fk k) (FM fk fv M) K:=by
 rcases UJ (fv:=fv) hk k M 0 with⟨g1,g2⟩|⟨j,v,g1,g2,g3⟩
 ·exact⟨_,g2,h1 g1⟩
 ·rw[Nat.zero_add]at g2
  exact⟨_,g2,h2 _ _ g1 g3⟩
end
abbrev Jm (M:List (Int×Bool)):List (AV×AV):=FM (.int .i64) .bool M
theorem fkT {M:List (Int×Bool)} {k:Int} {K:Option (Nat×AV)→Prop}
 (h1:Ba M k=none→K none) (h2:∀i v,Ba M k=some v→(Jm M).eraseIdx i=Jm (Ii M k)→K (some (i,.bool v))):Hy .int (.int .i64 k) (Jm M) K:=Yv Fe h1 h2
theorem msT {M:List (Int×Bool)} {k:Int} {v:Bool} {K:List (AV×AV)→Prop} (h:K (Jm (BJ M k v))):MW .int (.int .i64 k) (.bool v) (Jm M) K:=LU Fe h
section
inductive Ih (nx:Int→List Int) (a:Int):Int→Prop
 |refl:Ih nx a a
 |step {b c:Int}:Ih nx a b→c∈nx b→Ih nx a c
theorem Ih.trans {nx:Int→List Int} {a b c:Int} (h:Ih nx a b) (k:Ih nx b c):Ih nx a c:=by
 induction k with
 |refl=>exact h
 |step _ hc ih=>exact .step ih hc
theorem Ih.one {nx:Int→List Int} {a b:Int} (h:b∈nx a):Ih nx a b:=.step .refl h
theorem Ih.stay {nx:Int→List Int} {C:Int→Prop} (hC:∀v,C v→∀w∈nx v,C w) {a b:Int} (h:Ih nx a b) (ha:C a):C b:=by
 induction h with
 |refl=>exact ha
 |step _ hc ih=>exact hC _ ih _ hc
def Least (nx:Int→List Int) (v x:Int):Prop:=Ih nx v x∧Ih nx x v∧∀u,Ih nx v u→Ih nx u v→x≤u
def upd {α:Type} (f:Int→α) (a:Int) (b:α):Int→α:=fun x=>if x=a then b else f x
theorem Et {α:Type} {f:Int→α} {a:Int} {b:α}:upd f a b a=b:=if_pos rfl
theorem upd_ne {α:Type} {f:Int→α} {a x:Int} {b:α} (h:x≠a):upd f a b x=f x:=if_neg h
structure TJ where
 n:Nat
 vis:Int→Prop
 ix:Int→Nat
 low:Int→Nat
 S:List Int
 T:List (Int×Nat)
 sm:Int→Int
def LP (T:List (Int×Nat)) (v:Int):Prop:=∀p∈T,p.1≠v
structure EO (nx:Int→List Int) (s:TJ):Prop where
 Zb:∀v,s.vis v→s.ix v<s.n
 inj:∀v w,s.vis v→s.vis w→s.ix v=s.ix w→v=w
 sV:∀v∈s.S,s.vis v
 sI:s.S.Pairwise (fun a b=>s.ix a<s.ix b)
 tS:∀p∈s.T,p.1∈s.S
 tI:s.T.Pairwise (fun a b=>s.ix b.1<s.ix a.1)
 tR:∀p∈s.T,∀v∈s.S,s.ix p.1≤s.ix v→Ih nx p.1 v
 tA:∀p∈s.T,p.2≤(nx p.1).length∧∀j w,j<p.2→(nx p.1)[j]?=some w→s.vis w
 lf:∀v,s.vis v→LP s.T v→∀w∈nx v,s.vis w
 pp:∀v,s.vis v→v∉s.S→∀w∈nx v,s.vis w∧w∉s.S
 lo:∀v∈s.S,s.low v≤s.ix v∧∃w∈s.S,s.ix w=s.low v∧Ih nx v w
 le:∀v∈s.S,∀w∈s.S,w∈nx v→(∀ p∈s.T,p.1=v→∃j,j<p.2∧(nx v)[j]?=some w)→s.low v≤s.ix w
 lc:∀v∈s.S,LP s.T v→∀p∈s.T,s.ix p.1<s.ix v→(∀ q∈s.T,s.ix q.1<s.ix v→s.ix q.1≤s.ix p.1)→s.low p.1≤s.low v
 ll:∀v∈s.S,LP s.T v→s.low v<s.ix v
 rt:∀v∈s.S,∃p∈s.T,s.ix p.1≤s.ix v
 ok:∀v,s.vis v→v∉s.S→Least nx v (s.sm v)
variable {nx:Int→List Int} {s:TJ}
theorem EO.none {ix low:Int→Nat} {sm:Int→Int}:EO nx ⟨0,fun _=>False,ix,low,[],[],sm⟩ where
 Zb:=fun _ h=>h.elim
 inj:=fun _ _ h=>h.elim
 sV:=fun _ h=>by cases h
 sI:=List.Pairwise.nil
 tS:=fun _ h=>by cases h
 tI:=List.Pairwise.nil
 tR:=fun _ h=>by cases h
 tA:=fun _ h=>by cases h
 lf:=fun _ h=>h.elim
 pp:=fun _ h=>h.elim
 lo:=fun _ h=>by cases h
 le:=fun _ h=>by cases h
 lc:=fun _ h=>by cases h
 ll:=fun _ h=>by cases h
 rt:=fun _ h=>by cases h
 ok:=fun _ h=>h.elim
abbrev LM (s:TJ) (m:Int) (T1:List (Int×Nat)):TJ:=⟨s.n+1,fun v=>s.vis v∨v=m,upd s.ix m s.n,upd s.low m s.n,s.S++[m],(m,0)::T1,s.sm⟩
structure Goes (nx:Int→List Int) (s:TJ) (m:Int) (T1:List (Int×Nat)):Prop where
 nm:T1.map Prod.fst=s.T.map Prod.fst
 old:∀p∈T1,p∈s.T∨(∃ q,s.T.head?=some q∧q.1=p.1∧p.2=q.2+1∧(nx p.1)[q.2]?=some m)
 top:∀p,s.T.head?=some p→m∈nx p.1
theorem MP {T1 T:List (Int×Nat)} (h:T1.map Prod.fst=T.map Prod.fst) {v:Int}:(∃ p∈T1,p.1=v)↔∃p∈T,p.1=v:=by
 have e:∀{L:List (Int×Nat)},(∃ p∈L,p.1=v)↔v∈L.map Prod.fst:=fun{L}=>by rw[List.mem_map]
 rw[e,e,h]
theorem V9 {T1 T:List (Int×Nat)} (h:T1.map Prod.fst=T.map Prod.fst) {p:Int×Nat} (hp:p∈T1):∃q∈T,q.1=p.1:=(MP h).1 ⟨p,hp,rfl⟩
theorem AbL {T1 T:List (Int×Nat)} (h:T1.map Prod.fst=T.map Prod.fst) {v:Int}:LP T1 v↔LP T v:=by
 have:=MP h (v:=v)
 unfold LP
 constructor
 ·intro k p hp e;obtain⟨q,hq,eq⟩:=this.2 ⟨p,hp,e⟩;exact k q hq eq
 ·intro k p hp e;obtain⟨q,hq,eq⟩:=this.1 ⟨p,hp,e⟩;exact k q hq eq
theorem Adm {R:Int→Int→Prop} {T1 T:List (Int×Nat)} (h:T1.map Prod.fst=T.map Prod.fst) (k:T.Pairwise fun a b=>R a.1 b.1):T1.Pairwise fun a b=>R a.1 b.1:=by
 have e:∀{L:List (Int×Nat)},(L.map Prod.fst).Pairwise R↔L.Pairwise fun a b=>R a.1 b.1:=fun{L}=>List.pairwise_map
 rw[← e]at k ⊢
 rw[h];exact k
theorem EO.enter (h:EO nx s) {m:Int} {T1:List (Int×Nat)} (hm:¬s.vis m) (g:Goes nx s m T1):EO nx (LM s m T1):=by
 have AbM:upd s.ix m s.n m=s.n:=Et
 have hix:∀v,s.vis v→upd s.ix m s.n v=s.ix v:=fun v hv=>upd_ne fun e=>hm (e▸hv)
 have hlow:∀v,s.vis v→upd s.low m s.n v=s.low v:=fun v hv=>upd_ne fun e=>hm (e▸hv)
 have hS:∀v∈s.S++[m],v∈s.S∨v=m:=fun v hv=>by simpa using hv
 have hTS:∀p∈T1,p.1∈s.S:=fun p hp=>by obtain⟨q,hq,e⟩:=V9 g.nm hp;rw[← e];exact h.tS q hq
 have ZO:∀p∈T1,s.vis p.1:=fun p hp=>h.sV _ (hTS p hp)
 have XA:m∉s.S:=fun hx=>hm (h.sV _ hx)
 have hoff:∀v,LP ((m,0)::T1) v→v≠m∧LP s.T v:=fun v hv=>⟨fun e=>hv (m,0) (by simp) e.symm,(AbL g.nm).1 fun p hp=>hv p (by simp[hp])⟩
 have htop:∀v∈s.S,∃p,s.T.head?=some p∧True:=fun v hv=>by
  obtain⟨p,hp,_⟩:=h.rt v hv
  cases hT:s.T with
  |nil=>rw[hT]at hp;cases hp
  |cons a r=>exact⟨a,rfl,trivial⟩
 have hhead:∀p,s.T.head?=some p→∀q∈s.T,s.ix q.1≤s.ix p.1:=fun p hp q hq=>by
  have hI:=h.tI
  cases hT:s.T with
  |nil=>rw[hT]at hq;cases hq
  |cons a r=>
   rw[hT]at hp hq hI
   simp only[List.head?_cons,Option.some.injEq]at hp
   subst hp
   rcases List.mem_cons.1 hq with rfl|hq
   ·exact Nat.le_refl _
   ·exact Nat.le_of_lt ((List.pairwise_cons.1 hI).1 q hq)
 refine⟨?_,?_,?_,?_,?_,?_,?_,?_,?_,?_,?_,?_,?_,?_,?_,?_⟩
 ·rintro v (hv|rfl)
  ·show upd s.ix m s.n v<s.n+1
   rw[hix v hv];have:=h.Zb v hv;omega
  ·show upd s.ix v s.n v<s.n+1
   rw[Et];omega
 ·rintro v w (hv|rfl) (hw|rfl) e
  ·replace e:upd s.ix m s.n v=upd s.ix m s.n w:=e
   rw[hix v hv,hix w hw]at e;exact h.inj v w hv hw e
  ·replace e:upd s.ix w s.n v=upd s.ix w s.n w:=e
   rw[hix v hv,Et]at e;have:=h.Zb v hv;omega
  ·replace e:upd s.ix v s.n v=upd s.ix v s.n w:=e
   rw[hix w hw,Et]at e;have:=h.Zb w hw;omega
  ·rfl
 ·intro v hv
  rcases hS v hv with hv|rfl
  ·exact .inl (h.sV v hv)
  ·exact .inr rfl
 ·show(s.S++[m]).Pairwise fun a b=>upd s.ix m s.n a<upd s.ix m s.n b
  rw[List.pairwise_append]
  refine⟨h.sI.imp_of_mem fun ha hb hab=>by rw[hix _ (h.sV _ ha),hix _ (h.sV _ hb)];exact hab,List.pairwise_singleton _ _,fun a ha b hb=>?_⟩
  rw[List.mem_singleton]at hb
  subst hb
  rw[hix a (h.sV a ha),AbM];exact h.Zb a (h.sV a ha)
 ·intro p hp
  show p.1∈s.S++[m]
  rcases List.mem_cons.1 hp with rfl|hp
  ·simp
  ·simp[hTS p hp]
 ·show((m,0)::T1).Pairwise fun a b=>upd s.ix m s.n b.1<upd s.ix m s.n a.1
  refine List.pairwise_cons.2 ⟨fun p hp=>?_,?_⟩
  ·rw[hix _ (ZO p hp),AbM];exact h.Zb _ (ZO p hp)
  ·have hp:=Adm (R:=fun a b=>s.ix b<s.ix a) g.nm h.tI
   exact hp.imp_of_mem fun ha hb hab=>by rw[hix _ (ZO _ ha),hix _ (ZO _ hb)];exact hab
 ·intro p hp v hv hle
  replace hle:upd s.ix m s.n p.1≤upd s.ix m s.n v:=hle
  rcases List.mem_cons.1 hp with rfl|hp
  ·rcases hS v hv with hv|rfl
   ·rw[hix v (h.sV v hv)]at hle
    replace hle:upd s.ix m s.n m≤s.ix v:=hle
    rw[AbM]at hle;have:=h.Zb v (h.sV v hv);omega
   ·exact .refl
  ·obtain⟨q,hq,e⟩:=V9 g.nm hp
   have hpS:=hTS p hp
   rcases hS v hv with hv|rfl
   ·rw[hix _ (ZO p hp),hix v (h.sV v hv)]at hle
    rw[← e]at hle ⊢;exact h.tR q hq v hv hle
   ·obtain⟨r,hr,_⟩:=htop p.1 hpS
    have h1:=hhead r hr q hq
    have hrm:r∈s.T:=List.mem_of_head? hr
    rw[← e]
    exact .step (h.tR q hq r.1 (h.tS r hrm) h1) (g.top r hr)
 ·intro p hp
  rcases List.mem_cons.1 hp with rfl|hp
  ·exact⟨Nat.zero_le _,fun j w hj=>absurd hj (Nat.not_lt_zero _)⟩
  ·rcases g.old p hp with hq|⟨q,hq,e1,e2,e3⟩
   ·exact⟨(h.tA p hq).1,fun j w hj hw=>.inl ((h.tA p hq).2 j w hj hw)⟩
   ·have hqm:q∈s.T:=List.mem_of_head? hq
    have hk:=h.tA q hqm
    rw[e1]at hk
    have hlt:q.2<(nx p.1).length:=(List.getElem?_eq_some_iff.1 e3).1
    refine⟨by omega,fun j w hj hw=>?_⟩
    by_cases hjq:j<q.2
    ·exact .inl (hk.2 j w hjq hw)
    ·obtain rfl:j=q.2:=by omega
     rw[e3]at hw
     exact .inr (Option.some.inj hw).symm
 ·rintro v hv ho w hw
  obtain⟨o1,o2⟩:=hoff v ho
  rcases hv with hv|hv
  ·exact .inl (h.lf v hv o2 w hw)
  ·exact absurd hv o1
 ·rintro v hv hns w hw
  have ZP:v∉s.S∧v≠m:=⟨fun h=>hns (by show v∈s.S++[m];simp[h]),fun h=>hns (by show v∈s.S++[m];simp[h])⟩
  rcases hv with hv|hv
  ·obtain⟨a,b⟩:=h.pp v hv ZP.1 w hw
   refine⟨.inl a,fun hx=>?_⟩
   rcases hS w hx with hx|rfl
   ·exact b hx
   ·exact hm a
  ·exact absurd hv ZP.2
 ·intro v hv
  show upd s.low m s.n v≤upd s.ix m s.n v∧∃w∈s.S++[m],upd s.ix m s.n w=upd s.low m s.n v∧Ih nx v w
  rcases hS v hv with hv|rfl
  ·rw[hlow v (h.sV v hv),hix v (h.sV v hv)]
   obtain⟨a,w,b,c,d⟩:=h.lo v hv
   exact⟨a,w,by simp[b],by rw[hix w (h.sV w b)];exact c,d⟩
  ·rw[Et,Et]
   exact⟨Nat.le_refl _,v,by simp,Et,.refl⟩
 ·intro v hv w hw he hd
  show upd s.low m s.n v≤upd s.ix m s.n w
  rcases hS v hv with hv|rfl
  ·rw[hlow v (h.sV v hv)]
   have hvS:v∈s.S:=hv
   rcases hS w hw with hw|rfl
   ·rw[hix w (h.sV w hw)]
    refine h.le v hv w hw he fun p hp e=>?_
    obtain⟨q,hq,eq⟩:=(MP g.nm).2 ⟨p,hp,e⟩
    obtain⟨j,hj,hjw⟩:=hd q (by show q∈(m,0)::T1;simp[hq]) eq
    rcases g.old q hq with ho|⟨r,hr,a1,a2,a3⟩
    ·have:q=p:=by
       have hI:=h.tI
       refine Classical.byContradiction fun hne=>?_
       have hlt:s.ix q.1≠s.ix p.1:=by
        obtain⟨i1,hi1,rfl⟩:=List.getElem_of_mem ho
        obtain⟨i2,hi2,rfl⟩:=List.getElem_of_mem hp
        rcases Nat.lt_trichotomy i1 i2 with hh|hh|hh
        ·have:=List.pairwise_iff_getElem.1 hI i1 i2 hi1 hi2 hh;omega
        ·subst hh;exact absurd rfl hne
        ·have:=List.pairwise_iff_getElem.1 hI i2 i1 hi2 hi1 hh;omega
       exact hlt (by rw[eq,e])
     subst this
     exact⟨j,hj,hjw⟩
    ·have hrp:r=p:=by
       have hI:=h.tI
       have hrm:r∈s.T:=List.mem_of_head? hr
       refine Classical.byContradiction fun hne=>?_
       have hlt:s.ix r.1≠s.ix p.1:=by
        obtain⟨i1,hi1,rfl⟩:=List.getElem_of_mem hrm
        obtain⟨i2,hi2,rfl⟩:=List.getElem_of_mem hp
        rcases Nat.lt_trichotomy i1 i2 with hh|hh|hh
        ·have:=List.pairwise_iff_getElem.1 hI i1 i2 hi1 hi2 hh;omega
        ·subst hh;exact absurd rfl hne
        ·have:=List.pairwise_iff_getElem.1 hI i2 i1 hi2 hi1 hh;omega
       exact hlt (by rw[a1,eq,e])
     subst hrp
     by_cases hjr:j<r.2
     ·exact⟨j,hjr,hjw⟩
     ·exfalso
      have:j=r.2:=by omega
      subst this
      rw[← eq,a3]at hjw
      have:=Option.some.inj hjw
      subst this
      exact XA hw
   ·rw[Et]
    have:=(h.lo v hvS).1
    have:=h.Zb v (h.sV v hvS)
    omega
  ·obtain⟨j,hj,_⟩:=hd (v,0) (by show(v,0)∈(v,0)::T1;simp) rfl
   exact absurd hj (Nat.not_lt_zero _)
 ·intro v hv ho p hp hlt hmax
  obtain⟨o1,o2⟩:=hoff v ho
  have hv':v∈s.S:=(hS v hv).resolve_right o1
  replace hlt:upd s.ix m s.n p.1<upd s.ix m s.n v:=hlt
  show upd s.low m s.n p.1≤upd s.low m s.n v
  rw[hix v (h.sV v hv')]at hlt
  rcases List.mem_cons.1 hp with rfl|hp
  ·replace hlt:upd s.ix m s.n m<s.ix v:=hlt
   rw[AbM]at hlt;have:=h.Zb v (h.sV v hv');omega
  ·rw[hix _ (ZO p hp)]at hlt
   rw[hlow _ (ZO p hp),hlow v (h.sV v hv')]
   obtain⟨q,hq,e⟩:=V9 g.nm hp
   rw[← e]at hlt ⊢
   refine h.lc v hv' o2 q hq hlt fun r hr hrl=>?_
   obtain⟨r',hr',e'⟩:=(MP g.nm).2 ⟨r,hr,rfl⟩
   have:=hmax r' (by show r'∈(m,0)::T1;simp[hr']) (by show upd s.ix m s.n r'.1<upd s.ix m s.n v;rw[hix _ (ZO r' hr'),hix v (h.sV v hv'),e'];exact hrl)
   replace this:upd s.ix m s.n r'.1≤upd s.ix m s.n p.1:=this
   rw[hix _ (ZO r' hr'),hix _ (ZO p hp),e',←e]at this
   exact this
 ·intro v hv ho
  obtain⟨o1,o2⟩:=hoff v ho
  have hv':v∈s.S:=(hS v hv).resolve_right o1
  show upd s.low m s.n v<upd s.ix m s.n v
  rw[hlow v (h.sV v hv'),hix v (h.sV v hv')]
  exact h.ll v hv' o2
 ·intro v hv
  rcases hS v hv with hv|rfl
  ·obtain⟨p,hp,hle⟩:=h.rt v hv
   obtain⟨q,hq,e⟩:=(MP g.nm).2 ⟨p,hp,rfl⟩
   refine⟨q,by show q∈(m,0)::T1;simp[hq],?_⟩
   show upd s.ix m s.n q.1≤upd s.ix m s.n v
   rw[hix _ (ZO q hq),hix v (h.sV v hv),e];exact hle
  ·exact⟨(v,0),by show(v,0)∈(v,0)::T1;simp,Nat.le_refl _⟩
 ·rintro v hv hns
  have ZP:v∉s.S∧v≠m:=⟨fun h=>hns (by show v∈s.S++[m];simp[h]),fun h=>hns (by show v∈s.S++[m];simp[h])⟩
  rcases hv with hv|hv
  ·exact h.ok v hv ZP.1
  ·exact absurd hv ZP.2
theorem EO.uniq (h:EO nx s) {p q:Int×Nat} (hp:p∈s.T) (hq:q∈s.T) (e:p.1=q.1):p=q:=by
 have hI:=h.tI
 refine Classical.byContradiction fun hne=>?_
 have hlt:s.ix p.1≠s.ix q.1:=by
  obtain⟨i1,hi1,rfl⟩:=List.getElem_of_mem hp
  obtain⟨i2,hi2,rfl⟩:=List.getElem_of_mem hq
  rcases Nat.lt_trichotomy i1 i2 with hh|hh|hh
  ·have:=List.pairwise_iff_getElem.1 hI i1 i2 hi1 hi2 hh;omega
  ·subst hh;exact absurd rfl hne
  ·have:=List.pairwise_iff_getElem.1 hI i2 i1 hi2 hi1 hh;omega
 exact hlt (by rw[e])
theorem EO.below (h:EO nx s) {t:Int} {k:Nat} {T0:List (Int×Nat)} (hT:s.T=(t,k)::T0) {p:Int×Nat} (hp:p∈T0):s.ix p.1<s.ix t:=by
 have hI:=h.tI
 rw[hT]at hI
 exact(List.pairwise_cons.1 hI).1 p hp
abbrev Ri (s:TJ) (t:Int) (k:Nat) (T0:List (Int×Nat)) (m:Int):TJ:=⟨s.n,s.vis,s.ix,if m∈s.S then upd s.low t (min (s.low t) (s.ix m))else s.low,s.S,(t,k+1)::T0,s.sm⟩
theorem EO.see (h:EO nx s) {t m:Int} {k:Nat} {T0:List (Int×Nat)} (hT:s.T=(t,k)::T0) (hk:(nx t)[k]?=some m) (hm:s.vis m):EO nx (Ri s t k T0 m):=by
 have hmem:∀p,p∈(t,k+1)::T0→p=(t,k+1)∨p∈T0:=fun p hp=>List.mem_cons.1 hp
 have h0:(t,k)∈s.T:=by rw[hT];simp
 have hin:∀p∈T0,p∈s.T:=fun p hp=>by rw[hT];simp[hp]
 have XB:=h.tS _ h0
 have hmk:m∈nx t:=List.mem_of_getElem? hk
 have hoff:∀v,LP ((t,k+1)::T0) v→LP s.T v∧v≠t:=fun v hv=>⟨fun p hp e=>by
  rw[hT]at hp
  rcases List.mem_cons.1 hp with rfl|hp
  ·exact hv (t,k+1) (by simp) e
  ·exact hv p (by simp[hp]) e,fun e=>hv (t,k+1) (by simp) e.symm⟩
 have hlow:(Ri s t k T0 m).low=if m∈s.S then upd s.low t (min (s.low t) (s.ix m))else s.low:=rfl
 have hle:∀v,(Ri s t k T0 m).low v≤s.low v:=fun v=>by
  classical
  rw[hlow]
  split
  ·by_cases e:v=t
   ·rw[e,Et];omega
   ·rw[upd_ne e];exact Nat.le_refl _
  ·exact Nat.le_refl _
 have hne:∀v,v≠t→(Ri s t k T0 m).low v=s.low v:=fun v e=>by
  classical
  rw[hlow]
  split
  ·rw[upd_ne e]
  ·rfl
 have hbk:∀p∈(t,k+1)::T0,∃q∈s.T,q.1=p.1:=fun p hp=>by
  rcases hmem p hp with rfl|hp
  ·exact⟨_,h0,rfl⟩
  ·exact⟨p,hin p hp,rfl⟩
 have hfw:∀q∈s.T,∃p∈(t,k+1)::T0,p.1=q.1:=fun q hq=>by
  rw[hT]at hq
  rcases List.mem_cons.1 hq with rfl|hq
  ·exact⟨(t,k+1),by simp,rfl⟩
  ·exact⟨q,by simp[hq],rfl⟩
 refine⟨h.Zb,h.inj,h.sV,h.sI,?_,?_,?_,?_,?_,h.pp,?_,?_,?_,?_,?_,h.ok⟩
 ·intro p hp
  obtain⟨q,hq,e⟩:=hbk p hp
  rw[← e];exact h.tS q hq
 ·have hI:=h.tI
  rw[hT]at hI
  exact List.pairwise_cons.2 ⟨(List.pairwise_cons.1 hI).1,(List.pairwise_cons.1 hI).2⟩
 ·intro p hp v hv hlt
  obtain⟨q,hq,e⟩:=hbk p hp
  replace hlt:s.ix p.1≤s.ix v:=hlt
  rw[← e]at hlt ⊢;exact h.tR q hq v hv hlt
 ·intro p hp
  rcases hmem p hp with rfl|hp
  ·have hA:=h.tA _ h0
   have hl:k<(nx t).length:=(List.getElem?_eq_some_iff.1 hk).1
   refine⟨hl,fun j w hj hw=>?_⟩
   by_cases hjk:j<k
   ·exact hA.2 j w hjk hw
   ·replace hj:j<k+1:=hj
    obtain rfl:j=k:=by omega
    replace hw:(nx t)[j]?=some w:=hw
    rw[hk]at hw;cases hw;exact hm
  ·exact h.tA p (hin p hp)
 ·intro v hv ho
  exact h.lf v hv (hoff v ho).1
 ·intro v hv
  obtain⟨a,w,b,c,d⟩:=h.lo v hv
  refine⟨Nat.le_trans (hle v) a,?_⟩
  by_cases e:v=t
  ·subst e
   classical
   rw[hlow]
   split
   ·rename_i XA
    rw[Et]
    by_cases hc:s.low v≤s.ix m
    ·exact⟨w,b,by show s.ix w=_;rw[c];omega,d⟩
    ·exact⟨m,XA,by show s.ix m=_;omega,.one hmk⟩
   ·exact⟨w,b,c,d⟩
  ·exact⟨w,b,by show s.ix w=_;rw[hne v e];exact c,d⟩
 ·intro v hv w hw he hd
  by_cases e:v=t
  ·subst e
   obtain⟨j,hj,hjw⟩:=hd (v,k+1) (by show(v,k+1)∈(v,k+1)::T0;simp) rfl
   by_cases hjk:j<k
   ·refine Nat.le_trans (hle v) (h.le v hv w hw he fun p hp e=>?_)
    obtain rfl:=h.uniq hp h0 e
    exact⟨j,hjk,hjw⟩
   ·replace hj:j<k+1:=hj
    obtain rfl:j=k:=by omega
    rw[hk]at hjw
    cases hjw
    classical
    rw[hlow,if_pos hw,Et]
    exact Nat.min_le_right _ _
  ·rw[hne v e]
   refine h.le v hv w hw he fun p hp ep=>?_
   rw[hT]at hp
   rcases List.mem_cons.1 hp with rfl|hp
   ·exact absurd ep.symm e
   ·exact hd p (by show p∈(t,k+1)::T0;simp[hp]) ep
 ·intro v hv ho p hp hlt hmax
  obtain⟨o1,o2⟩:=hoff v ho
  rw[hne v o2]
  obtain⟨q,hq,e⟩:=hbk p hp
  refine Nat.le_trans (hle p.1) ?_
  rw[← e]at hlt ⊢
  refine h.lc v hv o1 q hq hlt fun r hr hrl=>?_
  obtain⟨r',hr',e'⟩:=hfw r hr
  have:=hmax r' hr' (by rw[e'];exact hrl)
  rw[e',←e]at this
  exact this
 ·intro v hv ho
  obtain⟨o1,o2⟩:=hoff v ho
  rw[hne v o2]
  exact h.ll v hv o1
 ·intro v hv
  obtain⟨p,hp,hl⟩:=h.rt v hv
  obtain⟨q,hq,e⟩:=hfw p hp
  exact⟨q,hq,by show s.ix q.1≤_;rw[e];exact hl⟩
def Adn (low:Int→Nat) (t:Int):List (Int×Nat)→Int→Nat
 |[]=>low
 |p::_=>upd low p.1 (min (low p.1) (low t))
abbrev RF (s:TJ) (t:Int) (T0:List (Int×Nat)):TJ:=⟨s.n,s.vis,s.ix,Adn s.low t T0,s.S,T0,s.sm⟩
theorem EO.stay (h:EO nx s) {t:Int} {T0:List (Int×Nat)} (hT:s.T=(t,(nx t).length)::T0) (hl:s.low t<s.ix t):EO nx (RF s t T0):=by
 have h0:(t,(nx t).length)∈s.T:=by rw[hT];simp
 have hin:∀p∈T0,p∈s.T:=fun p hp=>by rw[hT];simp[hp]
 have XB:=h.tS _ h0
 have hbl:=fun{p:Int×Nat} (hp:p∈T0)=>h.below hT hp
 obtain⟨_,w0,b0,c0,d0⟩:=h.lo t XB
 obtain⟨u,T1,hT0⟩:∃u T1,T0=u::T1:=by
  cases hT0:T0 with
  |nil=>
   obtain⟨p,hp,hle⟩:=h.rt w0 b0
   rw[hT,hT0]at hp
   simp only[List.mem_singleton]at hp
   subst hp
   replace hle:s.ix t≤s.ix w0:=hle
   omega
  |cons u T1=>exact⟨u,T1,rfl⟩
 have hu:u∈T0:=by rw[hT0];simp
 have hut:=hbl hu
 have hlow:(RF s t T0).low=upd s.low u.1 (min (s.low u.1) (s.low t)):=by rw[hT0];rfl
 have hle:∀v,(RF s t T0).low v≤s.low v:=fun v=>by
  rw[hlow]
  by_cases e:v=u.1
  ·rw[e,Et];omega
  ·rw[upd_ne e];exact Nat.le_refl _
 have hne:∀v,v≠u.1→(RF s t T0).low v=s.low v:=fun v e=>by rw[hlow,upd_ne e]
 have hlu:(RF s t T0).low u.1≤s.low t:=by rw[hlow,Et];exact Nat.min_le_right _ _
 have htu:t≠u.1:=fun e=>by rw[e]at hut;omega
 have htop:∀p∈T0,s.ix p.1≤s.ix u.1:=fun p hp=>by
  have hI:=h.tI
  rw[hT,hT0]at hI
  rw[hT0]at hp
  rcases List.mem_cons.1 hp with rfl|hp
  ·exact Nat.le_refl _
  ·exact Nat.le_of_lt ((List.pairwise_cons.1 (List.pairwise_cons.1 hI).2).1 p hp)
 have hpu:∀p∈T0,s.ix u.1≤s.ix p.1→p.1=u.1:=fun p hp hle=>h.inj _ _ (h.sV _ (h.tS p (hin p hp))) (h.sV _ (h.tS u (hin u hu))) (by have:=htop p hp;omega)
 have hoff:∀v,LP T0 v→v≠t→LP s.T v:=fun v hv e p hp ep=>by
  rw[hT]at hp
  rcases List.mem_cons.1 hp with rfl|hp
  ·exact e ep.symm
  ·exact hv p hp ep
 refine⟨h.Zb,h.inj,h.sV,h.sI,fun p hp=>h.tS p (hin p hp),?_,fun p hp=>h.tR p (hin p hp),fun p hp=>h.tA p (hin p hp),?_,h.pp,?_,?_,?_,?_,?_,h.ok⟩
 ·have hI:=h.tI
  rw[hT]at hI
  exact(List.pairwise_cons.1 hI).2
 ·intro v hv ho w hw
  by_cases e:v=t
  ·subst e
   obtain⟨j,hj,ej⟩:=List.getElem_of_mem hw
   exact(h.tA _ h0).2 j w hj (by rw[List.getElem?_eq_getElem hj,ej])
  ·exact h.lf v hv (hoff v ho e) w hw
 ·intro v hv
  obtain⟨a,w,b,c,d⟩:=h.lo v hv
  refine⟨Nat.le_trans (hle v) a,?_⟩
  by_cases e:v=u.1
  ·rw[hlow,e,Et]
   rw[e]at c d
   by_cases hc:s.low u.1≤s.low t
   ·exact⟨w,b,by show s.ix w=_;rw[c];omega,d⟩
   ·refine⟨w0,b0,by show s.ix w0=_;rw[c0];omega,(h.tR u (hin u hu) t XB (Nat.le_of_lt hut)).trans d0⟩
  ·exact⟨w,b,by show s.ix w=_;rw[hne v e];exact c,d⟩
 ·intro v hv w hw he hd
  refine Nat.le_trans (hle v) (h.le v hv w hw he fun p hp ep=>?_)
  rw[hT]at hp
  rcases List.mem_cons.1 hp with rfl|hp
  ·replace ep:t=v:=ep
   subst ep
   obtain⟨j,hj,ej⟩:=List.getElem_of_mem he
   exact⟨j,hj,by rw[List.getElem?_eq_getElem hj,ej]⟩
  ·exact hd p hp ep
 ·intro v hv ho p hp hlt hmax
  by_cases e:v=t
  ·subst e
   rw[hne v htu]
   have:=hmax u hu hut
   rw[hpu p hp this]
   exact hlu
  ·have o1:=hoff v ho e
   by_cases ev:v=u.1
   ·exact absurd ev.symm (ho u hu)
   rw[hne v ev]
   by_cases htv:s.ix t<s.ix v
   ·have h1:=hmax u hu (by show s.ix u.1<s.ix v;omega)
    rw[hpu p hp h1]
    refine Nat.le_trans hlu (h.lc v hv o1 _ h0 htv fun q hq _=>?_)
    rw[hT]at hq
    rcases List.mem_cons.1 hq with rfl|hq
    ·exact Nat.le_refl _
    ·exact Nat.le_of_lt (hbl hq)
   ·refine Nat.le_trans (hle p.1) (h.lc v hv o1 p (hin p hp) hlt fun q hq hqv=>?_)
    rw[hT]at hq
    rcases List.mem_cons.1 hq with rfl|hq
    ·exact absurd hqv htv
    ·exact hmax q hq hqv
 ·intro v hv ho
  by_cases e:v=t
  ·subst e;rw[hne v htu];exact hl
  ·by_cases ev:v=u.1
   ·exact absurd ev.symm (ho u hu)
   rw[hne v ev]
   exact h.ll v hv (hoff v ho e)
 ·intro v hv
  obtain⟨p,hp,hle⟩:=h.rt v hv
  rw[hT]at hp
  rcases List.mem_cons.1 hp with rfl|hp
  ·exact⟨u,hu,by show s.ix u.1≤s.ix v;replace hle:s.ix t≤s.ix v:=hle;omega⟩
  ·exact⟨p,hp,hle⟩
end
section
variable {nx:Int→List Int} {s:TJ}
noncomputable abbrev AdV (s:TJ) (t:Int) (C0 S0:List Int) (T0:List (Int×Nat)) (x:Int):TJ:=by
 classical exact{s with S:=S0,T:=T0,sm:=fun v=>if v∈t::C0 then x else s.sm v}
theorem EO.pop (h:EO nx s) {t x:Int} {T0:List (Int×Nat)} {S0 C0:List Int} (hT:s.T=(t,(nx t).length)::T0) (hl:s.low t=s.ix t) (hS:s.S=S0++t::C0) (hx:x∈t::C0) (hmin:∀u∈t::C0,x≤u):EO nx (AdV s t C0 S0 T0 x):=by
 have h0:(t,(nx t).length)∈s.T:=by rw[hT];simp
 have hin:∀p∈T0,p∈s.T:=fun p hp=>by rw[hT];simp[hp]
 have XB:=h.tS _ h0
 have hbl:=fun{p:Int×Nat} (hp:p∈T0)=>h.below hT hp
 have hsI:=h.sI
 rw[hS,List.pairwise_append]at hsI
 obtain⟨hI0,hI1,hI2⟩:=hsI
 have hI3:=List.pairwise_cons.1 hI1
 have hSm:∀v,v∈s.S↔v∈S0∨v∈t::C0:=fun v=>by rw[hS,List.mem_append]
 have lt0:∀v∈S0,s.ix v<s.ix t:=fun v hv=>hI2 v hv t (by simp)
 have geC:∀v∈t::C0,s.ix t≤s.ix v:=fun v hv=>by
  rcases List.mem_cons.1 hv with rfl|hv
  ·exact Nat.le_refl _
  ·exact Nat.le_of_lt (hI3.1 v hv)
 have inC:∀v∈s.S,s.ix t≤s.ix v→v∈t::C0:=fun v hv hle=>((hSm v).1 hv).resolve_left fun k=>by have:=lt0 v k;omega
 have in0:∀v∈s.S,s.ix v<s.ix t→v∈S0:=fun v hv hle=>((hSm v).1 hv).resolve_right fun k=>by have:=geC v k;omega
 have Ag5:∀v∈t::C0,v∉S0:=fun v hv k=>by have:=lt0 v k;have:=geC v hv;omega
 have CS:∀v∈t::C0,v∈s.S:=fun v hv=>(hSm v).2 (.inr hv)
 have frT:∀p∈s.T,s.ix t≤s.ix p.1→p=(t,(nx t).length):=fun p hp hle=>by
  rw[hT]at hp
  rcases List.mem_cons.1 hp with e|hp
  ·exact e
  ·have:=hbl hp;omega
 have AdW:∀v∈C0,LP s.T v:=fun v hv p hp e=>by
  have h1:=hI3.1 v hv
  have:=frT p hp (by rw[e];omega)
  rw[this]at e
  replace e:t=v:=e
  rw[e]at h1;omega
 have Afo:∀v∈t::C0,s.ix t≤s.low v:=fun v hv=>by
  rcases List.mem_cons.1 hv with rfl|hv
  ·omega
  ·have:=h.lc v (CS v (by simp[hv])) (AdW v hv) _ h0 (hI3.1 v hv) fun q hq _=>by
        rw[hT]at hq
        rcases List.mem_cons.1 hq with rfl|hq
        ·exact Nat.le_refl _
        ·exact Nat.le_of_lt (hbl hq)
   replace this:s.low t≤s.low v:=this
   omega
 have AcZ:∀v∈t::C0,Ih nx t v:=fun v hv=>h.tR _ h0 v (CS v hv) (geC v hv)
 have toT:∀(n:Nat) (v:Int),v∈t::C0→s.ix v≤n→Ih nx v t:=by
  intro n
  induction n with
  |zero=>
   intro v hv hn
   have:=geC v hv
   rw[h.inj v t (h.sV v (CS v hv)) (h.sV t XB) (by omega)]
   exact .refl
  |succ n ih=>
   intro v hv hn
   rcases List.mem_cons.1 hv with rfl|Zf
   ·exact .refl
   ·obtain⟨_,w,a,b,c⟩:=h.lo v (CS v hv)
    have h1:=h.ll v (CS v hv) (AdW v Zf)
    have h2:=Afo v hv
    exact c.trans (ih w (inC w a (by omega)) (by omega))
 have AdX:∀v∈t::C0,∀w∈nx v,s.vis w:=fun v hv w hw=>by
  rcases List.mem_cons.1 hv with rfl|Zf
  ·obtain⟨j,hj,ej⟩:=List.getElem_of_mem hw
   exact(h.tA _ h0).2 j w hj (by rw[List.getElem?_eq_getElem hj,ej])
  ·exact h.lf v (h.sV v (CS v hv)) (AdW v Zf) w hw
 have out:∀v∈t::C0,∀w∈nx v,w∈t::C0∨(s.vis w∧w∉s.S):=fun v hv w hw=>by
  by_cases hwS:w∈s.S
  ·refine .inl (inC w hwS ?_)
   have h1:=h.le v (CS v hv) w hwS hw fun p hp e=>by
        have:=frT p hp (by rw[e];exact geC v hv)
        subst this
        replace e:t=v:=e
        subst e
        obtain⟨j,hj,ej⟩:=List.getElem_of_mem hw
        exact⟨j,hj,by rw[List.getElem?_eq_getElem hj,ej]⟩
   have h2:=Afo v hv
   omega
  ·exact .inr ⟨AdX v hv w hw,hwS⟩
 have clo:∀{v u:Int},v∈t::C0→Ih nx v u→u∈t::C0∨(s.vis u∧u∉s.S):=fun{v u} hv hr=>by
  refine hr.stay (C:=fun u=>u∈t::C0∨(s.vis u∧u∉s.S)) (fun y hy w hw=>?_) (.inl hv)
  rcases hy with hy|⟨a,b⟩
  ·exact out y hy w hw
  ·exact .inr (h.pp y a b w hw)
 have Ag6:∀{v u:Int},v∈t::C0→Ih nx v u→Ih nx u v→u∈t::C0:=fun{v u} hv h1 h2=>by
  rcases clo hv h1 with k|⟨a,b⟩
  ·exact k
  ·have:=h2.stay (C:=fun y=>s.vis y∧y∉s.S) (fun y hy w hw=>h.pp y hy.1 hy.2 w hw) ⟨a,b⟩
   exact absurd (CS v hv) this.2
 have hoff:∀v,LP T0 v→v≠t→LP s.T v:=fun v hv e p hp ep=>by
  rw[hT]at hp
  rcases List.mem_cons.1 hp with rfl|hp
  ·exact e ep.symm
  ·exact hv p hp ep
 have ne0:∀v∈S0,v≠t:=fun v hv e=>by have:=lt0 v hv;rw[e]at this;omega
 have S0S:∀v∈S0,v∈s.S:=fun v hv=>(hSm v).2 (.inl hv)
 refine⟨h.Zb,h.inj,fun v hv=>h.sV v (S0S v hv),hI0,fun p hp=>in0 _ (h.tS p (hin p hp)) (hbl hp),?_,fun p hp v hv=>h.tR p (hin p hp) v (S0S v hv),fun p hp=>h.tA p (hin p hp),?_,?_,?_,?_,?_,?_,?_,?_⟩
 ·have hI:=h.tI
  rw[hT]at hI
  exact(List.pairwise_cons.1 hI).2
 ·intro v hv ho w hw
  by_cases e:v=t
  ·subst e;exact AdX v (by simp) w hw
  ·exact h.lf v hv (hoff v ho e) w hw
 ·intro v hv hns w hw
  by_cases hvS:v∈s.S
  ·have Zf:=((hSm v).1 hvS).resolve_left hns
   refine⟨AdX v Zf w hw,fun k=>?_⟩
   rcases out v Zf w hw with a|⟨_,b⟩
   ·exact Ag5 w a k
   ·exact b (S0S w k)
  ·have:=h.pp v hv hvS w hw
   exact⟨this.1,fun k=>this.2 (S0S w k)⟩
 ·intro v hv
  obtain⟨a,w,b,c,d⟩:=h.lo v (S0S v hv)
  have:=lt0 v hv
  exact⟨a,w,in0 w b (by omega),c,d⟩
 ·intro v hv w hw he hd
  refine h.le v (S0S v hv) w (S0S w hw) he fun p hp ep=>?_
  rw[hT]at hp
  rcases List.mem_cons.1 hp with rfl|hp
  ·exact absurd ep.symm (ne0 v hv)
  ·exact hd p hp ep
 ·intro v hv ho p hp hlt hmax
  refine h.lc v (S0S v hv) (hoff v ho (ne0 v hv)) p (hin p hp) hlt fun q hq hqv=>?_
  rw[hT]at hq
  rcases List.mem_cons.1 hq with rfl|hq
  ·have:=lt0 v hv
   replace hqv:s.ix t<s.ix v:=hqv
   omega
  ·exact hmax q hq hqv
 ·intro v hv ho
  exact h.ll v (S0S v hv) (hoff v ho (ne0 v hv))
 ·intro v hv
  obtain⟨p,hp,hle⟩:=h.rt v (S0S v hv)
  rw[hT]at hp
  rcases List.mem_cons.1 hp with rfl|hp
  ·have:=lt0 v hv
   replace hle:s.ix t≤s.ix v:=hle
   omega
  ·exact⟨p,hp,hle⟩
 ·intro v hv hns
  classical
  show Least nx v (if v∈t::C0 then x else s.sm v)
  split
  ·rename_i Zf
   refine⟨(toT _ v Zf (Nat.le_refl _)).trans (AcZ x hx),(toT _ x hx (Nat.le_refl _)).trans (AcZ v Zf),fun u h1 h2=>hmin u (Ag6 Zf h1 h2)⟩
  ·rename_i Zf
   exact h.ok v hv fun k=>((hSm v).1 k).elim hns Zf
theorem EO.AbK (h:EO nx s) {t:Int} {u:Int×Nat} {k:Nat} {T1:List (Int×Nat)} (hT:s.T=(t,k)::u::T1) (hl:s.low t=s.ix t):min (s.low u.1) (s.low t)=s.low u.1:=by
 have hu:u∈s.T:=by rw[hT];simp
 have h1:=h.below hT (p:=u) (by simp)
 have h2:=(h.lo u.1 (h.tS u hu)).1
 omega
end
end AI
end Go.Proofs.YtjjhejbffgaabaaGreatDoor
