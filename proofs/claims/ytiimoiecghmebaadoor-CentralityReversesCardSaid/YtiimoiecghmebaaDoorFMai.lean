/- Triangles: the program's sum is twice the reference's count. Lists in the order of a key: looking a place up, putting in, taking out. No program in sight. The graph that an editor edits, in the store: nodes and edges with lists of their own. build: the program's net of a valid graph. -/
import Derived.Test.YtiimoiecghmebaaDoorFMah
import Derived.Test.YtiimoiecghmebaaDoorFMad
import Derived.Test.YtiimoiecghmebaaDoorFMae
import Derived.Test.YtiimoiecghmebaaDoorFMaf
set_option linter.unusedVariables false
namespace Go.Proofs.YtiimoiecghmebaaDoor
namespace AI
def Ul (m:Nat) (p:Nat→Bool):Nat:=((List.range m).filter p).length
theorem SL {m:Nat} {p:Nat→Bool}:Ul (m+1) p=Ul m p+if p m then 1 else 0:=by
 unfold Ul
 rw[List.range_succ,List.filter_append,List.length_append]
 simp only[List.filter_cons,List.filter_nil]
 cases p m<;>rfl
theorem L6 {m:Nat} {p q:Nat→Bool} (h:∀i,i<m→p i=q i):Ul m p=Ul m q:=by
 unfold Ul
 rw[List.filter_congr fun i hi=>h i (List.mem_range.1 hi)]
theorem XL {m:Nat} {p:Nat→Bool} (h:∀i,i<m→p i=false):Ul m p=0:=by
 rw[L6 h]
 unfold Ul
 simp
theorem V3 {m:Nat} {q:Nat→Nat→Bool}:∀{l:List Nat},(l.map fun i=>Ul (m+1) (q i)).sum=(l.map fun i=>Ul m (q i)).sum+(l.filter fun i=>q i m).length
 |[]=>rfl
 |i::l=>by
  have:=V3 (m:=m) (q:=q) (l:=l)
  simp only[List.map_cons,List.sum_cons,SL,List.filter_cons]at this ⊢
  cases q i m<;>simp<;>omega
theorem Qp {t:Nat→Nat→Bool} (hs:∀i k,t i k=t k i) (hi:∀i,t i i=false):∀m,((List.range m).map fun i=>Ul m (t i)).sum=2*((List.range m).map fun i=>Ul m (fun k=>decide (i<k)&&t i k)).sum
 |0=>rfl
 |m+1=>by
  have ih:=Qp hs hi m
  rw[List.range_succ,List.map_append,List.map_append,List.sum_append,List.sum_append]
  simp only[List.map_cons,List.map_nil,List.sum_cons,List.sum_nil,Nat.add_zero]
  rw[V3,V3 (q:=fun i k=>decide (i<k)&&t i k)]
  have e1:Ul (m+1) (t m)=Ul m (fun i=>t i m):=by
   rw[SL,hi m]
   simp only[Bool.false_eq_true,if_false,Nat.add_zero]
   exact L6 fun i _=>hs m i
  have e2:Ul (m+1) (fun k=>decide (m<k)&&t m k)=0:=XL fun k hk=>by simp[show ¬m<k by omega]
  have e3:((List.range m).filter fun i=>decide (i<m)&&t i m).length=Ul m (fun i=>t i m):=L6 (p:=fun i=>decide (i<m)&&t i m) fun i h=>by simp[h]
  rw[e1,e2,e3]
  show _+Ul m (fun i=>t i m)+_=_
  omega
def NR (types:List (List UInt8)) (es:List GE) (x y:Int):Prop:=x≠y∧(JN types es x y∨JN types es y x)
noncomputable instance (types:List (List UInt8)) (es:List GE) (x y:Int):Decidable (NR types es x y):=Classical.propDecidable _
theorem Ry {types:List (List UInt8)} {es:List GE} {a b:Int}:JN types es a b↔∃e∈es,JP types a b e:=by
 constructor
 ·rintro⟨i,h,hp⟩
  exact⟨_,List.getElem_mem h,hp⟩
 ·rintro⟨e,he,hp⟩
  obtain⟨i,h,rfl⟩:=List.getElem_of_mem he
  exact⟨i,h,hp⟩
theorem UY {α:Type} {M:List (Int×α)} {k x:Int} {v:α}:x∈(D9 M k v).map Prod.fst↔x=k∨x∈M.map Prod.fst:=by
 refine⟨SQ,fun h=>?_⟩
 by_cases hx:x∈(D9 M k v).map Prod.fst
 ·exact hx
 ·have h1:Dq (D9 M k v) x=none:=Ia.2 hx
  rw[Ib]at h1
  split at h1
  ·cases h1
  ·rename_i hne
   rcases h with h|h
   ·exact absurd h hne
   ·exact absurd h (Ia.1 h1)
structure OH (L:List (Int×Bool)):Prop where
 nd:(L.map Prod.fst).Nodup
 tt:∀p∈L,p.2=true
theorem AeE {α:Type} {M:List (Int×α)} {k:Int} {v:α} (h:Dq M k=some v):(k,v)∈M:=by
 induction M with
 |nil=>cases h
 |cons p M ih=>
  simp only[Dq]at h
  split at h
  ·rename_i e
   cases h
   rw[e]
   exact List.mem_cons_self
  ·exact List.mem_cons_of_mem _ (ih h)
theorem OH.put {L:List (Int×Bool)} (h:OH L) (k:Int):OH (D9 L k true):=by
 have hn:((D9 L k true).map Prod.fst).Nodup:=Yx h.nd k true
 refine⟨hn,fun p hp=>?_⟩
 have h1:=OG hn hp
 rw[Ib]at h1
 split at h1
 ·exact(Option.some.inj h1).symm
 ·exact h.tt _ (AeE h1)
theorem OH.has {L:List (Int×Bool)} (h:OH L) (x:Int):hasB L x=decide (x∈L.map Prod.fst):=by
 unfold hasB
 by_cases hx:x∈L.map Prod.fst
 ·rw[decide_eq_true hx]
  obtain⟨p,hp,rfl⟩:=List.mem_map.1 hx
  rw[OG h.nd hp,h.tt p hp]
  rfl
 ·rw[decide_eq_false hx,Ia.2 hx]
  rfl
theorem V4 {types:List (List UInt8)} {v:Int}:∀{es:List GE} {L:Int→List (Int×Bool)},(∀ v,OH (L v))→OH ((es.foldl (Ei types) L) v)∧∀x,x∈((es.foldl (Ei types) L) v).map Prod.fst↔x∈(L v).map Prod.fst∨(v≠x∧∃e∈es,JP types v x e∨JP types x v e)
 |[],L,h=>⟨h v,fun x=>by simp⟩
 |e::es,L,h=>by
  have hg:∀u,OH (Ei types L e u):=fun u=>by
   unfold Ei
   split
   ·dsimp only
    split
    ·exact(h _).put _
    ·split
     ·exact(h _).put _
     ·exact h u
   ·exact h u
  obtain⟨g1,g2⟩:=V4 (types:=types) (v:=v) (es:=es) (L:=Ei types L e) hg
  refine⟨g1,fun x=>?_⟩
  rw[List.foldl_cons,g2 x]
  have key:x∈(Ei types L e v).map Prod.fst↔x∈(L v).map Prod.fst∨(v≠x∧(JP types v x e∨JP types x v e)):=by
   unfold Ei JP
   by_cases hc:e.fr≠e.to∧HT types e
   ·rw[if_pos hc]
    by_cases h1:v=e.to
    ·rw[if_pos h1,UY]
     subst h1
     constructor
     ·rintro(rfl|hx)
      ·exact .inr ⟨fun e'=>hc.1 e'.symm,.inr ⟨rfl,rfl,hc.2⟩⟩
      ·exact .inl hx
     ·rintro(hx|⟨hne,⟨a,b,_⟩|⟨a,_,_⟩⟩)
      ·exact .inr hx
      ·exact absurd a hc.1
      ·exact .inl a.symm
    ·rw[if_neg h1]
     by_cases h2:v=e.fr
     ·rw[if_pos h2,UY]
      subst h2
      constructor
      ·rintro(rfl|hx)
       ·exact .inr ⟨hc.1,.inl ⟨rfl,rfl,hc.2⟩⟩
       ·exact .inl hx
      ·rintro(hx|⟨hne,⟨_,b,_⟩|⟨_,b,_⟩⟩)
       ·exact .inr hx
       ·exact .inl b.symm
       ·exact absurd b.symm h1
     ·rw[if_neg h2]
      constructor
      ·exact .inl
      ·rintro(hx|⟨_,⟨a,_,_⟩|⟨_,b,_⟩⟩)
       ·exact hx
       ·exact absurd a.symm h2
       ·exact absurd b.symm h1
   ·rw[if_neg hc]
    constructor
    ·exact .inl
    ·rintro(hx|⟨hne,⟨a,b,c⟩|⟨a,b,c⟩⟩)
     ·exact hx
     ·exact absurd ⟨fun e'=>hne (a.symm.trans (e'.trans b)),c⟩ hc
     ·exact absurd ⟨fun e'=>hne (b.symm.trans (e'.symm.trans a)),c⟩ hc
  rw[key]
  constructor
  ·rintro((hx|⟨hne,hp⟩)|⟨hne,e',he',hp⟩)
   ·exact .inl hx
   ·exact .inr ⟨hne,e,by simp,hp⟩
   ·exact .inr ⟨hne,e',by simp[he'],hp⟩
  ·rintro(hx|⟨hne,e',he',hp⟩)
   ·exact .inl (.inl hx)
   ·rcases List.mem_cons.1 he' with rfl|he'
    ·exact .inl (.inr ⟨hne,hp⟩)
    ·exact .inr ⟨hne,e',he',hp⟩
theorem Z8 {types:List (List UInt8)} {es:List GE} {v:Int}:OH (LY types es v):=(V4 (fun _=>⟨by simp,by simp⟩)).1
theorem YZ {types:List (List UInt8)} {es:List GE} {v x:Int}:x∈(LY types es v).map Prod.fst↔NR types es v x:=by
 have:=(V4 (types:=types) (v:=v) (es:=es) (L:=fun _=>[]) (fun _=>⟨by simp,by simp⟩)).2 x
 unfold LY
 rw[this]
 unfold NR
 rw[Ry,Ry]
 constructor
 ·rintro(h|⟨hne,e,he,hp|hp⟩)
  ·cases h
  ·exact⟨hne,.inl ⟨e,he,hp⟩⟩
  ·exact⟨hne,.inr ⟨e,he,hp⟩⟩
 ·rintro⟨hne,⟨e,he,hp⟩|⟨e,he,hp⟩⟩
  ·exact .inr ⟨hne,e,he,.inl hp⟩
  ·exact .inr ⟨hne,e,he,.inr hp⟩
theorem AgG {types:List (List UInt8)} {es:List GE} {v x:Int}:hasB (LY types es v) x=decide (NR types es v x):=by
 rw[Z8.has,decide_eq_decide]
 exact YZ
theorem SS {T:List (List Bool)} (i k:Nat):WH T i k=WH T k i:=by
 unfold WH
 rw[Bool.or_comm,decide_eq_decide.2 (show i≠k↔k≠i from⟨Ne.symm,Ne.symm⟩)]
theorem Z9 {T:List (List Bool)} (i:Nat):WH T i i=false:=by simp[WH]
theorem Y0 {T:List (List Bool)} {v:Nat} (i k:Nat):Js T v i k=Js T v k i:=by
 unfold Js
 rw[SS i k,←Bool.and_assoc,←Bool.and_assoc,Bool.and_comm (WH T v i)]
theorem Abb {T:List (List Bool)} {v:Nat} (i:Nat):Js T v i i=false:=by simp[Js,Z9]
theorem Ny {α:Type} {P:α→Bool} {f:α→Nat}:∀{l:List α},((l.filter P).map f).sum=(l.map fun x=>if P x then f x else 0).sum
 |[]=>rfl
 |x::l=>by
  have:=Ny (P:=P) (f:=f) (l:=l)
  rw[List.filter_cons]
  cases h:P x
  ·simp[h,this]
  ·simp[h,this]
def Ky (g:GG) (k:Nat):Int:=(g.nodes.map GN.id).getD k 0
theorem Iq {g:GG} {k:Nat} (h:k<g.nodes.length):Ky g k=(g.nodes[k]).id:=by simp[Ky,h]
theorem PS {g:GG}:Bf g=(List.range g.nodes.length).map (Ky g):=by
 apply List.ext_getElem
 ·simp[Bf]
 ·intro i h1 h2
  have hi:i<g.nodes.length:=by simpa[Bf]using h1
  rw[List.getElem_map,List.getElem_range,Iq hi,IV hi]
theorem Zu {g:GG} (hck:AB g=0) {i k:Nat} (hi:i<g.nodes.length) (hk:k<g.nodes.length):Ky g i=Ky g k↔i=k:=by
 rw[Iq hi,Iq hk]
 refine⟨fun h=>?_,fun h=>by subst h;rfl⟩
 have hnd:=Rj hck
 have h1:(Bf g)[i]'(by rw[DF];exact hi)=(Bf g)[k]'(by rw[DF];exact hk):=by rw[IV hi,IV hk,h]
 exact(List.getElem_inj hnd).1 h1
theorem AcQ {types:List (List UInt8)} {g:GG} (hck:AB g=0) {i k:Nat} (hi:i<g.nodes.length) (hk:k<g.nodes.length):WH (Ef types g) i k=decide (NR types g.edges (Ky g i) (Ky g k)):=by
 have at1:∀{i k:Nat},i<g.nodes.length→k<g.nodes.length→atB (Ef types g) i k=decide (JN types g.edges (Ky g i) (Ky g k)):=fun{i k} hi hk=>by
  rw[Iq hi,Iq hk]
  simp[atB,Ef,adj,hi,hk]
 unfold WH
 rw[at1 hi hk,at1 hk hi]
 rw[show decide (NR types g.edges (Ky g i) (Ky g k))=decide (Ky g i≠Ky g k∧(JN types g.edges (Ky g i) (Ky g k)∨JN types g.edges (Ky g k) (Ky g i))) from decide_eq_decide.2 Iff.rfl,Bool.decide_and,Bool.decide_or,decide_eq_decide.2 (show i≠k↔Ky g i≠Ky g k from not_congr (Zu hck hi hk).symm)]
theorem PU {types:List (List UInt8)} {g:GG} (hck:AB g=0) {v:Int}:((LY types g.edges v).map Prod.fst).Perm ((Bf g).filter fun x=>decide (NR types g.edges v x)):=by
 refine(List.perm_ext_iff_of_nodup Z8.nd ((Rj hck).filter _)).2 fun x=>?_
 rw[List.mem_filter,decide_eq_true_iff]
 exact⟨fun h=>⟨V5 (types:=types) (es:=g.edges) (L:=fun _=>[]) (v:=v) (Jg hck) (fun v x h=>by cases h) h,YZ.1 h⟩,fun h=>YZ.2 h.2⟩
theorem Aaa {types:List (List UInt8)} {g:GG} (hck:AB g=0) {v x:Int}:MH types g v x=Ul g.nodes.length fun k=>decide (NR types g.edges v (Ky g k))&&decide (NR types g.edges x (Ky g k)):=by
 unfold MH EG
 have e1:((LY types g.edges v).filter fun p=>hasB (LY types g.edges x) p.1).map (·.1)=((LY types g.edges v).map Prod.fst).filter fun y=>decide (NR types g.edges x y):=by
  rw[List.filter_map]
  congr 1
  exact List.filter_congr fun p _=>AgG
 rw[e1,((PU hck).filter _).length_eq,List.filter_filter,PS,List.filter_map,List.length_map]
 unfold Ul
 congr 1
 exact List.filter_congr fun k _=>by simp[Bool.and_comm]
theorem Aiv {types:List (List UInt8)} {g:GG} (hck:AB g=0) {v:Nat} (hv:v<g.nodes.length):twN types g (g.nodes[v]).id=2*cI (Ef types g) v (Ef types g).length:=by
 have hTl:(Ef types g).length=g.nodes.length:=by unfold Ef;rw[List.length_map]
 have h1:twN types g (Ky g v)=(((Bf g).filter fun x=>decide (NR types g.edges (Ky g v) x)).map (MH types g (Ky g v))).sum:=by
  unfold twN OI
  rw[← ((PU hck).map (MH types g (Ky g v))).sum_nat,List.map_map]
  rfl
 rw[← Iq hv,h1,Ny,PS,List.map_map,hTl]
 have h2:((List.range g.nodes.length).map ((fun x=>if decide (NR types g.edges (Ky g v) x)=true then MH types g (Ky g v) x else 0)∘Ky g))=(List.range g.nodes.length).map fun i=>Ul g.nodes.length (Js (Ef types g) v i):=by
  refine List.map_congr_left fun i hi=>?_
  have hi:=List.mem_range.1 hi
  simp only[Function.comp]
  rw[← AcQ (types:=types) hck hv hi,Aaa hck]
  cases hn:WH (Ef types g) v i
  ·simp only[Bool.false_eq_true,if_false]
   exact(XL fun k _=>by simp[Js,hn]).symm
  ·simp only[if_true]
   exact L6 fun k hk=>by
        rw[← AcQ hck hv hk,←AcQ hck hi hk]
        simp[Js,hn]
 rw[h2,Qp (fun i k=>Y0 i k) (fun i=>Abb i)]
 unfold cI
 rw[hTl]
 rfl
theorem AeA {types:List (List UInt8)} {g:GG} (hck:AB g=0):O7 types g=rtL types g:=by
 apply List.ext_getElem
 ·simp[O7,rtL]
 ·intro i h1 h2
  have hi:i<g.nodes.length:=by simpa[O7]using h1
  simp only[O7,rtL,List.getElem_map,List.getElem_range]
  rw[Aiv hck hi,Nat.mul_div_cancel_left _ (by omega)]
  simp[hi]
structure STO {κ:Type} (lt:κ→κ→Bool):Prop where
 irr:∀x,lt x x=false
 tr:∀x y z,lt x y=true→lt y z=true→lt x z=true
 tot:∀x y,lt x y=false→lt y x=false→x=y
section
variable {α κ:Type} {lt:κ→κ→Bool} {key:α→κ}
def Inc (lt:κ→κ→Bool) (key:α→κ) (l:List α):Prop:=l.Pairwise fun a b=>lt (key a) (key b)=true
def below (lt:κ→κ→Bool) (key:α→κ) (k:κ) (l:List α):List α:=l.filter fun a=>lt (key a) k
def above (lt:κ→κ→Bool) (key:α→κ) (k:κ) (l:List α):List α:=l.filter fun a=>lt k (key a)
def AhX (lt:κ→κ→Bool) (key:α→κ) (x:α) (l:List α):List α:=below lt key (key x) l++[x]++above lt key (key x) l
structure AtK (lt:κ→κ→Bool) (key:α→κ) (k:κ) (l:List α) (i:Nat):Prop where
 le:i≤l.length
 lo:∀j (h:j<l.length),j<i→lt (key l[j]) k=true
 hi:∀j (h:j<l.length),i≤j→lt (key l[j]) k=false
theorem filter_all {p:α→Bool}:∀{l:List α},(∀ x∈l,p x=true)→l.filter p=l
 |[],_=>rfl
 |x::l,h=>by rw[List.filter_cons_of_pos (h x (by simp)),filter_all fun y hy=>h y (by simp[hy])]
theorem filter_none {p:α→Bool}:∀{l:List α},(∀ x∈l,p x=false)→l.filter p=[]
 |[],_=>rfl
 |x::l,h=>by rw[List.filter_cons_of_neg (by rw[h x (by simp)];simp),filter_none fun y hy=>h y (by simp[hy])]
theorem AtK.take {k:κ} {l:List α} {i:Nat} (h:AtK lt key k l i):l.take i=below lt key k l:=by
 unfold below
 conv=>rhs;rw[← List.take_append_drop i l]
 rw[List.filter_append,filter_all,filter_none,List.append_nil]
 ·intro x hx
  obtain⟨j,hj⟩:=List.mem_iff_getElem?.1 hx
  rw[List.getElem?_drop]at hj
  obtain⟨hlt,rfl⟩:=List.getElem?_eq_some_iff.1 hj
  exact h.hi _ hlt (by omega)
 ·intro x hx
  obtain⟨j,hj⟩:=List.mem_iff_getElem?.1 hx
  have hji:j<i:=by
   have:=(List.getElem?_eq_some_iff.1 hj).1
   rw[List.length_take]at this;omega
  rw[List.getElem?_take_of_lt hji]at hj
  obtain⟨hlt,rfl⟩:=List.getElem?_eq_some_iff.1 hj
  exact h.lo _ hlt hji
theorem Inc.get {l:List α} (h:Inc lt key l) {i j:Nat} (hij:i<j) (hj:j<l.length):lt (key l[i]) (key l[j])=true:=List.pairwise_iff_getElem.1 h i j (by omega) hj hij
theorem AtK.found (hs:STO lt) {k:κ} {l:List α} {i:Nat} (hl:Inc lt key l) (h:AtK lt key k l i) (hf:∃x∈l,key x=k):∃hi:i<l.length,key l[i]=k∧l.drop (i+1)=above lt key k l:=by
 obtain⟨x,hx,hk⟩:=hf
 obtain⟨j,hj,rfl⟩:=List.getElem_of_mem hx
 have hij:i≤j:=by
  rcases Nat.lt_or_ge j i with h1|h1
  ·have:=h.lo j hj h1
   rw[hk,hs.irr]at this
   cases this
  ·exact h1
 have hik:i<l.length:=by omega
 have hki:key l[i]=k:=by
  rcases Nat.lt_or_ge i j with h1|h1
  ·have h2:=hl.get h1 hj
   rw[hk,h.hi i hik (Nat.le_refl _)]at h2
   cases h2
  ·obtain rfl:i=j:=by omega
   exact hk
 refine⟨hik,hki,?_⟩
 unfold above
 conv=>rhs;rw[← List.take_append_drop (i+1) l]
 rw[List.filter_append,filter_none,filter_all,List.nil_append]
 ·intro x hx
  obtain⟨q,hq⟩:=List.mem_iff_getElem?.1 hx
  rw[List.getElem?_drop]at hq
  obtain⟨hlt,rfl⟩:=List.getElem?_eq_some_iff.1 hq
  rw[← hki]
  exact hl.get (by omega) hlt
 ·intro x hx
  obtain⟨q,hq⟩:=List.mem_iff_getElem?.1 hx
  have hqi:q<i+1:=by
   have:=(List.getElem?_eq_some_iff.1 hq).1
   rw[List.length_take]at this;omega
  rw[List.getElem?_take_of_lt hqi]at hq
  obtain⟨hlt,rfl⟩:=List.getElem?_eq_some_iff.1 hq
  rcases Nat.lt_or_ge q i with h1|h1
  ·have h2:=h.lo _ hlt h1
   cases h3:lt k (key l[q])
   ·rfl
   ·have:=hs.tr _ _ _ h2 h3
    rw[hs.irr]at this
    cases this
  ·obtain rfl:q=i:=by omega
   rw[hki,hs.irr]
theorem AtK.set (hs:STO lt) {x:α} {l:List α} {i:Nat} (hl:Inc lt key l) (h:AtK lt key (key x) l i) (hf:∃y∈l,key y=key x):l.set i x=AhX lt key x l:=by
 obtain⟨hi,_,hd⟩:=h.found hs hl hf
 rw[List.set_eq_take_append_cons_drop,if_pos hi,h.take,hd]
 simp[AhX]
end
def Rd (σ:List Obj) (D:Nat) (x y:AV):Prop:=∀m,D≤m→snap σ m x=some y
def JM (σ:List Obj) (D:Nat) (xs ys:List AV):Prop:=∀m,D≤m→GH σ m xs=some ys
theorem Rd.mono {σ:List Obj} {D D':Nat} {x y:AV} (h:Rd σ D x y) (hd:D≤D'):Rd σ D' x y:=fun m hm=>h m (by omega)
theorem JM.mono {σ:List Obj} {D D':Nat} {x y:List AV} (h:JM σ D x y) (hd:D≤D'):JM σ D' x y:=fun m hm=>h m (by omega)
theorem JM.nil {σ:List Obj}:JM σ 0 [] []:=fun m _=>by cases m<;>rfl
theorem JM.cons {σ:List Obj} {D:Nat} {x y:AV} {xs ys:List AV} (h:Rd σ D x y) (k:JM σ D xs ys):JM σ (D+1) (x::xs) (y::ys):=fun m hm=>by
 obtain⟨m,rfl⟩:∃m',m=m'+1:=⟨m-1,by omega⟩
 simp only[GH,h m (by omega),k m (by omega)]
theorem JM.map {α:Type} {σ:List Obj} {D:Nat} {f g:α→AV}:∀{l:List α},(∀ e∈l,Rd σ D (f e) (g e))→JM σ (D+l.length) (vs f l) (vs g l)
 |[],_=>JM.nil.mono (by omega)
 |e::l,h=>(JM.cons ((h e (by simp)).mono (D':=D+l.length) (by omega)) (JM.map fun x hx=>h x (by simp[hx]))).mono (by simp;omega)
theorem Rd.agg {σ:List Obj} {D:Nat} {xs ys:List AV} (h:JM σ D xs ys):Rd σ (D+1) (.agg xs) (.agg ys):=fun m hm=>by
 obtain⟨m,rfl⟩:∃m',m=m'+1:=⟨m-1,by omega⟩
 simp only[snap,h m (by omega),Option.map_some]
theorem Rd.int {σ:List Obj} {k:IntKind} {z:Int}:Rd σ 1 (.int k z) (.int k z):=fun m hm=>by
 obtain⟨m,rfl⟩:∃m',m=m'+1:=⟨m-1,by omega⟩
 rfl
theorem Rd.str {σ:List Obj} {z:List UInt8}:Rd σ 1 (.str z) (.str z):=fun m hm=>by
 obtain⟨m,rfl⟩:∃m',m=m'+1:=⟨m-1,by omega⟩
 rfl
def Hd {α:Type} (f:α→AV) (es:Nat) (σ:List Obj) (v:AV) (b:Bool) (l:List α) (c:Bool):Prop:=
 (b=false∧l=[]∧(v=.sl false []∨∃o g es',v=.own o g 0 0∧nth σ o=some (.arr g es' false true [])))∨
 (b=true∧∃o g,v=.own o g 0 l.length∧nth σ o=some (.arr g es true c (vs f l)))
theorem Hd.lt {α:Type} {f:α→AV} {es:Nat} {σ:List Obj} {v:AV} {b c:Bool} {l:List α} (h:Hd f es σ v b l c):∀o∈v.obj,o<σ.length:=by
 intro o ho
 rcases h with⟨_,_,rfl|⟨o',g,es',rfl,h⟩⟩|⟨_,o',g,rfl,h⟩
 ·simp[AV.obj]at ho
 ·simp only[AV.obj,List.mem_singleton]at ho;subst ho;exact Bj h
 ·simp only[AV.obj,List.mem_singleton]at ho;subst ho;exact Bj h
theorem Hd.obj {α:Type} {f:α→AV} {es:Nat} {σ:List Obj} {v:AV} {b c:Bool} {l:List α} (h:Hd f es σ v b l c) {o:Nat} (ho:o∈v.obj):∃g es' nn c' xs,nth σ o=some (.arr g es' nn c' xs)∧(nn=true→es'=es):=by
 rcases h with⟨_,_,rfl|⟨o',g,es',rfl,h⟩⟩|⟨_,o',g,rfl,h⟩
 ·simp[AV.obj]at ho
 ·simp only[AV.obj,List.mem_singleton]at ho;subst ho;exact⟨_,_,_,_,_,h,by simp⟩
 ·simp only[AV.obj,List.mem_singleton]at ho;subst ho;exact⟨_,_,_,_,_,h,fun _=>rfl⟩
theorem Hd.keep {α:Type} {f:α→AV} {es:Nat} {σ σ':List Obj} {v:AV} {b c:Bool} {l:List α} (h:Hd f es σ v b l c) (hk:∀o∈v.obj,nth σ' o=nth σ o):Hd f es σ' v b l c:=by
 rcases h with⟨h1,h2,rfl|⟨o',g,es',rfl,h⟩⟩|⟨h1,o',g,rfl,h⟩
 ·exact .inl ⟨h1,h2,.inl rfl⟩
 ·exact .inl ⟨h1,h2,.inr ⟨o',g,es',rfl,by rw[hk o' (by simp[AV.obj]),h]⟩⟩
 ·exact .inr ⟨h1,o',g,rfl,by rw[hk o' (by simp[AV.obj]),h]⟩
theorem Hd.sn {α:Type} {f:α→AV} {es:Nat} {σ:List Obj} {v:AV} {b:Bool} {l:List α} (h:Hd f es σ v b l true):Rd σ 1 v (.sl b (vs f l)):=fun m hm=>by
 obtain⟨m,rfl⟩:∃m',m=m'+1:=⟨m-1,by omega⟩
 rcases h with⟨rfl,rfl,rfl|⟨o',g,es',rfl,h⟩⟩|⟨rfl,o',g,rfl,h⟩
 ·rfl
 ·simp[snap,h,sub,vs]
 ·have:sub (vs f l) 0 l.length=vs f l:=uV
  simp[snap,h,this]
theorem Hd.one {α:Type} {f:α→AV} {es:Nat} {σ:List Obj} {v:AV} {b c:Bool} {l:List α} (h:Hd f es σ v b l c):v.cells.length=1∧v.storable=true:=by
 rcases h with⟨_,_,rfl|⟨o',g,es',rfl,h⟩⟩|⟨_,o',g,rfl,h⟩<;>exact⟨rfl,rfl⟩
theorem Hd.bool {α:Type} {f:α→AV} {es:Nat} {σ:List Obj} {v:AV} {b c:Bool} {l:List α} (h:Hd f es σ v b l c):b=false→l=[]:=by
 rcases h with⟨_,h,_⟩|⟨h,_⟩
 ·exact fun _=>h
 ·intro h';rw[h']at h;cases h
theorem Hd.closed {α:Type} {f:α→AV} {es:Nat} {σ:List Obj} {v:AV} {b c:Bool} {l:List α} (h:Hd f es σ v b l c) (hc:v.closed=true):v=.sl false []∧b=false∧l=[]:=by
 rcases h with⟨h1,h2,rfl|⟨o',g,es',rfl,h⟩⟩|⟨_,o',g,rfl,h⟩
 ·exact⟨rfl,h1,h2⟩
 ·cases hc
 ·cases hc
structure EN where
 n:GN
 lv:AV
 pv:AV
def EN.av (e:EN):AV:=.agg [.int .i64 e.n.id,e.lv,e.pv]
def EN.objs (e:EN):List Nat:=e.lv.obj++e.pv.obj
def EN.Ok (σ:List Obj) (e:EN):Prop:=Hd .str 1 σ e.lv e.n.ln e.n.labels true∧Hd GP.av 6 σ e.pv e.n.pn e.n.props true
structure EE where
 e:GE
 pv:AV
def EE.av (e:EE):AV:=.agg [.int .i64 e.e.id,.int .i64 e.e.fr,.int .i64 e.e.to,.str e.e.ty,e.pv]
def EE.objs (e:EE):List Nat:=e.pv.obj
def EE.Ok (σ:List Obj) (e:EE):Prop:=Hd GP.av 6 σ e.pv e.e.pn e.e.props true
def AiG (N:List EN) (E:List EE):List Nat:=N.flatMap EN.objs++E.flatMap EE.objs
structure Ed (σ:List Obj) (d gd:Nat) (vN vE:AV) (nb eb:Bool) (N:List EN) (E:List EE) (x y:Int):Prop where
 box:nth σ d=some (.arr gd 4 true false [.agg [vN,vE,.int .i64 x,.int .i64 y]])
 hn:∃c,Hd EN.av 3 σ vN nb N c∧(c=true→∀e∈N,e.av.closed=true)
 he:∃c,Hd EE.av 5 σ vE eb E c∧(c=true→∀e∈E,e.av.closed=true)
 hN:∀e∈N,e.Ok σ
 hE:∀e∈E,e.Ok σ
 nd:(d::(vN.obj++(vE.obj++AiG N E))).Nodup
 oN:vN≠.sl false []
 oE:vE≠.sl false []
theorem EN.sn {σ:List Obj} {e:EN} (h:e.Ok σ):Rd σ 5 e.av e.n.av:=
 Rd.agg (JM.cons (Rd.int.mono (by omega)) (JM.cons (h.1.sn.mono (by omega)) (JM.cons (h.2.sn.mono (D':=1) (by omega)) (JM.nil.mono (D':=1) (by omega)))))
theorem EE.sn {σ:List Obj} {e:EE} (h:e.Ok σ):Rd σ 7 e.av e.e.av:=
 Rd.agg (JM.cons (Rd.int.mono (by omega)) (JM.cons (Rd.int.mono (by omega)) (JM.cons (Rd.int.mono (by omega)) (JM.cons (Rd.str.mono (by omega)) (JM.cons (h.sn.mono (D':=1) (by omega)) (JM.nil.mono (D':=1) (by omega)))))))
theorem Hd.snE {α:Type} {f g:α→AV} {es D:Nat} {σ:List Obj} {v:AV} {b c:Bool} {l:List α} (h:Hd f es σ v b l c) (hs:∀e∈l,Rd σ D (f e) (g e)) (hc:c=true→∀e∈l,f e=g e):Rd σ (D+l.length+1) v (.sl b (vs g l)):=fun m hm=>by
 obtain⟨m,rfl⟩:∃m',m=m'+1:=⟨m-1,by omega⟩
 rcases h with⟨rfl,rfl,rfl|⟨o',g,es',rfl,h⟩⟩|⟨rfl,o',g',rfl,h⟩
 ·rfl
 ·simp[snap,h,sub,vs]
 ·have e1:sub (vs f l) 0 l.length=vs f l:=uV
  cases c with
  |false=>
   have:=JM.map hs m (by omega)
   simp[snap,h,e1,this]
  |true=>
   have e2:vs f l=vs g l:=List.map_congr_left (hc rfl)
   simp[snap,h,e2,show sub (vs g l) 0 l.length=vs g l from uV]
theorem EN.U0 {σ:List Obj} {e:EN} (h:e.Ok σ) (hc:e.av.closed=true):e.av=e.n.av:=by
 simp only[EN.av,AV.closed,DU,Bool.and_eq_true,Bool.and_true]at hc
 obtain⟨a1,a2,a3⟩:=h.1.closed hc.2.1
 obtain⟨b1,b2,b3⟩:=h.2.closed hc.2.2
 simp[EN.av,GN.av,a1,a2,a3,b1,b2,b3,vs]
theorem EE.U0 {σ:List Obj} {e:EE} (h:e.Ok σ) (hc:e.av.closed=true):e.av=e.e.av:=by
 simp only[EE.av,AV.closed,DU,Bool.and_eq_true,Bool.and_true]at hc
 obtain⟨b1,b2,b3⟩:=h.closed hc.2.2.2.2
 simp[EE.av,GE.av,b1,b2,b3,vs]
section
variable {σ σ':List Obj} {d gd:Nat} {vN vE:AV} {nb eb:Bool} {N:List EN} {E:List EE} {x y:Int}
theorem Ed.snE (h:Ed σ d gd vN vE nb eb N E x y):Rd σ (7+E.length+1) vE (.sl eb (vs GE.av (E.map EE.e))):=by
 obtain⟨c,h1,h2⟩:=h.he
 have:=h1.snE (g:=fun e=>e.e.av) (D:=7) (fun e he=>EE.sn (h.hE e he)) (fun hc e he=>EE.U0 (h.hE e he) (h2 hc e he))
 simpa[vs,Function.comp_def]using this
end
section
open Go.Sort
noncomputable def Dt (types:List (List UInt8)) (g:GG) (u v:Nat):Bool:=atB (Ef types g) u v
theorem NZ {types:List (List UInt8)} {g:GG} {i k:Nat} (hi:i<g.nodes.length) (hk:k<g.nodes.length):Dt types g i k=decide (JN types g.edges (Ky g i) (Ky g k)):=by
 unfold Dt
 rw[Iq hi,Iq hk]
 simp[atB,Ef,adj,hi,hk]
def Px (g:GG) (x:Int):Nat:=(Bf g).idxOf x
theorem Rw {g:GG} {x:Int} (h:x∈Bf g):Px g x<g.nodes.length:=by
 have:=List.idxOf_lt_length_of_mem h
 rwa [DF]at this
theorem Yy {g:GG} {x:Int} (h:x∈Bf g):Ky g (Px g x)=x:=by
 have hl:=Rw h
 rw[Iq hl,←IV hl]
 exact List.getElem_idxOf _
theorem Yz {g:GG} (hck:AB g=0) {i:Nat} (hi:i<g.nodes.length):Px g (Ky g i)=i:=by
 have hm:Ky g i∈Bf g:=by rw[Iq hi,←IV hi];exact List.getElem_mem _
 exact(Zu hck (Rw hm) hi).1 (Yy hm)
noncomputable def Kt (types:List (List UInt8)) (g:GG) (es:List GE) (u:Nat):List Int:=(es.filter fun e=>decide (HT types e)&&decide (Px g e.fr=u)).map fun e=>(Px g e.to:Int)
theorem Rx {types:List (List UInt8)} {g:GG} {es:List GE} {e:GE} {u:Nat}:Kt types g (es++[e]) u=Kt types g es u++if HT types e∧Px g e.fr=u then[(Px g e.to:Int)]else[]:=by
 unfold Kt
 rw[List.filter_append,List.map_append]
 by_cases h1:HT types e<;>by_cases h2:Px g e.fr=u<;>simp[h1,h2]
theorem Zv {types:List (List UInt8)} {g:GG} {es:List GE} {u:Nat}:(Kt types g es u).length≤es.length:=by
 unfold Kt
 rw[List.length_map]
 exact List.length_filter_le _ _
theorem Vt {types:List (List UInt8)} {g:GG} (hck:AB g=0) {u v:Nat} (hu:u<g.nodes.length) (hv:v<g.nodes.length):(v:Int)∈Kt types g g.edges u↔Dt types g u v=true:=by
 rw[NZ hu hv,decide_eq_true_iff,Ry]
 unfold Kt
 rw[List.mem_map]
 constructor
 ·rintro⟨e,he,h⟩
  rw[List.mem_filter,Bool.and_eq_true,decide_eq_true_iff,decide_eq_true_iff]at he
  obtain⟨he,ht,hf⟩:=he
  obtain⟨m1,m2⟩:=Jg hck e he
  have h:Px g e.to=v:=by omega
  exact⟨e,he,by rw[← hf,Yy m1],by rw[← h,Yy m2],ht⟩
 ·rintro⟨e,he,h1,h2,h3⟩
  refine⟨e,List.mem_filter.2 ⟨he,?_⟩,?_⟩
  ·rw[Bool.and_eq_true,decide_eq_true_iff,decide_eq_true_iff]
   exact⟨h3,by rw[h1,Yz hck hu]⟩
  ·rw[h2,Yz hck hv]
theorem AbV {types:List (List UInt8)} {g:GG} (hck:AB g=0) {u:Nat} {x:Int} (h:x∈Kt types g g.edges u):∃v:Nat,x=v∧v<g.nodes.length:=by
 unfold Kt at h
 obtain⟨e,he,rfl⟩:=List.mem_map.1 h
 exact⟨_,rfl,Rw (Jg hck e (List.mem_filter.1 he).1).2⟩
def G9 (l:List Nat):List Int:=l.map fun(k:Nat)=>(k:Int)
theorem AbW (l:List Nat):ints (G9 l)=vs Py l:=by unfold ints G9 vs;rw[List.map_map];rfl
theorem row_done {types:List (List UInt8)} {g:GG} (hck:AB g=0) {u:Nat} (hu:u<g.nodes.length) {W:List Int} (hW:W=FQ (Kt types g g.edges u)):Pz W.toArray W.length=G9 (Na (Dt types g) g.nodes.length u):=by
 have hlt:∀a b:Int,ltJ a b=false→ltJ b a=false→a=b:=fun a b h1 h2=>by
  have:=JL.1 h1;have:=JL.1 h2;omega
 have hs:SortedIn ltJ 0 W.toArray.size W.toArray:=by
  intro a b h0 h1 h2
  have hp:W.Pairwise (·≤·):=by rw[hW];exact NP _
  have hb:b<W.length:=by simpa using h2
  rw[getElem!_pos W.toArray a (by simp;omega),getElem!_pos W.toArray b (by simpa using h2)]
  simp only[List.getElem_toArray]
  have:=List.pairwise_iff_getElem.1 hp a b (by omega) hb h1
  exact JL.2 (by omega)
 have h1:=AbX Zw hlt hs W.length (by simp)
 refine MK Zw h1 ?_ fun x=>?_
 ·unfold G9 Na
  rw[List.pairwise_map]
  refine List.Pairwise.filter _ (List.Pairwise.imp (fun h=>N7.2 (by omega)) List.pairwise_lt_range)
 ·rw[QO W.length (by simp)]
  simp only[List.take_length]
  rw[hW,(Gm _).mem_iff]
  unfold G9
  rw[List.mem_map]
  constructor
  ·intro h
   obtain⟨v,rfl,hv⟩:=AbV hck h
   exact⟨v,Hr.2 ⟨hv,(Vt hck hu hv).1 h⟩,rfl⟩
  ·rintro⟨v,hv,rfl⟩
   obtain⟨h1,h2⟩:=Hr.1 hv
   exact(Vt hck hu h1).2 h2
structure Nh (σ:List Obj) (nx:List AV) (R:Nat→List Int) (n oi q:Nat):Prop where
 len:nx.length=n
 row:∀u,u<n→(R u=[]∧nth nx u=some (.sl false []))∨(R u≠[]∧∃o g T,nth nx u=some (.own o g 0 (R u).length)∧nth σ o=some (.arr g 1 true true (ints (R u++T)))∧4<o∧o≠oi∧(q≤u→T=[]))
 inj:∀u v o g l g' l',u<n→v<n→nth nx u=some (.own o g 0 l)→nth nx v=some (.own o g' 0 l')→u=v
section
variable {σ σ':List Obj} {nx:List AV} {R R':Nat→List Int} {n oi q q':Nat} {F:List Nat}
theorem Nh.keep (h:Nh σ nx R n oi q) (f:CB σ σ' F) (hF:∀o∈F,o≤4∨o=oi∨σ.length≤o):Nh σ' nx R n oi q:=
 ⟨h.len,fun u hu=>by
  rcases h.row u hu with h1|⟨h1,o,g,T,h2,h3,h4,h5,h6⟩
  ·exact .inl h1
  ·exact .inr ⟨h1,o,g,T,h2,f.get h3 (fun hm=>by have:=hF o hm;have:=Bj h3;omega),h4,h5,h6⟩,h.inj⟩
theorem Nh.more (h:Nh σ nx R n oi q) (hq:q≤q'):Nh σ nx R n oi q':=
 ⟨h.len,fun u hu=>by
  rcases h.row u hu with h1|⟨h1,o,g,T,h2,h3,h4,h5,h6⟩
  ·exact .inl h1
  ·exact .inr ⟨h1,o,g,T,h2,h3,h4,h5,fun e=>h6 (by omega)⟩,h.inj⟩
theorem Nh.upd (h:Nh σ nx R n oi q) {u0:Nat} (hu0:u0<n) (f:CB σ σ' F) (hq:q≤q') (hF:∀o∈F,o≤4∨o=oi∨σ.length≤o∨∃g l,nth nx u0=some (.own o g 0 l)) {o g:Nat} {S T:List Int} (hS:S≠[]) (ho:nth σ' o=some (.arr g 1 true true (ints (S++T)))) (h4:4<o) (hoi:o≠oi) (hT:q'≤u0→T=[])
 (hfr:σ.length≤o∨∃g l,nth nx u0=some (.own o g 0 l)) (hR0:R' u0=S) (hR:∀u,u≠u0→R' u=R u):Nh σ' (nx.set u0 (.own o g 0 S.length)) R' n oi q':=by
 have hl:u0<nx.length:=by rw[h.len];exact hu0
 have g0:nth (nx.set u0 (.own o g 0 S.length)) u0=some (.own o g 0 S.length):=by rw[Aj];simp[hl]
 have g1:∀u,u≠u0→nth (nx.set u0 (.own o g 0 S.length)) u=nth nx u:=fun u hu=>by rw[Aj,Aj,List.getElem?_set_ne (fun e=>hu e.symm)]
 have hne:∀u,u<n→u≠u0→∀o2 g2 l2,nth nx u=some (.own o2 g2 0 l2)→o2≠o∧∀o3 g3 l3,nth nx u0=some (.own o3 g3 0 l3)→o2≠o3:=fun u hu hne o2 g2 l2 e=>by
  have hlt:o2<σ.length:=by
   rcases h.row u hu with⟨_,h2⟩|⟨_,o,g,T,h2,h3,_⟩
   ·rw[e]at h2;cases h2
   ·rw[e]at h2;cases h2;exact Bj h3
  refine⟨fun e2=>?_,fun o3 g3 l3 e3 e2=>hne (h.inj u u0 o2 g2 l2 g3 l3 hu hu0 e (by rw[e2];exact e3))⟩
  rcases hfr with h1|⟨g3,l3,e3⟩
  ·omega
  ·exact hne (h.inj u u0 o2 g2 l2 g3 l3 hu hu0 e (by rw[e2];exact e3))
 refine⟨by rw[List.length_set];exact h.len,fun u hu=>?_,fun u v o2 g2 l2 g3 l3 hu hv e1 e2=>?_⟩
 ·by_cases e:u=u0
  ·subst e
   rw[hR0]
   exact .inr ⟨hS,o,g,T,g0,ho,h4,hoi,hT⟩
  ·rw[hR u e,g1 u e]
   rcases h.row u hu with h1|⟨h1,o2,g2,T2,h2,h3,k4,k5,k6⟩
   ·exact .inl h1
   ·obtain⟨n1,n2⟩:=hne u hu e o2 g2 _ h2
    exact .inr ⟨h1,o2,g2,T2,h2,f.get h3 (fun hm=>by
      rcases hF o2 hm with h|h|h|⟨g3,l3,h⟩
      ·omega
      ·exact k5 h
      ·have:=Bj h3;omega
      ·exact n2 _ _ _ h rfl),k4,k5,fun e=>k6 (by omega)⟩
 ·by_cases eu:u=u0<;>by_cases ev:v=u0
  ·rw[eu,ev]
  ·subst eu
   rw[g0]at e1;cases e1
   rw[g1 v ev]at e2
   exact absurd rfl (hne v hv ev _ _ _ e2).1
  ·subst ev
   rw[g0]at e2;cases e2
   rw[g1 u eu]at e1
   exact absurd rfl (hne u hu eu _ _ _ e1).1
  ·rw[g1 u eu]at e1;rw[g1 v ev]at e2
   exact h.inj u v o2 g2 l2 g3 l3 hu hv e1 e2
theorem Nh.read (h:Nh σ nx R n oi q) {rows:List (List Nat)} (hr:rows.length=n) (hR:∀u (hu:u<rows.length),R u=G9 rows[u]) {cl:Bool} {g:Nat} (h3:nth σ 3=some (.arr g 1 true cl nx)) (hcl:cl=true→∀u,u<n→R u=[]):Rd σ (n+10) (.own 3 g 0 n) (.sl true (vs Uz rows)):=fun m hm=>by
 obtain⟨k,rfl⟩:∃k,m=k+1:=⟨m-1,by omega⟩
 have hsub:sub nx 0 n=nx:=by rw[← h.len];exact List.take_of_length_le (by simp)
 have hel:∀u (hu:u<n),Uz (rows[u]'(by omega))=if R u=[]then .sl false []else .sl true (ints (R u)):=fun u hu=>by
  have e:=hR u (by omega)
  unfold Uz
  rw[← AbW,←e]
  by_cases h0:R u=[]
  ·have:rows[u]'(by omega)=[]:=by
        rw[e]at h0
        unfold G9 at h0
        simpa using h0
   rw[if_pos h0,h0,this];rfl
  ·have:rows[u]'(by omega)≠[]:=fun h1=>h0 (by rw[e,h1];rfl)
   rw[if_neg h0]
   simp only[decide_eq_true this]
 have hlist:JM σ (5+n) nx (vs Uz rows):=by
  have e1:nx=vs (fun u=>(nth nx u).getD .junk) (List.range n):=by
   apply List.ext_getElem
   ·simp[h.len]
   ·intro i h1 h2
    simp only[vs,List.getElem_map,List.getElem_range]
    rw[Aj,List.getElem?_eq_getElem h1];rfl
  have e2:vs Uz rows=vs (fun u=>Uz (rows.getD u [])) (List.range n):=by
   apply List.ext_getElem
   ·simp[hr]
   ·intro i h1 h2
    have:i<rows.length:=by simpa using h1
    simp[vs,this]
  rw[e1,e2]
  have:=JM.map (σ:=σ) (D:=5) (f:=fun u=>(nth nx u).getD .junk) (g:=fun u=>Uz (rows.getD u [])) (l:=List.range n) fun u hu=>by
   have hu:=List.mem_range.1 hu
   have e3:rows.getD u []=rows[u]'(by omega):=by simp[show u<rows.length by omega]
   rw[e3,hel u hu]
   rcases h.row u hu with⟨h1,h2⟩|⟨h1,o,g,T,h2,h3,_⟩
   ·rw[h2,if_pos h1]
    intro m hm
    obtain⟨j,rfl⟩:∃j,m=j+1:=⟨m-1,by omega⟩
    rfl
   ·rw[h2,if_neg h1]
    intro m hm
    obtain⟨j,rfl⟩:∃j,m=j+1:=⟨m-1,by omega⟩
    have hs:sub (ints (R u++T)) 0 (R u).length=ints (R u):=by
     unfold sub ints
     rw[List.drop_zero,←List.map_take,List.take_left]
    simp only[Option.getD_some,snap,h3,if_true,lI,List.length_append,hs]
    rw[if_pos (by first|exact⟨rfl,by omega⟩|exact⟨trivial,by omega⟩)]
  rw[List.length_range]at this
  exact this
 simp only[snap,h3,hsub]
 rw[if_pos (by first|exact⟨rfl,by rw[h.len];omega⟩|exact⟨trivial,by rw[h.len];omega⟩)]
 cases cl with
 |true=>
  simp only[if_true]
  have h0:=hcl rfl
  have:nx=vs Uz rows:=by
   apply List.ext_getElem
   ·simp[h.len,hr]
   ·intro i h1 h2
    have hi:i<n:=by rw[← h.len];exact h1
    simp only[vs,List.getElem_map]
    rw[hel i hi,if_pos (h0 i hi)]
    rcases h.row i hi with⟨_,h2⟩|⟨h2,_⟩
    ·rw[Aj,List.getElem?_eq_getElem h1]at h2
     exact Option.some.inj h2
    ·exact absurd (h0 i hi) h2
  rw[this]
 |false=>
  simp only[Bool.false_eq_true,if_false]
  rw[hlist k (by omega)];rfl
end
end
end AI
end Go.Proofs.YtiimoiecghmebaaDoor
