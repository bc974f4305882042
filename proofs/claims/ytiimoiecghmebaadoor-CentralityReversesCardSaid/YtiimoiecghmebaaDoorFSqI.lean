/- slices.Sort of numbers, in place, on memory of the call's own: an entry of the table, by the kit's shelf. -/
import Derived.Shelf.SortM.Plain
import Derived.Shelf.SortM.SortNone
import Derived.Ground.SlgmProg
import Derived.Sort.OwnSortedInts
import Derived.Test.YtiimoiecghmebaaDoorChecked
import Derived.Test.YtiimoiecghmebaaDoorFSe
set_option linter.unusedVariables false
namespace Go.Proofs
open Go.RowKit Go.Maps Go.Sort Go.Shelf
shelf_lay_g SlLaysM.n5 Slgm 5 at Tryd 28 as Tryd.sortQ
namespace YtiimoiecghmebaaDoor
namespace AI
def WJ:List AV→Option (List Int)
 |[]=>some []
 | .int .i64 x::l=>(WJ l).map (x::·)
 |_=>none
theorem WL:∀l:List Int,WJ (l.map (.int .i64))=some l
 |[]=>rfl
 |x::l=>by
  show(WJ (l.map (.int .i64))).map (x::·)=_
  rw[WL l];rfl
theorem Ur:∀{xs:List AV} {l:List Int},WJ xs=some l→xs=l.map (.int .i64)
 |[],l,h=>by cases h;rfl
 |x::xs,l,h=>by
  cases x<;>first|(simp [WJ]at h;done)|skip
  case int k a=>cases k<;>first|(simp [WJ]at h;done)|exact(by obtain⟨l',h1,rfl⟩:=Option.map_eq_some_iff.1 h;rw[Ur h1];rfl)
def Yk (x:Int):List Int→List Int
 |[]=>[x]
 |y::l=>if x≤y then x::y::l else y::Yk x l
def FQ:List Int→List Int
 |[]=>[]
 |x::l=>Yk x (FQ l)
theorem O9 (x:Int):∀l:List Int,(Yk x l).Perm (x::l)
 |[]=>.refl _
 |y::l=>by
  unfold Yk
  split
  ·exact .refl _
  ·exact((O9 x l).cons y).trans (.swap x y l)
theorem Zm {x:Int}:∀{l:List Int},l.Pairwise (·≤·)→(Yk x l).Pairwise (·≤·)
 |[],_=>by simp[Yk]
 |y::l,h=>by
  obtain⟨h1,h2⟩:=List.pairwise_cons.1 h
  unfold Yk
  split
  ·rename_i hxy
   exact List.pairwise_cons.2 ⟨fun z hz=>by
        rcases List.mem_cons.1 hz with rfl|hz
        ·exact hxy
        ·exact Int.le_trans hxy (h1 z hz),h⟩
  ·rename_i hxy
   refine List.pairwise_cons.2 ⟨fun z hz=>?_,Zm h2⟩
   rcases List.mem_cons.1 ((O9 x l).mem_iff.1 hz)with rfl|hz
   ·omega
   ·exact h1 z hz
theorem Gm:∀l:List Int,(FQ l).Perm l
 |[]=>.refl _
 |x::l=>(O9 x (FQ l)).trans ((Gm l).cons x)
theorem NP:∀l:List Int,(FQ l).Pairwise (·≤·)
 |[]=>.nil
 |x::l=>Zm (NP l)
theorem Rf (l:List Int):(FQ l).length=l.length:=(Gm l).length_eq
theorem Ij:∀{l m:List Int},l.Pairwise (·≤·)→m.Pairwise (·≤·)→l.Perm m→l=m
 |[],m,_,_,h=>by have:=h.length_eq;cases m with|nil=>rfl|cons b m=>simp at this
 |a::l,[],_,_,h=>by have:=h.length_eq;simp at this
 |a::l,b::m,h1,h2,h=>by
  have k1:=List.pairwise_cons.1 h1
  have k2:=List.pairwise_cons.1 h2
  have hab:a=b:=by
   have p1:a≤b:=by
        rcases List.mem_cons.1 (h.symm.mem_iff.1 (List.mem_cons_self (a:=b) (l:=m)))with e|e
        ·omega
        ·exact k1.1 b e
   have p2:b≤a:=by
        rcases List.mem_cons.1 (h.mem_iff.1 (List.mem_cons_self (a:=a) (l:=l)))with e|e
        ·omega
        ·exact k2.1 a e
   omega
  subst hab
  rw[Ij k1.2 k2.2 h.cons_inv]
theorem Yl (l:List Int):(l.mergeSort fun x y=>decide (x≤y))=FQ l:=by
 refine Ij ?_ (NP l) ((List.mergeSort_perm l _).trans (Gm l).symm)
 exact(List.pairwise_mergeSort (le:=fun x y:Int=>decide (x≤y)) (fun a b c h1 h2=>by simp at *;omega) (fun a b=>by simp;omega) l).imp fun h=>of_decide_eq_true h
def Gn:List AV→Ag→Option (AL×Ag)
 |[.own o g 0 len],s=>match nth s.σ o with
  |some (.arr g' es nn cl xs)=>if g=g'∧es=1∧len=xs.length∧len≤1099511627776 then(WJ xs).map fun l=>(.ok (.Dy []),⟨s.σ.set o (.arr g 1 nn cl ((FQ l).map (.int .i64))),s.ctr⟩)else none
  |_=>none
 |[.sl false []],s=>some (.ok (.Dy []),s)
 |_,_=>none
theorem Aas {σ:List Obj} {o:Nat} {x:Obj} (h:nth σ o=some x):σ.set o x=σ:=by
 rw[Aj]at h
 obtain⟨hz,rfl⟩:=List.getElem?_eq_some_iff.1 h
 exact List.set_getElem_self hz
set_option maxHeartbeats 1000000 in
theorem AhH:Ar Tryd.prog fun f' args s=>if f'=28 then Gn args s else none:=by
 intro f args s out s' h
 replace h:(if f=28 then Gn args s else none)=some (out,s'):=h
 rcases Decidable.em (f=28)with hf|hf
 case inr=>rw[if_neg hf]at h;cases h
 rw[if_pos hf]at h
 subst hf
 unfold Gn at h
 split at h
 case h_3=>cases h
 case h_2=>
  cases h
  refine fun w0 B Z φ w vs hI hargs=>.inl ⟨⟨_,Tryd.func28,rfl,by decide⟩,?_⟩
  obtain⟨hl,ha⟩:=hargs
  obtain⟨v0,h0,r0⟩:=ha 0 _ rfl
  have hvs:vs=#[v0]:=by
   apply Array.ext'
   refine List.ext_getElem? fun i=>?_
   match i with
   |0=>simpa using h0
   |i+1=>
    have:vs.toList.length=1:=by simpa using hl.symm
    rw[List.getElem?_eq_none (by omega)]
    rfl
  subst hvs
  cases r0
  refine(AnyM.slices_Sort_int_none Tryd.sortQ _ _ w).mono ?_
  rintro e w1 ⟨rfl,rfl⟩
  exact⟨Z,φ,hI,Later.refl _ _ _ _ _,.tuple #[],rfl,.Dy _ _ rfl fun i c h=>by simp at h⟩
 rename_i o g len
 split at h
 case h_2=>cases h
 rename_i g' es nn cl xs ho
 split at h
 case isFalse=>cases h
 rename_i hc
 obtain⟨rfl,rfl,rfl,hcap0⟩:=hc
 obtain⟨l,hd,h⟩:=Option.map_eq_some_iff.1 h
 simp only[Prod.mk.injEq]at h
 obtain⟨rfl,rfl⟩:=h
 have hxs:=Ur hd
 refine fun w0 B Z φ w vs hI hargs=>.inl ⟨⟨_,Tryd.func28,rfl,by decide⟩,?_⟩
 obtain⟨hl,ha⟩:=hargs
 obtain⟨v0,h0,r0⟩:=ha 0 _ rfl
 have hvs:vs=#[v0]:=by
  apply Array.ext'
  refine List.ext_getElem? fun i=>?_
  match i with
  |0=>simpa using h0
  |i+1=>
   have:vs.toList.length=1:=by simpa using hl.symm
   rw[List.getElem?_eq_none (by omega)]
   rfl
 subst hvs
 have idle:∀p cap,v0=.slice p 0 cap→xs=[]→Calls Tryd.prog 28 #[v0] w fun e w'=>∃Z' φ',Inv w0 B ⟨s.σ.set o (.arr g 1 nn cl ((FQ l).map (.int .i64))),s.ctr⟩ Z' φ' w'∧Later B w Z φ s.ctr w' Z' φ' s.ctr∧MW w' Z' φ' s.ctr (.ok (.Dy [])) e:=by
  rintro p cap rfl rfl
  have hl0:l=[]:=by cases l with
   |nil=>rfl
   |cons a l=>cases hxs
  subst hl0
  have e1:s.σ.set o (.arr g 1 nn cl ((FQ []).map (.int .i64)))=s.σ:=Aas ho
  rw[e1]
  refine(AnyM.slices_Sort_int_none Tryd.sortQ p cap w).mono ?_
  rintro e w1 ⟨rfl,rfl⟩
  exact⟨Z,φ,hI,Later.refl _ _ _ _ _,.tuple #[],rfl,.Dy _ _ rfl fun i c h=>by simp at h⟩
 generalize hlen:xs.length=len at r0
 cases r0 with
 |BP=>exact idle _ _ rfl (List.length_eq_zero_iff.1 hlen)
 |Dz _ _ a=>exact idle _ _ rfl (List.length_eq_zero_iff.1 hlen)
 |own _ _ _ _ b es'' size cap ad hg hφ hcap hpl hs=>
  by_cases hl0:len=0
  ·subst hl0;exact idle _ _ rfl (List.length_eq_zero_iff.1 hlen)
  obtain⟨rfl,hsize,hcm⟩:=hpl (.inr rfl)
  rw[Aj]at ho
  obtain⟨k1,k2,k3⟩:=hI.objs o _ ho
  rw[hφ]at k3
  obtain⟨k4,k5,k6,k7,k8,cur,t',hcur,k10,k11⟩:=k3
  subst k5
  have hll:l.length=len:=by rw[← hlen,hxs];simp
  have hcl:len≤cur.size:=by rw[k10];omega
  have htake:cur.toList.take l.length=l.map (Value.int .i64):=by
   apply List.ext_getElem?
   intro j
   by_cases hj:j<l.length
   ·rw[List.getElem?_take_of_lt hj,Array.getElem?_toList]
    obtain⟨_,hk⟩:=k11 j (.int .i64 l[j]) (by rw[hxs];simp[hj])
    obtain⟨v,e1,e2,_⟩:=hk 0 _ rfl
    rw[Nat.mul_one,Nat.add_zero]at e1
    rw[e1]
    cases e2
    simp[hj]
   ·rw[List.getElem?_take_eq_none (by omega),List.getElem?_eq_none (by simp;omega)]
  have hH:=holds_of_blockI (ss:=l) hcur htake
  have hb:b<w.heap.size:=(Array.getElem?_eq_some_iff.1 hcur).1
  have call:=AnyM.slices_Sort_int Tryd.sortQ b 0 cap l w hH hb (by omega)
  rw[hll,Yl]at call
  rw[Nat.zero_mul]
  refine call.mono ?_
  rintro e w1 ⟨rfl,n,os,rfl⟩
  have hsl:=Rf l
  have hgb:=grownBy_sortedI (w:=w) (g:=b) (n:=n) (os:=os) (FQ l).toArray
  have hnew:=heap_sortedI (w:=w) (n:=n) (os:=os) (FQ l).toArray hcur
  have htk:=take_putCellsI cur (FQ l) (by omega)
  have hps:(putCells (Value.int .i64) 0 (FQ l).toArray cur).size=cur.size:=by simp[putCells]
  generalize hW:grow (putRow (Value.int .i64) (Sort.ahead w n) b 0 (FQ l).toArray) os=W at hgb hnew
  obtain⟨q1,q2,q3,q4,q5⟩:=hgb
  have other:∀k,k<w.heap.size→k≠b→W.heap[k]?=w.heap[k]?:=fun k hk hne=>q5 k hk fun e=>hne (Option.some.inj e)
  have hbel:Below B w W:=⟨q1,q2,q3,q4,fun k hk=>other k (by have:=hI.base;omega) (by omega)⟩
  have hL:Later B w Z φ s.ctr W Z φ s.ctr:=by
   refine⟨fun _ _ h=>.inl h,Nat.le_refl _,fun _ _ h=>h,fun b' i h=>?_,fun _ _=>rfl⟩
   exact other b' (hI.live b' i h) (by rintro rfl;exact k7 i h)
  refine⟨Z,φ,?_,hL,.tuple #[],rfl,.Dy _ _ rfl fun i c h=>by simp at h⟩
  refine hI.set ho hbel hL (fun b' i h=>Nat.lt_of_lt_of_le (hI.live b' i h) q4) (fun o' ob' g' b' e' n' hne ho' hg' hφ'=>⟨other b' ?_ ?_,fun i h=>h⟩) ?_ (fun g' b' e' n' hg' hφ'=>?_)
  ·have hob:=hI.objs o' ob' ho'
   cases ob' with
   |arr g1 es1 nn1 cl1 el1=>
    obtain rfl:g1=g':=by simpa[Obj.gen]using hg'
    obtain⟨_,_,k3'⟩:=hob
    rw[hφ']at k3'
    obtain⟨_,_,_,_,_,_,_,k9,_⟩:=k3'
    exact(Array.getElem?_eq_some_iff.1 k9).1
   |mp g1 cl1 en1=>
    obtain rfl:g1=g':=by simpa[Obj.gen]using hg'
    obtain⟨_,b1,e1,s1,k3',_,es1,ck1,k9,_⟩:=hob
    rw[hφ']at k3'
    simp only[NQ.row.injEq]at k3'
    obtain⟨rfl,_⟩:=k3'
    exact(Array.getElem?_eq_some_iff.1 k9).1
   |raw g1 x1=>
    obtain rfl:g1=g':=by simpa[Obj.gen]using hg'
    obtain⟨_,b1,e1,s1,k3',_,k9,_⟩:=hob
    rw[hφ']at k3'
    simp only[NQ.row.injEq]at k3'
    obtain⟨rfl,_⟩:=k3'
    exact(Array.getElem?_eq_some_iff.1 k9).1
   |dead=>cases hg'
  ·rintro rfl
   exact hne (hI.apart o' o ob' _ g' g _ _ _ _ _ ho' ho hg' rfl hφ' hφ)
  ·refine⟨k1,k2,?_⟩
   rw[hφ]
   refine⟨k4,rfl,k6,k7,by rw[List.length_map];omega,_,t',hnew,by rw[hps,k10],fun i x hx=>?_⟩
   rw[List.getElem?_map]at hx
   obtain⟨z,hz,rfl⟩:=Option.map_eq_some_iff.1 hx
   refine⟨rfl,fun j y hy=>?_⟩
   have hj0:j=0:=by
      cases j with
      |zero=>rfl
      |succ j=>simp[AV.cells]at hy
   subst hj0
   obtain rfl:AV.int .i64 z=y:=by simpa[AV.cells]using hy
   have hi:i<(FQ l).length:=(List.getElem?_eq_some_iff.1 hz).1
   refine⟨.int .i64 z,?_,.int _ _,rfl,fun _=>rfl⟩
   rw[Nat.mul_one,Nat.add_zero]
   have h1:((putCells (Value.int .i64) 0 (FQ l).toArray cur).toList.take (FQ l).length)[i]?=((FQ l).map (Value.int .i64))[i]?:=by rw[htk]
   rw[List.getElem?_take_of_lt hi,Array.getElem?_toList,List.getElem?_map,hz]at h1
   exact h1
  ·simp only[Obj.gen,Option.some.injEq]at hg'
   subst hg'
   rw[hφ]at hφ'
   simp only[NQ.row.injEq]at hφ'
   obtain⟨rfl,_⟩:=hφ'
   exact .inr ⟨g,_,_,rfl,hφ⟩
end AI
end Go.Proofs.YtiimoiecghmebaaDoor
