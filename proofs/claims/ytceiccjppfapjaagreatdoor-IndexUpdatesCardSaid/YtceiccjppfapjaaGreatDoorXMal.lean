/- The entries of a graph: the program sorts them, the reference puts them in one by one. The entries of a graph, put in one by one: the reference's index. Two sorted lists of the same entries are pointwise alike. Entries as arguments, with the depth of their values: The law about the order of entries: any three entries. What a change leaves alone: plain. Changes as arguments. Strings in a list. Strings in a list: the reference. The reference's Steps answers. Lists in the order of a key: looking a place up, putting in, taking out. No program in sight. One more at the end of a list that is put into: what a reference's loop does, step by step. -/
import Derived.Test.YtceiccjppfapjaaGreatDoorXMaj
import Derived.Test.YtceiccjppfapjaaGreatDoorXMak
import Derived.Test.YtceiccjppfapjaaGreatDoorXCk8
import Derived.Test.YtceiccjppfapjaaGreatDoorXMah
import Derived.Test.YtceiccjppfapjaaGreatDoorXMae
import Derived.Test.YtceiccjppfapjaaGreatDoorXMaa
set_option linter.unusedVariables false
set_option maxRecDepth 4000
namespace Go.Proofs.YtceiccjppfapjaaGreatDoor
namespace AI
section
open Go.Sort
def mkT (lb:List UInt8) (id:Int) (p:GP):GT:=⟨lb,p.key,p.v,id⟩
def MK (n:GN) (lb:List UInt8):List GT:=n.props.map (mkT lb n.id)
def VL (n:GN):List GT:=n.labels.flatMap (MK n)
def ents (N:List GN):List GT:=N.flatMap VL
theorem Lr {α β:Type} {f:α→List β} {l:List α} {i:Nat} (h:i<l.length):(l.take (i+1)).flatMap f=(l.take i).flatMap f++f l[i]:=by
 rw[List.take_succ_eq_append_getElem h,List.flatMap_append];simp
theorem VN {α β:Type} {f:α→β} {l:List α} {i:Nat} (h:i<l.length):(l.take (i+1)).map f=(l.take i).map f++[f l[i]]:=by
 rw[List.take_succ_eq_append_getElem h,List.map_append];rfl
def TL (n:GN):Prop:=n.labels.length≤8∧n.props.length≤16∧∀p∈n.props,p.v.l=[]
theorem AeL {g:GG} (h:BH g=0):∀n∈g.nodes,TL n:=by
 intro n hn
 obtain⟨_,_,h1,_⟩:=Rx h
 obtain⟨k,hk,rfl⟩:=List.getElem_of_mem hn
 have h2:=h1 k hk
 unfold DU at h2
 rw[List.getElem?_eq_getElem hk]at h2
 dsimp only at h2
 split at h2
 ·omega
 ·split at h2
  ·omega
  ·unfold Dy at h2
   split at h2
   ·omega
   ·rename_i h3
    split at h2
    ·omega
    ·split at h2
     ·omega
     ·split at h2
      ·omega
      ·rename_i h4
       refine⟨by omega,by omega,fun p hp=>?_⟩
       have h5:=Decidable.not_not.1 h4
       have h6:=h5 p hp
       exact List.eq_nil_of_length_eq_zero h6.2.1
theorem KD {g:GG}:∀n∈(chk g).nodes,TL n:=by
 intro n hn
 unfold chk at hn
 split at hn
 ·rename_i h;exact AeL h n hn
 ·simp at hn
theorem Abx {g:GG} (hg:g.ok):(chk g).ok:=by
 unfold chk
 split
 ·exact hg
 ·exact⟨by simp[Ln],fun _=>rfl,by simp,by simp[Ln],fun _=>rfl,by simp,by unfold I64;dsimp only;omega,by unfold I64;dsimp only;omega⟩
theorem KE {n:GN} (h:TL n):∀j,((n.labels.take j).flatMap (MK n)).length≤j*16
 |0=>by simp
 |j+1=>by
  by_cases hj:j<n.labels.length
  ·rw[Lr hj,List.length_append]
   have:=KE h j
   have h2:=h.2.1
   simp only[MK,List.length_map]
   omega
  ·rw[List.take_of_length_le (by omega),←List.take_of_length_le (l:=n.labels) (i:=j) (by omega)]
   have:=KE h j
   omega
theorem Aat {n:GN} (h:TL n):(VL n).length≤128:=by
 have:=KE h n.labels.length
 rw[List.take_length]at this
 have h1:=h.1
 unfold VL
 omega
theorem G7 {N:List GN} (h:∀n∈N,TL n):∀i,(ents (N.take i)).length≤i*128
 |0=>by simp[ents]
 |i+1=>by
  by_cases hi:i<N.length
  ·have:=G7 h i
   have h2:=Aat (h _ (List.getElem_mem hi))
   unfold ents at*
   rw[Lr hi,List.length_append]
   omega
  ·rw[List.take_of_length_le (by omega),←List.take_of_length_le (l:=N) (i:=i) (by omega)]
   have:=G7 h i
   omega
theorem Aau {A:List GT} (h:∀e∈A,e.ok∧e.v.l=[]):∃L:List GX,L.map GX.e=A:=by
 induction A with
 |nil=>exact⟨[],rfl⟩
 |cons a A ih=>
  obtain⟨L,rfl⟩:=ih fun e he=>h e (List.mem_cons_of_mem _ he)
  exact⟨⟨a,h a (List.mem_cons_self ..)⟩::L,rfl⟩
theorem AeM {L:List GX}:vs GX.av L=vs GT.av (L.map GX.e):=by
 unfold vs
 rw[List.map_map]
 rfl
theorem AcM {N:List GN} {e:GT}:e∈ents N↔∃n∈N,∃lb∈n.labels,∃p∈n.props,e=mkT lb n.id p:=by
 unfold ents VL MK
 simp only[List.mem_flatMap,List.mem_map]
 constructor
 ·rintro⟨n,hn,lb,hlb,p,hp,rfl⟩;exact⟨n,hn,lb,hlb,p,hp,rfl⟩
 ·rintro⟨n,hn,lb,hlb,p,hp,rfl⟩;exact⟨n,hn,lb,hlb,p,hp,rfl⟩
theorem AeN {N:List GN} (hN:∀n∈N,n.ok) (ht:∀n∈N,TL n):∀e∈ents N,e.ok∧e.v.l=[]:=by
 intro e he
 obtain⟨n,hn,lb,hlb,p,hp,rfl⟩:=AcM.1 he
 obtain⟨n1,n2,n3,n4,n5,n6,n7⟩:=hN n hn
 exact⟨⟨n4 lb hlb,(n7 p hp).1,(n7 p hp).2,n1⟩,(ht n hn).2.2 p hp⟩
def YN (M:List GT) (v:AV):Prop:=∃b W,v=.sl b (vs GX.av W)∧(W.map GX.e).Perm M∧W.Pairwise (fun x y=>BR y x=false)
set_option maxHeartbeats 4000000 in
theorem AbL {g:GG} (hg:g.ok) (hN:(chk g).nodes.length≤2000):Ae (Ad tab) 78 [g.av] (YN (ents (chk g).nodes)):=by
 obtain⟨L,hL⟩:=Aau (AeN (Abx hg).2.2.1 KD)
 have hc:=AcN hg
 have ht:=KD (g:=g)
 generalize chk g=h at*
 obtain⟨hn,N,hen,E,z1,z2⟩:=h
 dsimp only at hN hL ht ⊢
 refine Ac rfl rfl ?_
 (conv=>whnf);repeat' (first|(refine Aa hc ?_;rintro _ rfl;conv=>whnf)|(refine kA ?_;conv=>whnf)|(refine Br.mk (fun hc=>?_) fun hc=>?_<;>first|exact hc.elim|conv=>whnf)|(refine kB ?_))
 refine Ag (fun z env s=>∃(i c ga n:Nat) (fa:Bool) (A:List GT),z=N.length-i∧i≤N.length∧A=ents (N.take i)∧n=A.length∧env=[(3,.own 1 ga 0 n),(12,.sl hn (vs GN.av N)),(13,.int .i64 N.length),(14,.int .i64 i)]∧s=⟨[.arr 0 4 true true [g.av],.arr ga 8 fa true (vs GT.av A)],c⟩) ?_ _ _ _ ⟨0,_,_,_,_,[],rfl,by omega,rfl,rfl,by first|rfl|(rw [← lV (f:=GN.av) N];rfl),rfl⟩
 rintro _ _ _ ⟨i,c,ga,n,fa,A,rfl,hi,hA,hnA,rfl,rfl⟩
 refine⟨rfl,?_⟩
 by_cases hlt:i<N.length
 ·have htn:=ht N[i] (List.getElem_mem hlt)
  have hs:ents (N.take (i+1))=ents (N.take i)++VL N[i]:=Lr hlt
  have hb:=G7 ht i
  have hll:=htn.1
  have hpl:=htn.2.1
  rw[← hA]at hs hb
  clear hL
  (conv=>whnf);repeat' (first  |(refine kA ?_;conv=>whnf)|(refine Br.mk (fun hc=>?_) fun hc=>?_<;>first|exact hc.elim|conv=>whnf)|(refine kB ?_))
  refine Ag (fun z env s=>∃(j c2 ga n:Nat) (fa:Bool) (B:List GT),z=N[i].labels.length-j∧j≤N[i].labels.length∧B=A++(N[i].labels.take j).flatMap (MK N[i])∧n=B.length∧env=[(3,.own 1 ga 0 n),(5,.ref 2 c 0 0),(12,.sl hn (vs GN.av N)),(13,.int .i64 N.length),(14,.int .i64 i),(19,.sl N[i].ln (vs .str N[i].labels)),(20,.int .i64 N[i].labels.length),(21,.int .i64 j)]∧s=⟨[.arr 0 4 true true [g.av],.arr ga 8 fa true (vs GT.av B),.arr c 3 true true [N[i].av]],c2⟩) ?_ _ _ _ ⟨0,_,_,_,_,A,rfl,by omega,by simp,hnA,by first|rfl|(rw [← lV (f:=AV.str) N[i].labels];rfl),rfl⟩
  rintro _ _ _ ⟨j,c2,gb,n2,fb,B,rfl,hj,hB,hn2,rfl,rfl⟩
  refine⟨rfl,?_⟩
  clear hnA
  by_cases hjl:j<N[i].labels.length
  ·have hs2:=Lr (f:=MK N[i]) hjl
   have hb2:=KE htn j
   have hBl:B.length≤i*128+j*16:=by rw[hB,List.length_append];omega
   have hB2:B++MK N[i] N[i].labels[j]=A++(N[i].labels.take (j+1)).flatMap (MK N[i]):=by rw[hs2,hB,List.append_assoc]
   clear hs2 hb2
   (conv=>whnf);repeat' (first  |(refine kA ?_;conv=>whnf)|(refine Br.mk (fun hc=>?_) fun hc=>?_<;>first|exact hc.elim|conv=>whnf)|(refine kB ?_))
   refine Ag (fun z env s=>∃(k c3 ga n:Nat) (fa:Bool) (D:List GT),z=N[i].props.length-k∧k≤N[i].props.length∧D=B++(N[i].props.take k).map (mkT N[i].labels[j] N[i].id)∧n=D.length∧D.length=B.length+k∧env=[(3,.own 1 ga 0 n),(5,.ref 2 c 0 0),(7,.str N[i].labels[j]),(12,.sl hn (vs GN.av N)),(13,.int .i64 N.length),(14,.int .i64 i),(19,.sl N[i].ln (vs .str N[i].labels)),(20,.int .i64 N[i].labels.length),(21,.int .i64 j),(26,.sl N[i].pn (vs GP.av N[i].props)),(27,.int .i64 N[i].props.length),(28,.int .i64 k)]∧s=⟨[.arr 0 4 true true [g.av],.arr ga 8 fa true (vs GT.av D),.arr c 3 true true [N[i].av]],c3⟩) ?_ _ _ _ ⟨0,_,_,_,_,B,rfl,by omega,by simp,hn2,rfl,by first|rfl|(rw [← lV (f:=GP.av) N[i].props];rfl),rfl⟩
   rintro _ _ _ ⟨k,c3,gc,n3,fc,D,rfl,hk,hD,hn3,hDl,rfl,rfl⟩
   refine⟨rfl,?_⟩
   clear hn2
   by_cases hkl:k<N[i].props.length
   ·have hs3:=VN (f:=mkT N[i].labels[j] N[i].id) hkl
    have hD2:D++[mkT N[i].labels[j] N[i].id N[i].props[k]]=B++(N[i].props.take (k+1)).map (mkT N[i].labels[j] N[i].id):=by rw[hs3,hD,List.append_assoc]
    clear hs3
    (conv=>whnf);repeat' (first|(refine Ih (f:=GT.av) (l:=D) (x:=mkT N[i].labels[j] N[i].id N[i].props[k]) Aeq hn3 (by omega) ?_;conv=>whnf)|(refine kA ?_;conv=>whnf)|(refine Br.mk (fun hc=>?_) fun hc=>?_<;>first|exact hc.elim|conv=>whnf)|(refine kB ?_))
    all_goals first
     |exact again.mk ⟨_,by omega,k+1,_,_,_,_,D++[mkT N[i].labels[j] N[i].id N[i].props[k]],rfl,by omega,hD2,by simp,by simp;omega,rfl,rfl⟩
     |(exfalso;omega)
   ·have hwh:(N[i].props.take k).map (mkT N[i].labels[j] N[i].id)=MK N[i] N[i].labels[j]:=by rw[List.take_of_length_le (by omega)];rfl
    rw[hwh]at hD
    rw[← hD]at hB2
    (conv=>whnf);repeat' (first  |(refine kA ?_;conv=>whnf)|(refine Br.mk (fun hc=>?_) fun hc=>?_<;>first|exact hc.elim|conv=>whnf)|(refine kB ?_))
    all_goals first
     |exact again.mk ⟨_,by omega,j+1,_,_,_,_,D,rfl,by omega,hB2,hn3,rfl,rfl⟩
     |(exfalso;omega)
  ·have hwh:(N[i].labels.take j).flatMap (MK N[i])=VL N[i]:=by rw[List.take_of_length_le (by omega)];rfl
   rw[hwh,←hs]at hB
   (conv=>whnf);repeat' (first  |(refine kA ?_;conv=>whnf)|(refine Br.mk (fun hc=>?_) fun hc=>?_<;>first|exact hc.elim|conv=>whnf)|(refine kB ?_))
   all_goals first
        |exact again.mk ⟨_,by omega,i+1,_,_,_,_,B,rfl,by omega,hB,hn2,rfl,rfl⟩
        |(exfalso;omega)
 ·rw[List.take_of_length_le (by omega)]at hA
  have e:vs GT.av A=vs GX.av L:=by rw[AeM,hL,hA]
  have hlen:A.length=L.length:=by rw[hA,←hL,List.length_map]
  have hb:=G7 ht N.length
  rw[List.take_length,←hA]at hb
  rw[e]
  (conv=>whnf);repeat' (first  |(refine kA ?_;conv=>whnf)|(refine Br.mk (fun hc=>?_) fun hc=>?_<;>first|exact hc.elim|conv=>whnf)|(refine kB ?_))
  refine(AgS (L:=L) (by omega) (by omega)).mono ?_
  rintro _ _ ⟨c1,W,rfl,rfl,p1,p2⟩
  have hw:=p1.length_eq
  conv=>whnf
  apply Ah rfl
  (conv=>whnf);repeat' (first  |(refine kA ?_;conv=>whnf)|(refine Br.mk (fun hc=>?_) fun hc=>?_<;>first|exact hc.elim|conv=>whnf)|(refine kB ?_))
  refine⟨fa,W,?_,by rw[← hL];exact p1.map _,p2⟩
  rw[show n=W.length by omega,QI];simp
end
section
open Go.Sort
noncomputable def Ut (A:List GX) (x:GX):List GX:=(insInner BR 0 A.length (A++[x]).toArray).toList
theorem AdU {A:List GX} {x:GX} (hs:A.Pairwise (fun x y=>BR y x=false)):(Ut A x).Perm (A++[x])∧(Ut A x).Pairwise (fun x y=>BR y x=false):=by
 obtain⟨E,hE⟩:∃E,(A++[x]).toArray=E:=⟨_,rfl⟩
 have hsz:E.size=A.length+1:=by rw[← hE];simp
 have hat:∀p,p<A.length→∃h:p<A.length,E[p]! =A[p]:=fun p hp=>⟨hp,by
  rw[getElem!_pos E p (by omega)]
  subst hE
  simp[List.getElem_append_left hp]⟩
 have h:=insInner_spec (lt:=BR) H8 swp_permIn permIn_refl permIn_trans 0 (A.length+1) A.length (by omega) A.length E (by omega) (Nat.le_refl _) (by omega) ⟨fun p q hap hpq hqi _ hq=>by
  obtain⟨h1,e1⟩:=hat p (by omega)
  obtain⟨h2,e2⟩:=hat q (by omega)
  rw[e1,e2]
  exact List.pairwise_iff_getElem.1 hs p q h1 h2 hpq,fun q h1 h2=>by omega⟩
 obtain⟨⟨h1,_,h3⟩,h4⟩:=h
 unfold Ut
 rw[hE]
 constructor
 ·rw[Array.extract_eq_self_of_le (by omega),Array.extract_eq_self_of_le (by omega)]at h3
  rw[← hE]at h3 ⊢
  simpa using h3
 ·rw[List.pairwise_iff_getElem]
  intro i j hi hj hij
  rw[Array.length_toList]at hi hj
  have:=h4 i j (by omega) hij (by omega)
  rw[getElem!_pos _ j hj,getElem!_pos _ i hi]at this
  simpa using this
theorem Ah3 {es g len:Nat} {nn cl:Bool} {α:Type} {f:α→AV} {l:List α} {x:α} {y:AV} {bytes:Nat} {K:Nat→Bool→Bool→List AV→Prop} (he:f x=y) (hf:∀x,(f x).cells.length=es) (hl:len=l.length) (hr:(l.length+1)*bytes≤2 ^ 46) (h:K (l.length+1) true cl (vs f (l++[x]))):
 Lj g g es es len nn cl true (vs f l) [y] bytes K:=by
 subst he
 exact Ih hf hl hr h
theorem Abv {E:Array GX} {j:Nat} (h:j+1<E.size):(E.setIfInBounds (j+1) E[j]!).setIfInBounds j E[j+1]! =swp E (j+1) j:=rfl
set_option maxHeartbeats 8000000 in
theorem Abw {g:GG} (hg:g.ok) (hN:(chk g).nodes.length≤2000):Ae (Ad tab) 89 [g.av] (YN (ents (chk g).nodes)):=by
 have hc:=Abr hg
 have ht:=KD (g:=g)
 have hok:=(Abx hg).2.2.1
 by_cases h0:BH g=0
 case neg=>
  have e:chk g=⟨false,[],false,[],0,0⟩:=if_neg h0
  rw[e]
  refine Ac rfl rfl ?_
  (conv=>whnf);repeat' (first|(refine Aa hc ?_;rintro _ rfl;conv=>whnf)|(refine kA ?_;conv=>whnf)|(refine Br.mk (fun hc=>?_) fun hc=>?_<;>first|exact hc.elim|conv=>whnf)|(refine kB ?_))
  all_goals first|exact⟨_,[],rfl,.refl _,.nil⟩|(exfalso;omega)|skip
 have e:chk g=g:=if_pos h0
 rw[e]at hN ht hok ⊢
 rw[h0]at hc
 clear e h0
 refine Ac rfl rfl ?_
 (conv=>whnf);repeat' (first|(refine Aa hc ?_;rintro _ rfl;conv=>whnf)|(refine kA ?_;conv=>whnf)|(refine Br.mk (fun hc=>?_) fun hc=>?_<;>first|exact hc.elim|conv=>whnf)|(refine kB ?_))
 all_goals first|(exfalso;omega)|skip
 refine Ag (fun z env s=>∃(i c ga n:Nat) (fa:Bool) (A:List GX),z=g.nodes.length-i∧i≤g.nodes.length∧(A.map GX.e).Perm (ents (g.nodes.take i))∧A.Pairwise (fun x y=>BR y x=false)∧n=A.length∧env=[(1,.ref 0 0 0 0),(3,.own 1 ga 0 n),(4,.int .i64 i)]∧s=⟨[.arr 0 4 true true [g.av],.arr ga 8 fa true (vs GX.av A)],c⟩) ?_ _ _ _ ⟨0,_,_,_,_,[],rfl,by omega,.refl _,.nil,rfl,rfl,rfl⟩
 rintro _ _ _ ⟨i,c,ga,n,fa,A,rfl,hi,hA,hAs,hnA,rfl,rfl⟩
 refine⟨rfl,?_⟩
 by_cases hlt:i<g.nodes.length
 ·have htn:=ht g.nodes[i] (List.getElem_mem hlt)
  have AdV:=hok g.nodes[i] (List.getElem_mem hlt)
  have hs:ents (g.nodes.take (i+1))=ents (g.nodes.take i)++VL g.nodes[i]:=Lr hlt
  have hb:=G7 ht i
  rw[← hA.length_eq,List.length_map]at hb
  have hll:=htn.1
  have hpl:=htn.2.1
  (conv=>whnf);repeat' (first  |(refine kA ?_;conv=>whnf)|(refine Br.mk (fun hc=>?_) fun hc=>?_<;>first|exact hc.elim|conv=>whnf)|(refine kB ?_))
  refine Ag (fun z env s=>∃(j c2 ga n:Nat) (fa:Bool) (B:List GX),z=g.nodes[i].labels.length-j∧j≤g.nodes[i].labels.length∧(B.map GX.e).Perm (ents (g.nodes.take i)++(g.nodes[i].labels.take j).flatMap (MK g.nodes[i]))∧B.Pairwise (fun x y=>BR y x=false)∧n=B.length∧env=[(1,.ref 0 0 0 0),(3,.own 1 ga 0 n),(4,.int .i64 i),(5,.ref 2 c 0 0),(6,.int .i64 j)]∧s=⟨[.arr 0 4 true true [g.av],.arr ga 8 fa true (vs GX.av B),.arr c 3 true true [g.nodes[i].av]],c2⟩) ?_ _ _ _ ⟨0,_,_,_,_,A,rfl,by omega,by simpa using hA,hAs,hnA,rfl,rfl⟩
  rintro _ _ _ ⟨j,c2,gb,n2,fb,B,rfl,hj,hB,hBs,hn2,rfl,rfl⟩
  refine⟨rfl,?_⟩
  clear hnA hA hAs
  by_cases hjl:j<g.nodes[i].labels.length
  ·have hs2:=Lr (f:=MK g.nodes[i]) hjl
   have hb2:=KE htn j
   have hBl:B.length≤i*128+j*16:=by
        have e1:=hB.length_eq
        have e2:=G7 ht i
        rw[List.length_map,List.length_append]at e1
        omega
   clear hb2
   (conv=>whnf);repeat' (first  |(refine kA ?_;conv=>whnf)|(refine Br.mk (fun hc=>?_) fun hc=>?_<;>first|exact hc.elim|conv=>whnf)|(refine kB ?_))
   refine Ag (fun z env s=>∃(k c3 ga n:Nat) (fa:Bool) (D:List GX),z=g.nodes[i].props.length-k∧k≤g.nodes[i].props.length∧(D.map GX.e).Perm (B.map GX.e++(g.nodes[i].props.take k).map (mkT g.nodes[i].labels[j] g.nodes[i].id))∧D.Pairwise (fun x y=>BR y x=false)∧n=D.length∧D.length=B.length+k∧env=[(1,.ref 0 0 0 0),(3,.own 1 ga 0 n),(4,.int .i64 i),(5,.ref 2 c 0 0),(6,.int .i64 j),(7,.int .i64 k)]∧s=⟨[.arr 0 4 true true [g.av],.arr ga 8 fa true (vs GX.av D),.arr c 3 true true [g.nodes[i].av]],c3⟩) ?_ _ _ _ ⟨0,_,_,_,_,B,rfl,by omega,by simp,hBs,hn2,rfl,rfl,rfl⟩
   rintro _ _ _ ⟨k,c3,gc,n3,fc,D,rfl,hk,hD,hDs,hn3,hDl,rfl,rfl⟩
   refine⟨rfl,?_⟩
   clear hn2 hBs
   by_cases hkl:k<g.nodes[i].props.length
   ·have hs3:=VN (f:=mkT g.nodes[i].labels[j] g.nodes[i].id) hkl
    obtain⟨x,hx⟩:∃x:GX,x.e=mkT g.nodes[i].labels[j] g.nodes[i].id g.nodes[i].props[k]:=⟨⟨mkT g.nodes[i].labels[j] g.nodes[i].id g.nodes[i].props[k],⟨⟨AdV.2.2.2.1 _ (List.getElem_mem hjl),(AdV.2.2.2.2.2.2 _ (List.getElem_mem hkl)).1,(AdV.2.2.2.2.2.2 _ (List.getElem_mem hkl)).2,AdV.1⟩,htn.2.2 _ (List.getElem_mem hkl)⟩⟩,rfl⟩
    have hxa:GX.av x=(mkT g.nodes[i].labels[j] g.nodes[i].id g.nodes[i].props[k]).av:=by unfold GX.av;rw[hx]
    obtain⟨q1,q2⟩:=AdU (x:=x) hDs
    have hD2:((Ut D x).map GX.e).Perm (B.map GX.e++(g.nodes[i].props.take (k+1)).map (mkT g.nodes[i].labels[j] g.nodes[i].id)):=by
     refine(q1.map _).trans ?_
     rw[hs3,List.map_append,←List.append_assoc]
     refine hD.append ?_
     show List.Perm [x.e] _
     rw[hx]
    have hlen:(Ut D x).length=D.length+1:=by rw[q1.length_eq];simp
    clear hs3
    (conv=>whnf);repeat' (first|(refine Ah3 (f:=GX.av) (l:=D) (x:=x) hxa BA hn3 (by omega) ?_;conv=>whnf)|(refine kA ?_;conv=>whnf)|(refine Br.mk (fun hc=>?_) fun hc=>?_<;>first|exact hc.elim|conv=>whnf)|(refine kB ?_))
    refine Ag (fun z env s=>∃(m c4 gd:Nat) (w:Int) (E:Array GX),z=m∧w=m∧m≤D.length∧insInner BR 0 m E=insInner BR 0 D.length (D++[x]).toArray∧E.size=D.length+1∧env=[(1,.ref 0 0 0 0),(3,.own 1 gd 0 (D.length+1)),(4,.int .i64 i),(5,.ref 2 c 0 0),(6,.int .i64 j),(7,.int .i64 k),(8,.int .i64 w)]∧s=⟨[.arr 0 4 true true [g.av],.arr gd 8 true true (vs GX.av E.toList),.arr c 3 true true [g.nodes[i].av]],c4⟩) ?_ _ _ _ ⟨D.length,_,_,_,(D++[x]).toArray,rfl,?_,by omega,rfl,by simp,rfl,rfl⟩
    rotate_left
    ·omega
    clear hD hDs hxa hx
    rintro m _ _ ⟨_,c4,gd,w,E,rfl,hw,hm,hE,hEl,rfl,rfl⟩
    refine⟨rfl,?_⟩
    have fin:insInner BR 0 m E=E→Ut D x=E.toList:=fun h=>by unfold Ut;rw[← hE,h]
    cases m with
    |zero=>
     have hfi:=fin (by rw[insInner])
     (conv=>whnf);repeat' (first  |(refine kA ?_;conv=>whnf)|(refine Br.mk (fun hc=>?_) fun hc=>?_<;>first|exact hc.elim|conv=>whnf)|(refine kB ?_))
     all_goals first
      |exact again.mk ⟨_,by omega,k+1,_,_,D.length+1,_,Ut D x,rfl,by omega,hD2,q2,hlen.symm,by omega,rfl,by rw[hfi]⟩
      |(exfalso;omega)
    |succ m=>
     obtain rfl:w=((m+1:Nat):Int):=by omega
     (conv=>whnf);repeat' (first|((with_reducible show Ce _ _ _);refine He (m+1) ?_;conv=>whnf)|((with_reducible show Ce _ _ _);refine He (m) ?_;conv=>whnf)|(refine Aa YO ?_;rintro _ rfl;conv=>whnf)|(refine F5 (fun hc=>?_) (fun hc=>?_)<;>conv=>whnf)|((with_reducible show eqK _ _);refine LH BA (m+1) ?_;conv=>whnf)|((with_reducible show eqK _ _);refine LH BA (m) ?_;conv=>whnf)|(refine kA ?_;conv=>whnf)|(refine Br.mk (fun hc=>?_) fun hc=>?_<;>first|exact hc.elim|conv=>whnf)|(refine kB ?_))
     all_goals first
      |(rw [Vd (by omega) (by assumption)]at hE
        exact again.mk ⟨_,by omega,m,_,_,_,swp E (m+1) m,rfl,by omega,by omega,hE,by simpa using hEl,rfl,by rw[Abv (by omega)]⟩)
      |(have hfi:=fin (Qp fun _=>by assumption)
        exact again.mk ⟨_,by omega,k+1,_,_,D.length+1,_,Ut D x,rfl,by omega,hD2,q2,hlen.symm,by omega,rfl,by rw[hfi]⟩)
      |(exfalso;omega)
   ·have hwh:(g.nodes[i].props.take k).map (mkT g.nodes[i].labels[j] g.nodes[i].id)=MK g.nodes[i] g.nodes[i].labels[j]:=by rw[List.take_of_length_le (by omega)];rfl
    rw[hwh]at hD
    have hB2:(D.map GX.e).Perm (ents (g.nodes.take i)++(g.nodes[i].labels.take (j+1)).flatMap (MK g.nodes[i])):=by
     rw[hs2,←List.append_assoc]
     exact hD.trans (hB.append_right _)
    (conv=>whnf);repeat' (first  |(refine kA ?_;conv=>whnf)|(refine Br.mk (fun hc=>?_) fun hc=>?_<;>first|exact hc.elim|conv=>whnf)|(refine kB ?_))
    all_goals first
     |exact again.mk ⟨_,by omega,j+1,_,_,_,_,D,rfl,by omega,hB2,hDs,hn3,rfl,rfl⟩
     |(exfalso;omega)
  ·have hwh:(g.nodes[i].labels.take j).flatMap (MK g.nodes[i])=VL g.nodes[i]:=by rw[List.take_of_length_le (by omega)];rfl
   rw[hwh,←hs]at hB
   (conv=>whnf);repeat' (first  |(refine kA ?_;conv=>whnf)|(refine Br.mk (fun hc=>?_) fun hc=>?_<;>first|exact hc.elim|conv=>whnf)|(refine kB ?_))
   all_goals first
        |exact again.mk ⟨_,by omega,i+1,_,_,_,_,B,rfl,by omega,hB,hBs,hn2,rfl,rfl⟩
        |(exfalso;omega)
 ·rw[List.take_of_length_le (by omega)]at hA
  (conv=>whnf);repeat' (first  |(refine kA ?_;conv=>whnf)|(refine Br.mk (fun hc=>?_) fun hc=>?_<;>first|exact hc.elim|conv=>whnf)|(refine kB ?_))
  refine⟨fa,A,?_,hA,hAs⟩
  rw[hnA,QI];simp
end
section
open Go.Sort
noncomputable def notBelow (a:GX) (e:GT):Bool:=!decide (I8 1 a.e e<0)
theorem Ajd {a x:GX}:notBelow a x.e=!BR a x:=by unfold notBelow BR QK;rfl
theorem count_eq {M:List GT} {W1 W2:List GX} (p1:(W1.map GX.e).Perm M) (p2:(W2.map GX.e).Perm M) (a:GX):W1.countP (fun x=>!BR a x)=W2.countP (fun x=>!BR a x):=by
 have h:=(p1.trans p2.symm).countP_eq (notBelow a)
 rw[List.countP_map,List.countP_map]at h
 have e:(notBelow a∘GX.e)=fun x=>!BR a x:=by funext x;exact Ajd
 rw[e]at h
 exact h
theorem TV {M:List GT} {W1 W2:List GX} (p1:(W1.map GX.e).Perm M) (p2:(W2.map GX.e).Perm M) (s1:W1.Pairwise (fun x y=>BR y x=false)) (s2:W2.Pairwise (fun x y=>BR y x=false)) {i:Nat} (h1:i<W1.length) (h2:i<W2.length):BR W1[i] W2[i]=false:=by
 cases hab:BR W1[i] W2[i]with
 |false=>rfl
 |true=>
  have hc:=count_eq p1 p2 W1[i]
  have c1:i+1≤W1.countP (fun x=>!BR W1[i] x):=by
   have e:(W1.take (i+1)).countP (fun x=>!BR W1[i] x)=i+1:=by
        have:(W1.take (i+1)).length=i+1:=by rw[List.length_take];omega
        refine(?_:_=(W1.take (i+1)).length).trans this
        refine List.countP_eq_length.2 fun x hx=>?_
        obtain⟨j,hj,rfl⟩:=List.getElem_of_mem hx
        rw[List.getElem_take]
        rw[List.length_take]at hj
        rcases Nat.lt_or_ge j i with h|h
        ·rw[List.pairwise_iff_getElem.1 s1 j i (by omega) h1 h];rfl
        ·obtain rfl:j=i:=by omega
         rw[H8.irrefl];rfl
   have:=List.countP_append (p:=fun x=>!BR W1[i] x) (l₁:=W1.take (i+1)) (l₂:=W1.drop (i+1))
   rw[List.take_append_drop,e]at this
   omega
  have c2:W2.countP (fun x=>!BR W1[i] x)≤i:=by
   have e:(W2.drop i).countP (fun x=>!BR W1[i] x)=0:=by
        refine List.countP_eq_zero.2 fun x hx=>?_
        obtain⟨j,hj,rfl⟩:=List.getElem_of_mem hx
        rw[List.getElem_drop]
        rw[List.length_drop]at hj
        have hn:BR W2[i+j] W2[i]=false:=by
         rcases Nat.eq_zero_or_pos j with h|h
         ·subst h;exact H8.irrefl _
         ·exact List.pairwise_iff_getElem.1 s2 i (i+j) h2 (by omega) (by omega)
        cases hh:BR W1[i] W2[i+j]with
        |true=>simp
        |false=>
         have:=H8.ntrans _ _ _ hh hn
         rw[hab]at this;cases this
   have:=List.countP_append (p:=fun x=>!BR W1[i] x) (l₁:=W2.take i) (l₂:=W2.drop i)
   rw[List.take_append_drop,e]at this
   have h3:(W2.take i).countP (fun x=>!BR W1[i] x)≤(W2.take i).length:=List.countP_le_length
   rw[List.length_take]at h3
   omega
  omega
theorem NJ {M:List GT} {W1 W2:List GX} (p1:(W1.map GX.e).Perm M) (p2:(W2.map GX.e).Perm M) (s1:W1.Pairwise (fun x y=>BR y x=false)) (s2:W2.Pairwise (fun x y=>BR y x=false)) {i:Nat} (h1:i<W1.length) (h2:i<W2.length):QK W1[i] W2[i]=0:=by
 have a:=TV p1 p2 s1 s2 h1 h2
 have b:=TV p2 p1 s2 s1 h2 h1
 unfold BR at a b
 have a:=of_decide_eq_false a
 have b:=of_decide_eq_false b
 have:=Y7.anti W1[i] W2[i]
 omega
theorem Afj {W1 W2:List GX} {b1 b2:Bool} (hl:W1.length<2^61) (he:W1.length=W2.length) (h:∀i (h1:i<W1.length) (h2:i<W2.length),QK W1[i] W2[i]=0):Ae (Ad tab) 39 [.sl b1 (vs GX.av W1),.sl b2 (vs GX.av W2)] (· =.bool true):=by
 refine Ac rfl rfl ?_
 (conv=>whnf);repeat' (first  |(refine kA ?_;conv=>whnf)|(refine Br.mk (fun hc=>?_) fun hc=>?_<;>first|exact hc.elim|conv=>whnf)|(refine kB ?_))
 all_goals first|(exfalso;omega)|skip
 refine Ag (fun m env s=>∃i:Nat,m=W1.length-i∧env=[(0,.sl b1 (vs GX.av W1)),(1,.sl b2 (vs GX.av W2)),(5,.int .i64 i)]∧s=⟨[],0⟩) ?_ _ _ _ ⟨0,rfl,rfl,rfl⟩
 rintro _ _ _ ⟨i,rfl,rfl,rfl⟩
 refine⟨rfl,?_⟩
 by_cases hlt:i<W1.length
 ·have h2:i<W2.length:=by omega
  have hz:=YO (x:=W1[i]) (y:=W2[i])
  rw[h i hlt h2]at hz
  (conv=>whnf);repeat' (first|(refine Aa hz ?_;rintro _ rfl;conv=>whnf)|(refine kA ?_;conv=>whnf)|(refine Br.mk (fun hc=>?_) fun hc=>?_<;>first|exact hc.elim|conv=>whnf)|(refine kB ?_))
  all_goals first
   |exact again.mk ⟨_,by omega,i+1,rfl,rfl,rfl⟩
   |(exfalso;omega)
 ·(conv=>whnf);repeat' (first  |(refine kA ?_;conv=>whnf)|(refine Br.mk (fun hc=>?_) fun hc=>?_<;>first|exact hc.elim|conv=>whnf)|(refine kB ?_))
  all_goals first|rfl|(exfalso;omega)
theorem Xy {M:List GT} {v w:AV} (hM:M.length<2^61) (h1:YN M v) (h2:YN M w):Ae (Ad tab) 39 [v,w] (· =.bool true):=by
 obtain⟨b1,W1,rfl,p1,s1⟩:=h1
 obtain⟨b2,W2,rfl,p2,s2⟩:=h2
 have e1:=p1.length_eq
 have e2:=p2.length_eq
 rw[List.length_map]at e1 e2
 exact Afj (by omega) (by omega) fun i h1 h2=>NJ p1 p2 s1 s2 h1 h2
end
section
open Go.Sort
theorem JH {d:Nat} {cs:List AV} (h:CZ Tryz.prog d 49 cs):∃v:GV,cs=[.int .i64 v.k,.int .i64 v.n,.int .i64 v.d,.str v.s,.sl v.nn v.l]∧v.ok∧∃e,e<d∧∀x∈v.l,like Tryz.prog e 49 x:=by
 obtain⟨d',rfl,g1,g2⟩:=DJ Tryz.underlying49 h
 rw[NI]at g1
 obtain⟨a,b,c,e,f,rfl⟩:=Af6 g1
 clear g1
 simp only[List.forall_mem_cons]at g2
 obtain⟨f1,f2,f3,f4,f5,_⟩:=g2
 simp only[QH,Je,VI,List.drop_zero,List.drop_succ_cons,List.take_succ_cons,List.take_zero]at f1 f2 f3 f4 f5
 obtain⟨k,e1,h1⟩:=DN f1
 obtain⟨n,e2,h2⟩:=DN f2
 obtain⟨m,e3,h3⟩:=DN f3
 obtain⟨s,e4,h4⟩:=JI f4
 obtain⟨d'',hd,nl,xs,e5,h5,h6,h7⟩:=IG Tryz.underlying47 f5
 cases e1;cases e2;cases e3;cases e4;cases e5
 exact⟨⟨k,n,m,s,nl,xs⟩,rfl,⟨h1,h2,h3,h4,SX h6,h5,fun x hx=>⟨_,h7 x hx⟩⟩,d'',by omega,h7⟩
theorem VJ:∀(n d:Nat),d≤n→∀{a:AV},like Tryz.prog d 49 a→∃v:GV,a=v.av∧v.ok∧dep (n+1) v
 |0,d,hd,a,h=>by
  obtain⟨cs,rfl,h0⟩:=DK Tryz.underlying49 h
  obtain⟨v,rfl,h1,e,he,_⟩:=JH h0
  omega
 |n+1,d,hd,a,h=>by
  obtain⟨cs,rfl,h0⟩:=DK Tryz.underlying49 h
  obtain⟨v,rfl,h1,e,he,h2⟩:=JH h0
  exact⟨v,rfl,h1,fun x hx=>VJ n e (by omega) (h2 x hx)⟩
theorem VK {a:AV} (h:Like Tryz.prog 107 a):∃v:GT,a=v.av∧v.v.ok∧∃m,dep m v.v:=by
 obtain⟨d,h⟩:=h
 obtain⟨cs,rfl,h0⟩:=DK Tryz.underlying107 h
 obtain⟨d',rfl,g1,g2⟩:=DJ Tryz.underlying107 h0
 rw[AdT]at g1
 obtain⟨a,b,c,e,f,g,i,j,rfl⟩:=len8 g1
 clear g1
 simp only[List.forall_mem_cons]at g2
 obtain⟨f1,f2,f3,f4,_⟩:=g2
 simp only[Je,NI,QH,List.drop_zero,List.drop_succ_cons,List.take_succ_cons,List.take_zero]at f1 f2 f3 f4
 obtain⟨s,e1,h1⟩:=JI f1
 obtain⟨t,e2,h2⟩:=JI f2
 obtain⟨v,e3,h3,k,hk,h5⟩:=JH f3
 obtain⟨n,e4,h4⟩:=DN f4
 cases e1;cases e2;cases e3;cases e4
 exact⟨⟨s,t,v,n⟩,rfl,h3,k+2,fun x hx=>VJ k k (by omega) (h5 x hx)⟩
end
structure GC where
 op:Int
 id:Int
 fr:Int
 to:Int
 name:List UInt8
 v:GV
def GC.av (c:GC):AV:=.agg [.int .i64 c.op,.int .i64 c.id,.int .i64 c.fr,.int .i64 c.to,.str c.name,.int .i64 c.v.k,.int .i64 c.v.n,.int .i64 c.v.d,.str c.v.s,.sl c.v.nn c.v.l]
def GC.ok (c:GC):Prop:=I64 c.op∧I64 c.id∧I64 c.fr∧I64 c.to∧Ln c.name∧c.v.ok
def AfG (ns:List Int) (N:List GN):List GN:=N.filter fun n=>decide (n.id∉ns)
def AfH (es:List Int) (E:List GE):List GE:=E.filter fun e=>decide (e.id∉es)
theorem Qn:∀n:GN,n.av.cells.length=3:=fun _=>rfl
theorem cellsE:∀n:GE,n.av.cells.length=5:=fun _=>rfl
theorem OI:∀n:GP,n.av.cells.length=6:=fun _=>rfl
def OX (ns es:List Int) (g h:GG):Prop:=AfG ns h.nodes=AfG ns g.nodes∧AfH es h.edges=AfH es g.edges
theorem OX.refl (ns es:List Int) (g:GG):OX ns es g g:=⟨rfl,rfl⟩
theorem OX.trans {ns es:List Int} {g h k:GG} (h1:OX ns es g h) (h2:OX ns es h k):OX ns es g k:=⟨h2.1.trans h1.1,h2.2.trans h1.2⟩
theorem AkO {l:List (List UInt8)} {x:List UInt8} {nn:Bool} (hl:l.length<2^63):Ae (Ad tab) 124 [.sl nn (vs .str l),.str x] (· =.bool (decide (x∈l))):=by
 refine Ac rfl rfl ?_
 (conv=>whnf);repeat' (first|(refine kA ?_;conv=>whnf)|(refine Br.mk (fun hc=>?_) fun hc=>?_<;>first|exact hc.elim|conv=>whnf)  |(refine kB ?_))
 refine Ag (fun m env s=>∃i:Nat,m=l.length-i∧env=[(0,.sl nn (vs .str l)),(1,.str x),(5,.int .i64 i)]∧s=⟨[],0⟩∧x∉l.take i) ?_ _ _ _ ⟨0,rfl,rfl,rfl,by simp⟩
 rintro _ _ _ ⟨i,rfl,rfl,rfl,hx⟩
 refine⟨rfl,?_⟩
 (conv=>whnf);repeat' (first|(refine kA ?_;conv=>whnf)|(refine Br.mk (fun hc=>?_) fun hc=>?_<;>first|exact hc.elim|conv=>whnf)  |(refine kB ?_))
 ·subst hc;exact Bf (by simp)
 ·exact again.mk ⟨_,by omega,i+1,rfl,rfl,rfl,nms (by omega) hx hc⟩
 ·rw[EK hc]at hx;exact Aw hx
structure AJ where
 fr:Int
 to:Int
 ed:Int
def AJ.av (a:AJ):AV:=.agg [.int .i64 a.fr,.int .i64 a.to,.int .i64 a.ed]
theorem UE:∀a:AJ,a.av.cells.length=3:=fun _=>rfl
theorem Aif {g:GG} {len c go gx:Nat} {nn:Bool} {W:List AJ} {x:AJ} {id dir ii:Int} (hl:len=W.length) (h0:0<len) (hs:len<2^61) {Q:AU→Env→Am→Prop}
 (hQ:∀(t:Nat) (W':List AJ),W'.length=len→t<len→Q (.exit 2) [(1,.int .i64 id),(2,.sl false []),(3,.int .i64 dir),(4,.ref 0 0 0 0),(9,.own 1 go 0 len),(10,.int .i64 ii),(11,.ref 2 gx 0 0),(13,.int .i64 t),(84,.bool false)] ⟨[.arr 0 4 true true [g.av],.arr go 3 nn true (vs AJ.av W'),.arr gx 3 true true [x.av]],c⟩):
 Run (Ad tab) (.loop l242_0_h l242_0_b) [(1,.int .i64 id),(2,.sl false []),(3,.int .i64 dir),(4,.ref 0 0 0 0),(9,.own 1 go 0 len),(10,.int .i64 ii),(11,.ref 2 gx 0 0),(13,.int .i64 (len-1:Nat))] ⟨[.arr 0 4 true true [g.av],.arr go 3 nn true (vs AJ.av W),.arr gx 3 true true [x.av]],c⟩ Q:=by
 refine Ag (fun m env s=>∃(t:Nat) (W:List AJ),m=t∧t<len∧W.length=len∧env=[(1,.int .i64 id),(2,.sl false []),(3,.int .i64 dir),(4,.ref 0 0 0 0),(9,.own 1 go 0 len),(10,.int .i64 ii),(11,.ref 2 gx 0 0),(13,.int .i64 t)]∧s=⟨[.arr 0 4 true true [g.av],.arr go 3 nn true (vs AJ.av W),.arr gx 3 true true [x.av]],c⟩) ?_ _ _ _ ⟨len-1,W,rfl,by omega,hl.symm,rfl,rfl⟩
 clear hl
 rintro m _ _ ⟨t,W,hm,ht,hW,rfl,rfl⟩
 subst m
 refine⟨rfl,?_⟩
 by_cases h:0<t
 ·(conv=>whnf);repeat' (first|(apply Ap;(· exact nVz (t-1) (by omega) (by omega));conv=>whnf)|((with_reducible show eqK _ _);refine tV UE (x:=W[t-1]) t ?_ (by omega);conv=>whnf)|(refine kA ?_;conv=>whnf)|(refine Br.mk (fun hc=>?_) fun hc=>?_<;>first|exact hc.elim|conv=>whnf)|(refine kB ?_))
  all_goals first
   |(refine again.mk ⟨t-1,by omega,t-1,W.set t W[t-1],rfl,by omega,by rw[List.length_set];exact hW,?_,rfl⟩;rw[show ((t-1:Nat):Int)=(t:Int)-1 by omega];done)
   |(refine again.mk ⟨t-1,by omega,t-1,W.set t W[t-1],rfl,by omega,by rw[List.length_set];exact hW,?_,rfl⟩;rw[show ((t-1:Nat):Int)=(t:Int)-1 by omega];rfl)
   |exact hQ _ _ hW ht
 ·(conv=>whnf);repeat' (first  |(refine kA ?_;conv=>whnf)|(refine Br.mk (fun hc=>?_) fun hc=>?_<;>first|exact hc.elim|conv=>whnf)|(refine kB ?_))
  exact hQ _ _ hW ht
structure PL {κ:Type} (lt:κ→κ→Bool):Prop where
 Nl:∀x,lt x x=false
 tr:∀x y z,lt x y=true→lt y z=true→lt x z=true
 tot:∀x y,lt x y=false→lt y x=false→x=y
def CB (a b:Int):Bool:=decide (a<b)
theorem Ar:PL CB where
 Nl:=fun x=>by simp[CB]
 tr:=fun x y z h1 h2=>by simp[CB]at *;omega
 tot:=fun x y h1 h2=>by simp[CB]at *;omega
section
variable {α κ:Type} {lt:κ→κ→Bool} {key:α→κ}
def Inc (lt:κ→κ→Bool) (key:α→κ) (l:List α):Prop:=l.Pairwise fun a b=>lt (key a) (key b)=true
def below (lt:κ→κ→Bool) (key:α→κ) (k:κ) (l:List α):List α:=l.filter fun a=>lt (key a) k
def above (lt:κ→κ→Bool) (key:α→κ) (k:κ) (l:List α):List α:=l.filter fun a=>lt k (key a)
def Ba (lt:κ→κ→Bool) (key:α→κ) (x:α) (l:List α):List α:=below lt key (key x) l++[x]++above lt key (key x) l
def CO (lt:κ→κ→Bool) (key:α→κ) (k:κ) (l:List α):List α:=below lt key k l++above lt key k l
structure AtK (lt:κ→κ→Bool) (key:α→κ) (k:κ) (l:List α) (i:Nat):Prop where
 le:i≤l.length
 lo:∀j (h:j<l.length),j<i→lt (key l[j]) k=true
 hi:∀j (h:j<l.length),i≤j→lt (key l[j]) k=false
theorem filter_all {p:α→Bool}:∀{l:List α},(∀ x∈l,p x=true)→l.filter p=l
 |[],_=>rfl
 |x::l,h=>by rw[List.filter_cons_of_pos (h x (by simp)),filter_all fun y hy=>h y (by simp[hy])]
theorem filter_none {p:α→Bool}:∀{l:List α},(∀ x∈l,p x=false)→l.filter p=[]
 |[],_=>rfl
 |x::l,h=>by rw[List.filter_cons_of_neg (by rw[h x (by simp)];simp),filter_none fun y hy=>h y (by simp[hy])]
theorem AtK.take {k:κ} {l:List α} {i:Nat} (h:AtK lt key k l i):l.take i=below lt key k l:=by
 unfold below
 conv=>rhs;rw[← List.take_append_drop i l]
 rw[List.filter_append,filter_all,filter_none,List.append_nil]
 ·intro x hx
  obtain⟨j,hj⟩:=List.mem_iff_getElem?.1 hx
  rw[List.getElem?_drop]at hj
  obtain⟨hlt,rfl⟩:=List.getElem?_eq_some_iff.1 hj
  exact h.hi _ hlt (by omega)
 ·intro x hx
  obtain⟨j,hj⟩:=List.mem_iff_getElem?.1 hx
  have hji:j<i:=by
   have:=(List.getElem?_eq_some_iff.1 hj).1
   rw[List.length_take]at this;omega
  rw[List.getElem?_take_of_lt hji]at hj
  obtain⟨hlt,rfl⟩:=List.getElem?_eq_some_iff.1 hj
  exact h.lo _ hlt hji
theorem AtK.SC (hs:PL lt) {k:κ} {l:List α} {i:Nat} (h:AtK lt key k l i) (hn:∀x∈l,key x≠k):l.drop i=above lt key k l:=by
 unfold above
 conv=>rhs;rw[← List.take_append_drop i l]
 rw[List.filter_append,filter_none,filter_all,List.nil_append]
 ·intro x hx
  have hm:=List.mem_of_mem_drop hx
  obtain⟨j,hj⟩:=List.mem_iff_getElem?.1 hx
  rw[List.getElem?_drop]at hj
  obtain⟨hlt,rfl⟩:=List.getElem?_eq_some_iff.1 hj
  have h1:=h.hi _ hlt (by omega)
  cases h2:lt k (key l[i+j])
  ·exact absurd (hs.tot _ _ h1 h2) (hn _ hm)
  ·rfl
 ·intro x hx
  obtain⟨j,hj⟩:=List.mem_iff_getElem?.1 hx
  have hji:j<i:=by
   have:=(List.getElem?_eq_some_iff.1 hj).1
   rw[List.length_take]at this;omega
  rw[List.getElem?_take_of_lt hji]at hj
  obtain⟨hlt,rfl⟩:=List.getElem?_eq_some_iff.1 hj
  have h1:=h.lo _ hlt hji
  cases h2:lt k (key l[j])
  ·rfl
  ·have:=hs.tr _ _ _ h1 h2
   rw[hs.Nl]at this
   cases this
theorem Inc.get {l:List α} (h:Inc lt key l) {i j:Nat} (hij:i<j) (hj:j<l.length):lt (key l[i]) (key l[j])=true:=List.pairwise_iff_getElem.1 h i j (by omega) hj hij
theorem AtK.found (hs:PL lt) {k:κ} {l:List α} {i:Nat} (hl:Inc lt key l) (h:AtK lt key k l i) (hf:∃x∈l,key x=k):∃hi:i<l.length,key l[i]=k∧l.drop (i+1)=above lt key k l:=by
 obtain⟨x,hx,hk⟩:=hf
 obtain⟨j,hj,rfl⟩:=List.getElem_of_mem hx
 have hij:i≤j:=by
  rcases Nat.lt_or_ge j i with h1|h1
  ·have:=h.lo j hj h1
   rw[hk,hs.Nl]at this
   cases this
  ·exact h1
 have hik:i<l.length:=by omega
 have hki:key l[i]=k:=by
  rcases Nat.lt_or_ge i j with h1|h1
  ·have h2:=hl.get h1 hj
   rw[hk,h.hi i hik (Nat.le_refl _)]at h2
   cases h2
  ·obtain rfl:i=j:=by omega
   exact hk
 refine⟨hik,hki,?_⟩
 unfold above
 conv=>rhs;rw[← List.take_append_drop (i+1) l]
 rw[List.filter_append,filter_none,filter_all,List.nil_append]
 ·intro x hx
  obtain⟨q,hq⟩:=List.mem_iff_getElem?.1 hx
  rw[List.getElem?_drop]at hq
  obtain⟨hlt,rfl⟩:=List.getElem?_eq_some_iff.1 hq
  rw[← hki]
  exact hl.get (by omega) hlt
 ·intro x hx
  obtain⟨q,hq⟩:=List.mem_iff_getElem?.1 hx
  have hqi:q<i+1:=by
   have:=(List.getElem?_eq_some_iff.1 hq).1
   rw[List.length_take]at this;omega
  rw[List.getElem?_take_of_lt hqi]at hq
  obtain⟨hlt,rfl⟩:=List.getElem?_eq_some_iff.1 hq
  rcases Nat.lt_or_ge q i with h1|h1
  ·have h2:=h.lo _ hlt h1
   cases h3:lt k (key l[q])
   ·rfl
   ·have:=hs.tr _ _ _ h2 h3
    rw[hs.Nl]at this
    cases this
  ·obtain rfl:q=i:=by omega
   rw[hki,hs.Nl]
theorem AtK.ins (hs:PL lt) {x:α} {l:List α} {i:Nat} (h:AtK lt key (key x) l i) (hn:∀y∈l,key y≠key x):l.take i++[x]++l.drop i=Ba lt key x l:=by
 rw[h.take,h.SC hs hn];rfl
theorem AtK.set (hs:PL lt) {x:α} {l:List α} {i:Nat} (hl:Inc lt key l) (h:AtK lt key (key x) l i) (hf:∃y∈l,key y=key x):l.set i x=Ba lt key x l:=by
 obtain⟨hi,_,hd⟩:=h.found hs hl hf
 rw[List.set_eq_take_append_cons_drop,if_pos hi,h.take,hd]
 simp[Ba]
theorem AtK.del (hs:PL lt) {k:κ} {l:List α} {i:Nat} (hl:Inc lt key l) (h:AtK lt key k l i) (hf:∃y∈l,key y=k):l.take i++l.drop (i+1)=CO lt key k l:=by
 obtain⟨hi,_,hd⟩:=h.found hs hl hf
 rw[h.take,hd];rfl
theorem BU (hs:PL lt) {x y:α} {l:List α}:y∈Ba lt key x l→y=x∨y∈l:=by
 intro h
 simp only[Ba,below,above,List.mem_append,List.mem_filter,List.mem_singleton]at h
 rcases h with(h|h)|h
 ·exact .inr h.1
 ·exact .inl h
 ·exact .inr h.1
theorem Ei {k:κ} {y:α} {l:List α}:y∈CO lt key k l→y∈l:=by
 intro h
 simp only[CO,below,above,List.mem_append,List.mem_filter]at h
 rcases h with h|h<;>exact h.1
theorem Ii (hs:PL lt) {x:α} {l:List α} (hl:Inc lt key l):Inc lt key (Ba lt key x l):=by
 unfold Ba Inc
 refine List.pairwise_append.2 ⟨List.pairwise_append.2 ⟨hl.filter _,List.pairwise_singleton _ _,?_⟩,hl.filter _,?_⟩
 ·intro a ha b hb
  simp only[below,List.mem_filter,List.mem_singleton]at ha hb
  subst hb
  exact ha.2
 ·intro a ha b hb
  simp only[above,List.mem_filter]at hb
  rcases List.mem_append.1 ha with ha|ha
  ·simp only[below,List.mem_filter]at ha
   exact hs.tr _ _ _ ha.2 hb.2
  ·simp only[List.mem_singleton]at ha
   subst ha
   exact hb.2
theorem Kq (hs:PL lt) {k:κ} {l:List α} (hl:Inc lt key l):Inc lt key (CO lt key k l):=by
 unfold CO Inc
 refine List.pairwise_append.2 ⟨hl.filter _,hl.filter _,?_⟩
 intro a ha b hb
 simp only[below,above,List.mem_filter]at ha hb
 exact hs.tr _ _ _ ha.2 hb.2
theorem Kr (hs:PL lt) [DecidableEq κ] {k:κ} {l:List α} (hl:Inc lt key l):CO lt key k l=l.filter fun a=>decide (key a≠k):=by
 induction l with
 |nil=>rfl
 |cons a l ih=>
  have hl':=List.pairwise_cons.1 hl
  have ih:=ih hl'.2
  by_cases hk:key a=k
  ·subst hk
   have h1:below lt key (key a) (a::l)=[]:=filter_none fun x hx=>by
        rcases List.mem_cons.1 hx with rfl|hx
        ·exact hs.Nl _
        ·cases h3:lt (key x) (key a)
         ·rfl
         ·have:=hs.tr _ _ _ (hl'.1 x hx) h3
          rw[hs.Nl]at this;cases this
   have h2:above lt key (key a) (a::l)=l:=by
        unfold above
        rw[List.filter_cons_of_neg (by simp[hs.Nl]),filter_all hl'.1]
   rw[CO,h1,h2,List.nil_append,List.filter_cons_of_neg (by simp),filter_all]
   intro x hx
   have:=hl'.1 x hx
   simp only[ne_eq,decide_not,Bool.not_eq_true',decide_eq_false_iff_not]
   rintro e
   rw[e,hs.Nl]at this
   cases this
  ·rw[List.filter_cons_of_pos (by simpa using hk),←ih]
   cases h1:lt (key a) k
   ·have h2:lt k (key a)=true:=by
      cases h2:lt k (key a)
      ·exact absurd (hs.tot _ _ h1 h2) hk
      ·rfl
    have hb:below lt key k l=[]:=filter_none fun x hx=>by
      cases h3:lt (key x) k
      ·rfl
      ·have:=hs.tr _ _ _ (hs.tr _ _ _ h2 (hl'.1 x hx)) h3
       rw[hs.Nl]at this;cases this
    unfold CO
    have hb':below lt key k (a::l)=[]:=by
      unfold below at hb ⊢
      rw[List.filter_cons_of_neg (by simp[h1]),hb]
    rw[hb,hb',List.nil_append,List.nil_append]
    simp only[above,List.filter_cons,h2,if_true]
   ·have h2:lt k (key a)=false:=by
      cases h2:lt k (key a)
      ·rfl
      ·have:=hs.tr _ _ _ h1 h2
       rw[hs.Nl]at this;cases this
    simp[CO,below,above,h1,h2]
end
section
variable {α κ:Type} {lt:κ→κ→Bool} {key:α→κ}
theorem Lc {x y:α} {L:List α} (hs:PL lt) (h:lt (key x) (key y)=true):Ba lt key x (L++[y])=Ba lt key x L++[y]:=by
 have h1:lt (key y) (key x)=false:=by
  cases hb:lt (key y) (key x)with
  |false=>rfl
  |true=>have:=hs.tr _ _ _ h hb;rw[hs.Nl]at this;cases this
 simp only[Ba,below,above,List.filter_append,List.filter_cons,List.filter_nil,h,h1,if_true,List.append_assoc]
 rfl
theorem J8 {x:α} {L:List α} (hs:PL lt) (h:∀y∈L,lt (key y) (key x)=true):Ba lt key x L=L++[x]:=by
 have e1:below lt key (key x) L=L:=filter_all h
 have e2:above lt key (key x) L=[]:=filter_none fun y hy=>by
  cases hb:lt (key x) (key y)with
  |false=>rfl
  |true=>have:=hs.tr _ _ _ hb (h y hy);rw[hs.Nl]at this;cases this
 rw[Ba,e1,e2,List.append_nil]
theorem Ou {x y:α} {L:List α} (hs:PL lt) (h:∀y∈L,lt (key y) (key x)=true) (e:key y=key x):Ba lt key x (L++[y])=L++[x]:=by
 have h1:lt (key y) (key x)=false:=by rw[e];exact hs.Nl _
 have h2:lt (key x) (key y)=false:=by rw[e];exact hs.Nl _
 rw[← J8 hs h]
 simp[Ba,below,above,List.filter_append,h1,h2]
end
end AI
end Go.Proofs.YtceiccjppfapjaaGreatDoor
