/- Walks turned round; distances and the number of nodes: plain. Sorting numbers in place: the order. Sorting in place (Ordered[int]): insertion, heaps. Sorting in place (Ordered[int]): the pivot, reversing, breaking patterns. -/
import Derived.Test.YthjeehjphekjmaaGreatDoorRMab
import Derived.Test.YthjeehjphekjmaaGreatDoorRMad
set_option linter.unusedVariables false
set_option maxRecDepth 4000
namespace Go.Proofs.YthjeehjphekjmaaGreatDoor
namespace AI
theorem SV {nb:Int→List Int}:∀{k:Nat} {a x:Int},W nb a (k+1) x↔∃y,y∈nb a∧W nb y k x
 |0,a,x=>by
  rw[Dw]
  constructor
  ·rintro⟨y,h1,h2⟩
   rw[EU]at h1
   subst h1
   exact⟨x,h2,(EU nb).2 rfl⟩
  ·rintro⟨y,h1,h2⟩
   rw[EU]at h2
   subst h2
   exact⟨a,(EU nb).2 rfl,h1⟩
 |k+1,a,x=>by
  rw[Dw]
  constructor
  ·rintro⟨y,h1,h2⟩
   obtain⟨z,h3,h4⟩:=SV.1 h1
   exact⟨z,h3,(Dw nb).2 ⟨y,h4,h2⟩⟩
  ·rintro⟨z,h3,h4⟩
   obtain⟨y,h5,h6⟩:=(Dw nb).1 h4
   exact⟨y,SV.2 ⟨z,h3,h5⟩,h6⟩
theorem VK {nb nc:Int→List Int} (h:∀a x,x∈nb a↔a∈nc x):∀{k:Nat} {a x:Int},W nb a k x↔W nc x k a
 |0,a,x=>by rw[EU,EU];exact eq_comm
 |k+1,a,x=>by
  rw[Dw,SV]
  constructor
  ·rintro⟨y,h1,h2⟩;exact⟨y,(h _ _).1 h2,(VK h).1 h1⟩
  ·rintro⟨y,h1,h2⟩;exact⟨y,(VK h).2 h2,(h _ _).2 h1⟩
def CY (types:List (List UInt8)) (dir:Int) (E:List GE) (a:Int):List Int:=(outs types a dir E).map (·.to)
theorem IJ {types:List (List UInt8)} {dir:Int} {E:List GE} {a x:Int}:x∈CY types dir E a↔∃e∈E,HT types e∧(((dir=1∨dir=3)∧e.fr=a∧e.to=x)∨((dir=2∨dir=3)∧e.to=a∧e.fr=x)):=by
 unfold CY outs
 rw[List.mem_map]
 constructor
 ·rintro⟨y,hy,rfl⟩
  obtain⟨e,he,ho⟩:=List.mem_filterMap.1 hy
  refine⟨e,he,?_⟩
  unfold outOf at ho
  split at ho
  ·rename_i ht
   refine⟨ht,?_⟩
   unfold stepOf at ho
   split at ho
   ·rename_i hc;cases ho;exact .inl ⟨hc.1,hc.2,rfl⟩
   ·split at ho
    ·rename_i hc;cases ho;exact .inr ⟨hc.1,hc.2,rfl⟩
    ·cases ho
  ·cases ho
 ·rintro⟨e,he,ht,h⟩
  by_cases h1:(dir=1∨dir=3)∧e.fr=a
  ·refine⟨⟨a,e.to,e.id⟩,List.mem_filterMap.2 ⟨e,he,?_⟩,?_⟩
   ·unfold outOf stepOf
    rw[if_pos ht,if_pos h1]
   ·rcases h with h|h
    ·exact h.2.2
    ·show e.to=x;rw[h.2.1,←h.2.2,h1.2]
  ·have h2:(dir=2∨dir=3)∧e.to=a∧e.fr=x:=by
        rcases h with h|h
        ·exact absurd ⟨h.1,h.2.1⟩ h1
        ·exact h
   refine⟨⟨a,e.fr,e.id⟩,List.mem_filterMap.2 ⟨e,he,?_⟩,h2.2.2⟩
   unfold outOf stepOf
   rw[if_pos ht,if_neg h1,if_pos ⟨h2.1,h2.2.1⟩]
section
open Go.Sort
def Ci (x y:Int):Bool:=decide (x<y)
theorem LC {x y:Int}:Ci x y=true↔x<y:=by unfold Ci;rw[decide_eq_true_eq]
theorem Np {x y:Int}:Ci x y=false↔¬x<y:=by rw[← LC];simp
theorem J8:SWO Ci where
 irrefl x:=Np.2 (by omega)
 trans x y z h1 h2:=LC.2 (by have:=LC.1 h1;have:=LC.1 h2;omega)
 ntrans x y z h1 h2:=Np.2 (by have:=Np.1 h1;have:=Np.1 h2;omega)
theorem Bl (x:Int):(AV.int .i64 x).cells.length=1:=rfl
theorem AfS {x:Int}:Au (Ac tab) 70 [.int .i64 x] (· =.bool (decide False)):=by
 refine Af rfl rfl ?_
 (conv=>whnf);repeat' (first  |(refine kA ?_;conv=>whnf)|(refine Br.mk (fun hc=>?_) fun hc=>?_<;>first|exact hc.elim|conv=>whnf)|(refine kB ?_))
 all_goals first|exact absurd rfl hc|rfl
theorem Io {x y:Int}:Au (Ac tab) 112 [.int .i64 x,.int .i64 y] (· =.bool (Ci x y)):=by
 refine Af rfl rfl ?_
 (conv=>whnf);repeat' (first|(refine EJ AfS (fun hc=>absurd hc id) (fun _=>?_);conv=>whnf)|(refine kA ?_;conv=>whnf)|(refine Br.mk (fun hc=>?_) fun hc=>?_<;>first|exact hc.elim|conv=>whnf)|(refine kB ?_))
 all_goals first|exact Dk (by first|assumption|omega)|exact BU (by first|assumption|omega)
attribute [irreducible] Ci
end
section
open Go.Sort
set_option maxHeartbeats 1000000 in
theorem AeJ {Ap:Obj} {g c len:Nat} {nn cl:Bool} {d:Array Int} {a b:Nat} (hl:d.size=len) (hb:b≤len) (hs:len<2^61) (ha:a≤len):
 AQ (Ac tab) 145 [.own 1 g 0 len,.int .i64 a,.int .i64 b] ⟨[Ap,.arr g 1 nn cl (vs (.int .i64) d.toList)],c⟩ fun out s'=>∃c',out=.ok (.CO [])∧s'=⟨[Ap,.arr g 1 nn cl (vs (.int .i64) (insertionSort Ci d a b).toList)],c'⟩:=by
 refine Ar rfl rfl ?_
 (conv=>whnf);repeat' (first  |(refine kA ?_;conv=>whnf)|(refine Br.mk (fun hc=>?_) fun hc=>?_<;>first|exact hc.elim|conv=>whnf)|(refine kB ?_))
 refine Ae (fun m env s=>∃(i c:Nat) (D:Array Int),m=b-i∧insOuter Ci a b i D=insertionSort Ci d a b∧D.size=len∧env=[(0,.own 1 g 0 len),(1,.int .i64 a),(2,.int .i64 b),(6,.int .i64 i)]∧s=⟨[Ap,.arr g 1 nn cl (vs (.int .i64) D.toList)],c⟩) ?_ _ _ _ ⟨a+1,c,d,rfl,rfl,hl,rfl,rfl⟩
 rintro _ _ _ ⟨i,c,D,rfl,hD,hDl,rfl,rfl⟩
 refine⟨rfl,?_⟩
 (conv=>whnf);repeat' (first  |(refine kA ?_;conv=>whnf)|(refine Br.mk (fun hc=>?_) fun hc=>?_<;>first|exact hc.elim|conv=>whnf)|(refine kB ?_))
 ·rw[Wy (by omega)]at hD
  refine Ae (fun m env s=>∃(j c:Nat) (z:Int) (E:Array Int),m=j∧z=j∧j≤i∧insInner Ci a j E=insInner Ci a i D∧E.size=len∧env=[(0,.own 1 g 0 len),(1,.int .i64 a),(2,.int .i64 b),(6,.int .i64 i),(7,.int .i64 z)]∧s=⟨[Ap,.arr g 1 nn cl (vs (.int .i64) E.toList)],c⟩) ?_ _ _ _ ⟨i,_,_,D,rfl,rfl,by omega,rfl,hDl,rfl,rfl⟩
  rintro j _ _ ⟨_,c,z,E,rfl,hz,hj,hE,hEl,rfl,rfl⟩
  refine⟨rfl,?_⟩
  cases j with
  |zero=>
   (conv=>whnf);repeat' (first  |(refine kA ?_;conv=>whnf)|(refine Br.mk (fun hc=>?_) fun hc=>?_<;>first|exact hc.elim|conv=>whnf)|(refine kB ?_))
   rw[← hE]at hD
   exact again.mk ⟨_,by omega,i+1,_,E,rfl,hD,hEl,rfl,rfl⟩
  |succ j=>
   (conv=>whnf);repeat' (first|((with_reducible show AY _ _ _);refine CG (j+1) ?_;conv=>whnf)|((with_reducible show AY _ _ _);refine CG (j) ?_;conv=>whnf)|(refine FX Io (fun hc=>?_) (fun hc=>?_)<;>conv=>whnf)|((with_reducible show eqK _ _);refine EP Bl (j+1) ?_;conv=>whnf)|((with_reducible show eqK _ _);refine EP Bl (j) ?_;conv=>whnf)|(refine kA ?_;conv=>whnf)|(refine Br.mk (fun hc=>?_) fun hc=>?_<;>first|exact hc.elim|conv=>whnf)|(refine kB ?_))
   ·rw[TQ (by omega) hc]at hE
    exact again.mk ⟨_,by omega,j,_,_,swp E (j+1) j,rfl,by omega,by omega,hE,by simpa using hEl,rfl,rfl⟩
   ·rw[Lu (fun _=>hc)]at hE
    rw[← hE]at hD
    exact again.mk ⟨_,by omega,i+1,_,E,rfl,hD,hEl,rfl,rfl⟩
   ·rw[Lu (fun h=>absurd h (by omega))]at hE
    rw[← hE]at hD
    exact again.mk ⟨_,by omega,i+1,_,E,rfl,hD,hEl,rfl,rfl⟩
 ·rw[WA (by omega)]at hD
  exact⟨_,rfl,by rw[hD]⟩
set_option maxHeartbeats 1000000 in
theorem Zf {Ap:Obj} {g c len:Nat} {nn cl:Bool} {d:Array Int} {lo hi first:Nat} (hl:d.size=len) (hb:first+hi≤len) (hs:len<2^61) (hlo:lo≤len):
 AQ (Ac tab) 172 [.own 1 g 0 len,.int .i64 lo,.int .i64 hi,.int .i64 first] ⟨[Ap,.arr g 1 nn cl (vs (.int .i64) d.toList)],c⟩ fun out s'=>∃c',out=.ok (.CO [])∧s'=⟨[Ap,.arr g 1 nn cl (vs (.int .i64) (siftDown Ci hi first lo d).toList)],c'⟩:=by
 refine Ar rfl rfl ?_
 (conv=>whnf);repeat' (first  |(refine kA ?_;conv=>whnf)|(refine Br.mk (fun hc=>?_) fun hc=>?_<;>first|exact hc.elim|conv=>whnf)|(refine kB ?_))
 refine Ae (fun m env s=>∃(root c:Nat) (z:Int) (D:Array Int),m=hi-root∧z=root∧root≤len∧siftDown Ci hi first root D=siftDown Ci hi first lo d∧D.size=len∧env=[(0,.own 1 g 0 len),(2,.int .i64 hi),(3,.int .i64 first),(8,.int .i64 z)]∧s=⟨[Ap,.arr g 1 nn cl (vs (.int .i64) D.toList)],c⟩) ?_ _ _ _ ⟨lo,c,_,d,rfl,rfl,hlo,rfl,hl,rfl,rfl⟩
 rintro _ _ _ ⟨root,c,z,D,rfl,hz,hr,hD,hDl,rfl,rfl⟩
 refine⟨rfl,?_⟩
 (conv=>whnf);repeat' (first|((with_reducible show AY _ _ _);refine CG (first+root) ?_;conv=>whnf)|((with_reducible show AY _ _ _);refine CG (first+(2*root+1)) ?_;conv=>whnf)|((with_reducible show AY _ _ _);refine CG (first+(2*root+1)+1) ?_;conv=>whnf)|(refine FX Io (fun hc=>?_) (fun hc=>?_)<;>conv=>whnf)|((with_reducible show eqK _ _);refine EP Bl (first+root) ?_;conv=>whnf)|((with_reducible show eqK _ _);refine EP Bl (first+(2*root+1)) ?_;conv=>whnf)|((with_reducible show eqK _ _);refine EP Bl (first+(2*root+1)+1) ?_;conv=>whnf)|(refine kA ?_;conv=>whnf)|(refine Br.mk (fun hc=>?_) fun hc=>?_<;>first|exact hc.elim|conv=>whnf)|(refine kB ?_))
 ·rw[OT (by omega)]at hD
  exact⟨_,rfl,by rw[hD]⟩
 all_goals first
  |(rw [Yh (by omega) (by assumption) hc]at hD
    exact again.mk ⟨_,by omega,2*root+2,_,_,swp D (first+root) (first+(2*root+2)),rfl,by omega,by omega,hD,by simpa using hDl,rfl,rfl⟩)
  |(rw [WB (by omega) (by assumption) hc]at hD
    exact⟨_,rfl,by rw[hD]⟩)
  |(rw [RS (by omega) (fun _=>by assumption) hc]at hD
    exact again.mk ⟨_,by omega,2*root+1,_,_,swp D (first+root) (first+(2*root+1)),rfl,by omega,by omega,hD,by simpa using hDl,rfl,rfl⟩)
  |(rw [Ox (by omega) (fun _=>by assumption) hc]at hD
    exact⟨_,rfl,by rw[hD]⟩)
  |(rw [RS (by omega) (fun h=>absurd h (by omega)) hc]at hD
    exact again.mk ⟨_,by omega,2*root+1,_,_,swp D (first+root) (first+(2*root+1)),rfl,by omega,by omega,hD,by simpa using hDl,rfl,rfl⟩)
  |(rw [Ox (by omega) (fun h=>absurd h (by omega)) hc]at hD
    exact⟨_,rfl,by rw[hD]⟩)
set_option maxHeartbeats 1000000 in
theorem AaQ {Ap:Obj} {g c len:Nat} {nn cl:Bool} {d:Array Int} {a n:Nat} {z:Int} {Q:Ak→Env→Ag→Prop} (hl:d.size=len) (hb:a+n≤len) (hs:len<2^61) (hz:z=(n:Int)-1)
 (hQ:∀c' e,Q (.exit 2) e ⟨[Ap,.arr g 1 nn cl (vs (.int .i64) (heapPop Ci a n d).toList)],c'⟩):
 Run (Ac tab) (.loop l146_1_h l146_1_b) [(0,.own 1 g 0 len),(6,.int .i64 a),(7,.int .i64 0),(10,.int .i64 z)] ⟨[Ap,.arr g 1 nn cl (vs (.int .i64) d.toList)],c⟩ Q:=by
 refine Ae (fun m env s=>∃(k c:Nat) (z:Int) (E:Array Int),m=k∧z=(k:Int)-1∧a+k≤len∧heapPop Ci a k E=heapPop Ci a n d∧E.size=len∧env=[(0,.own 1 g 0 len),(6,.int .i64 a),(7,.int .i64 0),(10,.int .i64 z)]∧s=⟨[Ap,.arr g 1 nn cl (vs (.int .i64) E.toList)],c⟩) ?_ _ _ _ ⟨n,c,_,d,rfl,hz,by omega,rfl,hl,rfl,rfl⟩
 clear hz
 rintro k _ _ ⟨_,c,z,E,rfl,hz,hk,hE,hEl,rfl,rfl⟩
 refine⟨rfl,?_⟩
 cases k with
 |succ k=>
  obtain rfl:z=(k:Nat):=by omega
  (conv=>whnf);repeat' (first|((with_reducible show AY _ _ _);refine CG (a) ?_;conv=>whnf)|((with_reducible show AY _ _ _);refine CG (a+k) ?_;conv=>whnf)|((with_reducible show eqK _ _);refine EP Bl (a) ?_;conv=>whnf)|((with_reducible show eqK _ _);refine EP Bl (a+k) ?_;conv=>whnf)|(refine kA ?_;conv=>whnf)|(refine Br.mk (fun hc=>?_) fun hc=>?_<;>first|exact hc.elim|conv=>whnf)|(refine kB ?_))
  refine(Zf (d:=swp E a (a+k)) (lo:=0) (by simpa using hEl) (by omega) hs (by omega)).mono ?_
  rintro _ _ ⟨c',rfl,rfl⟩
  (conv=>whnf);repeat' (first  |(refine kA ?_;conv=>whnf)|(refine Br.mk (fun hc=>?_) fun hc=>?_<;>first|exact hc.elim|conv=>whnf)|(refine kB ?_))
  rw[heapPop]at hE
  exact again.mk ⟨_,by omega,k,_,(k:Int)-1,_,rfl,by omega,by omega,hE,by simpa using hEl,rfl,rfl⟩
 |zero=>
  rw[← hE]at hQ
  (conv=>whnf);repeat' (first  |(refine kA ?_;conv=>whnf)|(refine Br.mk (fun hc=>?_) fun hc=>?_<;>first|exact hc.elim|conv=>whnf)|(refine kB ?_))
  exact hQ _ _
theorem AcV {Ap:Obj} {g c len:Nat} {nn cl:Bool} {d:Array Int} {a b:Nat} (hl:d.size=len) (hb:b≤len) (hs:len<2^61) (hab:a<b):
 AQ (Ac tab) 146 [.own 1 g 0 len,.int .i64 a,.int .i64 b] ⟨[Ap,.arr g 1 nn cl (vs (.int .i64) d.toList)],c⟩ fun out s'=>∃c',out=.ok (.CO [])∧s'=⟨[Ap,.arr g 1 nn cl (vs (.int .i64) (heapSort Ci d a b).toList)],c'⟩:=by
 refine Ar rfl rfl ?_
 (conv=>whnf);repeat' (first|(refine Jr (b-a-1) 2 (by omega) (by omega) ?_;conv=>whnf)|(refine kA ?_;conv=>whnf)|(refine Br.mk (fun hc=>?_) fun hc=>?_<;>first|exact hc.elim|conv=>whnf)|(refine kB ?_))
 refine Ae (fun m env s=>∃(k c:Nat) (z:Int) (D:Array Int),m=k∧z=k-1∧k≤len∧heapBuild Ci (b-a) a k D=heapBuild Ci (b-a) a ((b-a-1) / 2+1) d∧D.size=len∧env=[(0,.own 1 g 0 len),(6,.int .i64 a),(7,.int .i64 0),(8,.int .i64 (b-a)),(9,.int .i64 z)]∧s=⟨[Ap,.arr g 1 nn cl (vs (.int .i64) D.toList)],c⟩) ?_ _ _ _ ⟨(b-a-1) / 2+1,c,_,d,rfl,by omega,by omega,rfl,hl,rfl,rfl⟩
 rintro k _ _ ⟨_,c,z,D,rfl,hz,hk,hD,hDl,rfl,rfl⟩
 refine⟨rfl,?_⟩
 cases k with
 |succ k=>
  obtain rfl:z=(k:Nat):=by omega
  (conv=>whnf);repeat' (first  |(refine kA ?_;conv=>whnf)|(refine Br.mk (fun hc=>?_) fun hc=>?_<;>first|exact hc.elim|conv=>whnf)|(refine kB ?_))
  rw[show ((b:Int)-a)=((b-a:Nat):Int) by omega]
  refine(Zf hDl (by omega) hs (by omega)).mono ?_
  rintro _ _ ⟨c',rfl,rfl⟩
  (conv=>whnf);repeat' (first  |(refine kA ?_;conv=>whnf)|(refine Br.mk (fun hc=>?_) fun hc=>?_<;>first|exact hc.elim|conv=>whnf)|(refine kB ?_))
  rw[heapBuild]at hD
  exact again.mk ⟨_,by omega,k,_,(k:Int)-1,_,rfl,by omega,by omega,hD,by simpa using hDl,rfl,rfl⟩
 |zero=>
  have hD:D=_:=hD
  (conv=>whnf);repeat' (first  |(refine kA ?_;conv=>whnf)|(refine Br.mk (fun hc=>?_) fun hc=>?_<;>first|exact hc.elim|conv=>whnf)|(refine kB ?_))
  refine AaQ hDl (n:=b-a) (by omega) hs (by omega) (fun c' e=>?_)
  (conv=>whnf);repeat' (first  |(refine kA ?_;conv=>whnf)|(refine Br.mk (fun hc=>?_) fun hc=>?_<;>first|exact hc.elim|conv=>whnf)|(refine kB ?_))
  exact⟨_,rfl,by rw[hD];rfl⟩
end
section
open Go.Sort
theorem Zo {Ap:Obj} {g g2 c len:Nat} {nn cl:Bool} {d:Array Int} {a b n:Nat} (hl:d.size=len) (ha:a<len) (hb:b<len) (hs:len<2^61) (hn:n<100):
 AQ (Ac tab) 185 [.own 1 g 0 len,.int .i64 a,.int .i64 b,.ref 2 g2 0 0] ⟨[Ap,.arr g 1 nn cl (vs (.int .i64) d.toList),.arr g2 1 true true [.int .i64 n]],c⟩ fun out s'=>∃(c' x y n':Nat),out=.ok (.CO [.int .i64 x,.int .i64 y])∧s'=⟨[Ap,.arr g 1 nn cl (vs (.int .i64) d.toList),.arr g2 1 true true [.int .i64 n']],c'⟩∧n'≤n+1∧(x=a∧y=b∨x=b∧y=a):=by
 refine Ar rfl rfl ?_
 (conv=>whnf);repeat' (first|((with_reducible show AY _ _ _);refine CG (a) ?_;conv=>whnf)|((with_reducible show AY _ _ _);refine CG (b) ?_;conv=>whnf)|(refine FX Io (fun hc=>?_) (fun hc=>?_)<;>conv=>whnf)|(refine kA ?_;conv=>whnf)|(refine Br.mk (fun hc=>?_) fun hc=>?_<;>first|exact hc.elim|conv=>whnf)|(refine kB ?_))
 ·exact⟨_,b,a,n+1,rfl,rfl,by omega,Or.inr ⟨rfl,rfl⟩⟩
 ·exact⟨_,a,b,n,rfl,rfl,by omega,Or.inl ⟨rfl,rfl⟩⟩
theorem Zp {Ap:Obj} {g g2 c len:Nat} {nn cl:Bool} {d:Array Int} {a b e n:Nat} (hl:d.size=len) (ha:a<len) (hb:b<len) (he:e<len) (hs:len<2^61) (hn:n<90):
 AQ (Ac tab) 174 [.own 1 g 0 len,.int .i64 a,.int .i64 b,.int .i64 e,.ref 2 g2 0 0] ⟨[Ap,.arr g 1 nn cl (vs (.int .i64) d.toList),.arr g2 1 true true [.int .i64 n]],c⟩ fun out s'=>∃(c' m n':Nat),out=.ok (.int .i64 m)∧s'=⟨[Ap,.arr g 1 nn cl (vs (.int .i64) d.toList),.arr g2 1 true true [.int .i64 n']],c'⟩∧n'≤n+3∧(m=a∨m=b∨m=e):=by
 refine Ar rfl rfl ?_
 (conv=>whnf);repeat' (first  |(refine kA ?_;conv=>whnf)|(refine Br.mk (fun hc=>?_) fun hc=>?_<;>first|exact hc.elim|conv=>whnf)|(refine kB ?_))
 refine(Zo hl ha hb hs (by omega)).mono ?_
 rintro _ _ ⟨c1,x1,y1,n1,rfl,rfl,h1,e1⟩
 conv=>whnf
 apply Ai rfl
 (conv=>whnf);repeat' (first  |(refine kA ?_;conv=>whnf)|(refine Br.mk (fun hc=>?_) fun hc=>?_<;>first|exact hc.elim|conv=>whnf)|(refine kB ?_))
 refine(Zo (a:=y1) (b:=e) hl (by omega) he hs (by omega)).mono ?_
 rintro _ _ ⟨c2,x2,y2,n2,rfl,rfl,h2,e2⟩
 conv=>whnf
 apply Ai rfl
 (conv=>whnf);repeat' (first  |(refine kA ?_;conv=>whnf)|(refine Br.mk (fun hc=>?_) fun hc=>?_<;>first|exact hc.elim|conv=>whnf)|(refine kB ?_))
 refine(Zo (a:=x1) (b:=x2) hl (by omega) (by omega) hs (by omega)).mono ?_
 rintro _ _ ⟨c3,x3,y3,n3,rfl,rfl,h3,e3⟩
 conv=>whnf
 apply Ai rfl
 (conv=>whnf);repeat' (first  |(refine kA ?_;conv=>whnf)|(refine Br.mk (fun hc=>?_) fun hc=>?_<;>first|exact hc.elim|conv=>whnf)|(refine kB ?_))
 exact⟨_,y3,n3,rfl,rfl,by omega,by omega⟩
theorem Zq {Ap:Obj} {g g2 c len:Nat} {nn cl:Bool} {d:Array Int} {a n:Nat} (hl:d.size=len) (ha:a+1<len) (h0:0<a) (hs:len<2^61) (hn:n<90):
 AQ (Ac tab) 173 [.own 1 g 0 len,.int .i64 a,.ref 2 g2 0 0] ⟨[Ap,.arr g 1 nn cl (vs (.int .i64) d.toList),.arr g2 1 true true [.int .i64 n]],c⟩ fun out s'=>∃(c' m n':Nat),out=.ok (.int .i64 m)∧s'=⟨[Ap,.arr g 1 nn cl (vs (.int .i64) d.toList),.arr g2 1 true true [.int .i64 n']],c'⟩∧n'≤n+3∧a≤m+1∧m≤a+1:=by
 refine Ar rfl rfl ?_
 (conv=>whnf);repeat' (first  |(refine kA ?_;conv=>whnf)|(refine Br.mk (fun hc=>?_) fun hc=>?_<;>first|exact hc.elim|conv=>whnf)|(refine kB ?_))
 rw[show ((a:Int)-1)=((a-1:Nat):Int) by omega]
 refine(Zp (a:=a-1) (b:=a) (e:=a+1) hl (by omega) (by omega) ha hs hn).mono ?_
 rintro _ _ ⟨c',m,n',rfl,rfl,h1,h2⟩
 conv=>whnf
 apply Ai rfl
 (conv=>whnf);repeat' (first  |(refine kA ?_;conv=>whnf)|(refine Br.mk (fun hc=>?_) fun hc=>?_<;>first|exact hc.elim|conv=>whnf)|(refine kB ?_))
 exact⟨_,m,n',rfl,rfl,h1,by omega,by omega⟩
set_option maxHeartbeats 1000000 in
theorem AeR {Ap:Obj} {g c len:Nat} {nn cl:Bool} {d:Array Int} {a b:Nat} (hl:d.size=len) (hb:b≤len) (hab:a+12<b) (hs:len<2^61):
 AQ (Ac tab) 148 [.own 1 g 0 len,.int .i64 a,.int .i64 b] ⟨[Ap,.arr g 1 nn cl (vs (.int .i64) d.toList)],c⟩ fun out s'=>∃(c' p:Nat) (h:Int) (ob:Obj),out=.ok (.CO [.int .i64 p,.int .i64 h])∧s'=⟨[Ap,.arr g 1 nn cl (vs (.int .i64) d.toList),ob],c'⟩∧a≤p∧p<b:=by
 refine Ar rfl rfl ?_
 have hq:(b-a) / 4*4≤b-a:=Nat.div_mul_le_self _ _
 have hq2:3≤(b-a) / 4:=by omega
 generalize hL:(b-a) / 4=L at hq hq2
 (conv=>whnf);repeat' (first|(refine Jr (b-a) 4 (by omega) (by omega) ?_;rw[hL];conv=>whnf)|(refine kA ?_;conv=>whnf)|(refine Br.mk (fun hc=>?_) fun hc=>?_<;>first|exact hc.elim|conv=>whnf)|(refine kB ?_))
 ·refine(Zq (g2:=c) (n:=0) (a:=a+L*1) hl (by omega) (by omega) hs (by omega)).mono ?_
  rintro _ _ ⟨c1,i,n1,rfl,rfl,h1,i1,i2⟩
  conv=>whnf
  apply Ai rfl
  (conv=>whnf);repeat' (first  |(refine kA ?_;conv=>whnf)|(refine Br.mk (fun hc=>?_) fun hc=>?_<;>first|exact hc.elim|conv=>whnf)|(refine kB ?_))
  refine(Zq (g2:=c) (a:=a+L*2) hl (by omega) (by omega) hs (by omega)).mono ?_
  rintro _ _ ⟨c2,j,n2,rfl,rfl,h2,j1,j2⟩
  conv=>whnf
  apply Ai rfl
  (conv=>whnf);repeat' (first  |(refine kA ?_;conv=>whnf)|(refine Br.mk (fun hc=>?_) fun hc=>?_<;>first|exact hc.elim|conv=>whnf)|(refine kB ?_))
  refine(Zq (g2:=c) (a:=a+L*3) hl (by omega) (by omega) hs (by omega)).mono ?_
  rintro _ _ ⟨c3,k,n3,rfl,rfl,h3,k1,k2⟩
  conv=>whnf
  apply Ai rfl
  (conv=>whnf);repeat' (first  |(refine kA ?_;conv=>whnf)|(refine Br.mk (fun hc=>?_) fun hc=>?_<;>first|exact hc.elim|conv=>whnf)|(refine kB ?_))
  refine(Zp (g2:=c) (a:=i) (b:=j) (e:=k) hl (by omega) (by omega) (by omega) hs (by omega)).mono ?_
  rintro _ _ ⟨c4,m,n4,rfl,rfl,h4,h5⟩
  conv=>whnf
  apply Ai rfl
  (conv=>whnf);repeat' (first  |(refine kA ?_;conv=>whnf)|(refine Br.mk (fun hc=>?_) fun hc=>?_<;>first|exact hc.elim|conv=>whnf)|(refine kB ?_))
  all_goals exact⟨_,m,_,_,rfl,rfl,by omega,by omega⟩
 ·refine(Zp (g2:=c) (n:=0) (a:=a+L*1) (b:=a+L*2) (e:=a+L*3) hl (by omega) (by omega) (by omega) hs (by omega)).mono ?_
  rintro _ _ ⟨c4,m,n4,rfl,rfl,h4,h5⟩
  conv=>whnf
  apply Ai rfl
  (conv=>whnf);repeat' (first  |(refine kA ?_;conv=>whnf)|(refine Br.mk (fun hc=>?_) fun hc=>?_<;>first|exact hc.elim|conv=>whnf)|(refine kB ?_))
  all_goals exact⟨_,m,_,_,rfl,rfl,by omega,by omega⟩
theorem AeS {Ap:Obj} {g c len:Nat} {nn cl:Bool} {d:Array Int} {a b:Nat} (hl:d.size=len) (hb:b≤len) (hab:a<b) (hs:len<2^61):
 AQ (Ac tab) 149 [.own 1 g 0 len,.int .i64 a,.int .i64 b] ⟨[Ap,.arr g 1 nn cl (vs (.int .i64) d.toList)],c⟩ fun out s'=>∃c' D,out=.ok (.CO [])∧s'=⟨[Ap,.arr g 1 nn cl (vs (.int .i64) D.toList)],c'⟩∧PermIn a b d D:=by
 refine Ar rfl rfl ?_
 (conv=>whnf);repeat' (first  |(refine kA ?_;conv=>whnf)|(refine Br.mk (fun hc=>?_) fun hc=>?_<;>first|exact hc.elim|conv=>whnf)|(refine kB ?_))
 refine Ae (fun m env s=>∃(i c:Nat) (z:Int) (D:Array Int),m=b-i∧a≤i∧i≤b∧z=(a:Int)+b-1-i∧PermIn a b d D∧env=[(0,.own 1 g 0 len),(6,.int .i64 i),(7,.int .i64 z)]∧s=⟨[Ap,.arr g 1 nn cl (vs (.int .i64) D.toList)],c⟩) ?_ _ _ _ ⟨a,c,_,d,rfl,by omega,by omega,by omega,permIn_refl _ _ _,rfl,rfl⟩
 rintro _ _ _ ⟨i,c,z,D,rfl,hi,hib,hz,hD,rfl,rfl⟩
 refine⟨rfl,?_⟩
 have hDl:D.size=len:=by rw[hD.1,hl]
 (conv=>whnf);repeat' (first|((with_reducible show AY _ _ _);refine CG (i) ?_;conv=>whnf)|((with_reducible show AY _ _ _);refine CG (a+b-1-i) ?_;conv=>whnf)|((with_reducible show eqK _ _);refine EP Bl (i) ?_;conv=>whnf)|((with_reducible show eqK _ _);refine EP Bl (a+b-1-i) ?_;conv=>whnf)|(refine kA ?_;conv=>whnf)|(refine Br.mk (fun hc=>?_) fun hc=>?_<;>first|exact hc.elim|conv=>whnf)|(refine kB ?_))
 ·exact again.mk ⟨_,by omega,i+1,_,z-1,swp D i (a+b-1-i),rfl,by omega,by omega,by omega,permIn_trans _ _ _ _ _ hD (swp_permIn _ _ _ _ _ (by omega) (by omega) (by omega) (by omega) (by omega)),rfl,rfl⟩
 ·exact⟨_,D,rfl,rfl,hD⟩
theorem AcZ {Ap:Obj} {obX:Obj} {g2 c:Nat} {r:Int}:
 AQ (Ac tab) 155 [.ref 2 g2 0 0] ⟨[Ap,  obX,.arr g2 1 true true [.int .u64 r]],c⟩ fun out s'=>∃c' r',out=.ok (.int .u64 r')∧s'=⟨[Ap,  obX,.arr g2 1 true true [.int .u64 r']],c'⟩:=by
 refine Ar rfl rfl ?_
 (conv=>whnf);repeat' (first|(apply Bh rfl;conv=>whnf)|(apply Dz rfl;conv=>whnf)|(refine kA ?_;conv=>whnf)|(refine Br.mk (fun hc=>?_) fun hc=>?_<;>first|exact hc.elim|conv=>whnf)|(refine kB ?_))
 exact⟨_,_,rfl,rfl⟩
theorem andNj {r:Int} {M:Nat} (h0:0<M) (h:M<2^63):∃n:Nat,IntKind.u64.wrap ((BitVec.ofInt IntKind.u64.bits r &&& BitVec.ofInt IntKind.u64.bits ((M-1:Nat):Int)).toNat:Int)=n∧n<M:=by
 have e:(BitVec.ofInt IntKind.u64.bits ((M-1:Nat):Int)).toNat=M-1:=by
  rw[BitVec.toNat_ofInt]
  show Int.toNat (((M-1:Nat):Int) % ((2 ^ 64:Nat):Int))=M-1
  omega
 refine⟨(BitVec.ofInt IntKind.u64.bits r &&& BitVec.ofInt IntKind.u64.bits ((M-1:Nat):Int)).toNat,Vd rfl (by omega) ?_,?_⟩
 ·rw[BitVec.toNat_and,e]
  have:=@Nat.and_le_right (BitVec.ofInt IntKind.u64.bits r).toNat (M-1)
  show _<(2:Int) ^ 64
  omega
 ·rw[BitVec.toNat_and,e]
  have:=@Nat.and_le_right (BitVec.ofInt IntKind.u64.bits r).toNat (M-1)
  omega
set_option maxHeartbeats 1000000 in
theorem AeU {Ap:Obj} {g c len:Nat} {nn cl:Bool} {d:Array Int} {a b:Nat} (hl:d.size=len) (hb:b≤len) (hab:a+12<b) (hs:len<2^61):
 AQ (Ac tab) 147 [.own 1 g 0 len,.int .i64 a,.int .i64 b] ⟨[Ap,.arr g 1 nn cl (vs (.int .i64) d.toList)],c⟩ fun out s'=>∃c' D ob,out=.ok (.CO [])∧s'=⟨[Ap,.arr g 1 nn cl (vs (.int .i64) D.toList),ob],c'⟩∧PermIn a b d D:=by
 refine Ar rfl rfl ?_
 have hq:(b-a) / 4*4≤b-a:=Nat.div_mul_le_self _ _
 have hq2:3≤(b-a) / 4:=by omega
 generalize hL:(b-a) / 4=L at hq hq2
 (conv=>whnf);repeat' (first|(refine Jr (b-a) 4 (by omega) (by omega) ?_;rw[hL];conv=>whnf)|(refine wrapN (b-a) rfl (by omega) (by show _<2^64;omega) ?_;conv=>whnf)|(refine kA ?_;conv=>whnf)|(refine Br.mk (fun hc=>?_) fun hc=>?_<;>first|exact hc.elim|conv=>whnf)|(refine kB ?_))
 rw[show ((b:Int)-a)=((b-a:Nat):Int) by omega]
 refine Aa (QM (n:=b-a) (by omega) (by omega)) ?_
 rintro _ ⟨M,rfl,hM1,hM2⟩
 (conv=>whnf);repeat' (first|(refine Jr (b-a) 4 (by omega) (by omega) ?_;rw[hL];conv=>whnf)|(refine kA ?_;conv=>whnf)|(refine Br.mk (fun hc=>?_) fun hc=>?_<;>first|exact hc.elim|conv=>whnf)|(refine kB ?_))
 refine Ae (fun m env s=>∃(k cc:Nat) (z r:Int) (D:Array Int),m=3-k∧k≤3∧z=(a:Int)+L*2-1+k∧PermIn a b d D∧env=[(0,.own 1 g 0 len),(1,.int .i64 a),(6,.int .i64 (b-a:Nat)),(7,.ref 2 c 0 0),(8,.int .u64 M),(9,.int .i64 z)]∧s=⟨[Ap,.arr g 1 nn cl (vs (.int .i64) D.toList),.arr c 1 true true [.int .u64 r]],cc⟩) ?_ _ _ _ ⟨0,_,_,((b-a:Nat):Int),d,rfl,by omega,by omega,permIn_refl _ _ _,rfl,rfl⟩
 rintro _ _ _ ⟨k,c1,z,r,D,rfl,hk,hz,hD,rfl,rfl⟩
 refine⟨rfl,?_⟩
 have hDl:D.size=len:=by rw[hD.1,hl]
 (conv=>whnf);repeat' (first|(refine Jr (b-a) 4 (by omega) (by omega) ?_;rw[hL];conv=>whnf)|(refine kA ?_;conv=>whnf)|(refine Br.mk (fun hc=>?_) fun hc=>?_<;>first|exact hc.elim|conv=>whnf)|(refine kB ?_))
 ·refine(AcZ).mono ?_
  rintro _ _ ⟨c2,r2,rfl,rfl⟩
  obtain⟨o,ho1,ho2⟩:=andNj (r:=r2) (M:=M) (by omega) (by omega)
  conv=>whnf
  apply Ai rfl
  (conv=>whnf);repeat' (first|(refine wrapN (M-1) rfl (by omega) (by show _<2^64;omega) ?_;conv=>whnf)|(apply Bh ho1;conv=>whnf)|(refine Dz (wrap_i64 (by omega) (by omega)) ?_;conv=>whnf)|((with_reducible show AY _ _ _);refine CG (a+(o-(b-a))) ?_;conv=>whnf)|((with_reducible show AY _ _ _);refine CG (a+o) ?_;conv=>whnf)|((with_reducible show AY _ _ _);refine CG (a+L*2-1+k) ?_;conv=>whnf)|((with_reducible show eqK _ _);refine EP Bl (a+(o-(b-a))) ?_;conv=>whnf)|((with_reducible show eqK _ _);refine EP Bl (a+o) ?_;conv=>whnf)|((with_reducible show eqK _ _);refine EP Bl (a+L*2-1+k) ?_;conv=>whnf)|(refine kA ?_;conv=>whnf)|(refine Br.mk (fun hc=>?_) fun hc=>?_<;>first|exact hc.elim|conv=>whnf)|(refine kB ?_))
  ·exact again.mk ⟨_,by omega,k+1,_,_,_,swp D (a+L*2-1+k) (a+(o-(b-a))),rfl,by omega,by omega,permIn_trans _ _ _ _ _ hD (swp_permIn _ _ _ _ _ (by omega) (by omega) (by omega) (by omega) (by omega)),rfl,rfl⟩
  ·exact again.mk ⟨_,by omega,k+1,_,_,_,swp D (a+L*2-1+k) (a+o),rfl,by omega,by omega,permIn_trans _ _ _ _ _ hD (swp_permIn _ _ _ _ _ (by omega) (by omega) (by omega) (by omega) (by omega)),rfl,rfl⟩
 ·exact⟨_,D,_,rfl,rfl,hD⟩
end
end AI
end Go.Proofs.YthjeehjphekjmaaGreatDoor
