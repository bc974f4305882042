/- degree.Of: the loop over the labels. Sorting strings in place: the order. Sorting in place (Ordered[string]): insertion, heaps. Sorting in place (Ordered[string]): the pivot, reversing, breaking patterns. -/
import Derived.Test.YthnehejdkajjhaaGreatDoorUMad
set_option linter.unusedVariables false
set_option maxRecDepth 4000
namespace Go.Proofs.YthnehejdkajjhaaGreatDoor
namespace AI
set_option maxHeartbeats 1000000 in
theorem Auc {g:GG} (hg:g.ok) (hN:g.nodes.length≤2000) {R:List (List UInt8)} (hR:R.length≤100000000) {nn:Bool} {N E:Int} {o1:Obj} {c:Nat} {Q:Aw→Env→Aq→Prop}
 (hQ0:R=[]→∀c' tl,Q (.exit 0) ([(1,.ref 0 0 0 0),(2,.ref 1 1 0 0),(5,.ref 2 2 0 0)]++tl) ⟨[.arr 0 4 true true [g.av],o1,.arr 2 6 true true [.agg [.int .i64 N,.int .i64 E,.sl false [],.sl false [],.sl false [],.sl false []]]],c'⟩)
 (hQ1:R≠[]→∀c' g3 tl,Q (.exit 0) ([(1,.ref 0 0 0 0),(2,.ref 1 1 0 0),(5,.ref 2 2 0 0)]++tl) ⟨[.arr 0 4 true true [g.av],o1,.arr 2 6 true false [.agg [.int .i64 N,.int .i64 E,.own 3 g3 0 R.length,.sl false [],.sl false [],.sl false []]],.arr g3 2 true true (vs CN.av (cnts (Ij g.nodes) R))],c'⟩):
 Run (Ac tab) (.loop l25_1_h l25_1_b) [(1,.ref 0 0 0 0),(2,.ref 1 1 0 0),(5,.ref 2 2 0 0),(30,.sl nn (vs .str R)),(31,.int .i64 R.length),(32,.int .i64 0)] ⟨[.arr 0 4 true true [g.av],o1,.arr 2 6 true true [.agg [.int .i64 N,.int .i64 E,.sl false [],.sl false [],.sl false [],.sl false []]]],c⟩ Q:=by
 refine Af (fun m env s=>∃(i c:Nat),m=R.length-i∧i≤R.length∧env=[(1,.ref 0 0 0 0),(2,.ref 1 1 0 0),(5,.ref 2 2 0 0),(30,.sl nn (vs .str R)),(31,.int .i64 R.length),(32,.int .i64 i)]∧
  (i=0∧s=⟨[.arr 0 4 true true [g.av],o1,.arr 2 6 true true [.agg [.int .i64 N,.int .i64 E,.sl false [],.sl false [],.sl false [],.sl false []]]],c⟩∨
   0<i∧∃g3 n L,n=i∧L=cnts (Ij g.nodes) (R.take i)∧n=L.length∧s=⟨[.arr 0 4 true true [g.av],o1,.arr 2 6 true false [.agg [.int .i64 N,.int .i64 E,.own 3 g3 0 n,.sl false [],.sl false [],.sl false []]],.arr g3 2 true true (vs CN.av L)],c⟩)) ?_ _ _ _ ⟨0,c,rfl,by omega,rfl,.inl ⟨rfl,rfl⟩⟩
 rintro _ _ _ ⟨i,c,rfl,hi,rfl,h⟩
 have hgl:g.nodes.length<2^62:=by omega
 rcases h with⟨rfl,rfl⟩|⟨hpos,g3,n,L,hni,hLe,hn,rfl⟩
 ·refine⟨rfl,?_⟩
  by_cases hlt:0<R.length
  ·have hs:=@J3 (Ij g.nodes) R 0 hlt
   (conv=>whnf);repeat' (first  |(refine kA ?_;conv=>whnf)|(refine Br.mk (fun hc=>?_) fun hc=>?_<;>first|exact hc.elim|conv=>whnf)|(refine kB ?_))
   refine Auh hg hN ?_
   intro c' tl
   (conv=>whnf);repeat' (first|(refine Dt (l:=[]) (x:=(⟨R[0],Ij g.nodes R[0]⟩:CN)) Tq rfl (by simp) ?_;conv=>whnf)|(refine kA ?_;conv=>whnf)|(refine Br.mk (fun hc=>?_) fun hc=>?_<;>first|exact hc.elim|conv=>whnf)|(refine kB ?_))
   exact again.mk ⟨_,by omega,1,_,rfl,by omega,rfl,.inr ⟨by omega,_,_,_,rfl,hs.symm,rfl,rfl⟩⟩
  ·(conv=>whnf);repeat' (first  |(refine kA ?_;conv=>whnf)|(refine Br.mk (fun hc=>?_) fun hc=>?_<;>first|exact hc.elim|conv=>whnf)|(refine kB ?_))
   exact hQ0 (List.eq_nil_of_length_eq_zero (by omega)) _ _
 ·refine⟨rfl,?_⟩
  by_cases hlt:i<R.length
  ·have hs:=@J3 (Ij g.nodes) R i hlt
   (conv=>whnf);repeat' (first  |(refine kA ?_;conv=>whnf)|(refine Br.mk (fun hc=>?_) fun hc=>?_<;>first|exact hc.elim|conv=>whnf)|(refine kB ?_))
   refine Aui hg hN ?_
   intro c' tl
   (conv=>whnf);repeat' (first|(refine Dt (x:=(⟨R[i],Ij g.nodes R[i]⟩:CN)) Tq hn (by omega) ?_;conv=>whnf)|(refine kA ?_;conv=>whnf)|(refine Br.mk (fun hc=>?_) fun hc=>?_<;>first|exact hc.elim|conv=>whnf)|(refine kB ?_))
   rw[← hLe]at hs
   exact again.mk ⟨_,by omega,i+1,_,rfl,by omega,rfl,.inr ⟨by omega,_,_,_,by omega,hs.symm,by simp,rfl⟩⟩
  ·rw[List.take_of_length_le (by omega)]at hLe
   (conv=>whnf);repeat' (first  |(refine kA ?_;conv=>whnf)|(refine Br.mk (fun hc=>?_) fun hc=>?_<;>first|exact hc.elim|conv=>whnf)|(refine kB ?_))
   subst hLe
   obtain rfl:n=R.length:=by omega
   exact hQ1 (fun h=>by rw[h]at hni;simp at hni;omega) _ _ _
section
open Go.Sort
def DL (x y:List UInt8):Bool:=Op.bytesLess x y
theorem AeW:∀(x y:List UInt8),Op.bytesLess x y=decide (x<y)
 |[],[]=>by simp[Op.bytesLess]
 |_::_,[]=>by simp[Op.bytesLess]
 |[],_::_=>by simp[Op.bytesLess]
 |a::x,b::y=>by
  rw[Op.bytesLess,AeW x y]
  simp only[List.cons_lt_cons_iff]
  by_cases h1:a<b<;>by_cases h2:a=b<;>by_cases h3:x<y<;>simp[h1,h2,h3]
theorem Aib:DL=ltStr:=by
 funext x y
 exact AeW x y
theorem KQ:SWO DL:=by rw[Aib];exact swo_ltStr
theorem cellsS (x:List UInt8):(AV.str x).cells.length=1:=rfl
theorem AvS {x:List UInt8}:Ag (Ac tab) 251 [.str x] (· =.bool (decide False)):=by
 refine Ad rfl rfl ?_
 (conv=>whnf);repeat' (first|(refine kA ?_;conv=>whnf)|(refine Br.mk (fun hc=>?_) fun hc=>?_<;>first|exact hc.elim|conv=>whnf)  |(refine kB ?_))
 all_goals first|exact absurd rfl hc|rfl
theorem I9 {x y:List UInt8}:Ag (Ac tab) 196 [.str x,.str y] (· =.bool (DL x y)):=by
 refine Ad rfl rfl ?_
 (conv=>whnf);repeat' (first|(refine kA ?_;conv=>whnf)|(refine Br.mk (fun hc=>?_) fun hc=>?_<;>first|exact hc.elim|conv=>whnf)|(refine Bo AvS (fun hc=>absurd hc id) (fun _=>?_);conv=>whnf)|(refine kB ?_))
 all_goals (unfold DL;rw[hc];rfl)
end
section
open Go.Sort
set_option maxHeartbeats 1000000 in
theorem AsN {Ap:Obj} {g c len:Nat} {nn cl:Bool} {d:Array (List UInt8)} {a b:Nat} (hl:d.size=len) (hb:b≤len) (hs:len<2^61) (ha:a≤len):
 Am (Ac tab) 226 [.own 1 g 0 len,.int .i64 a,.int .i64 b] ⟨[Ap,.arr g 1 nn cl (vs .str d.toList)],c⟩ fun out s'=>∃c',out=.ok (.BG [])∧s'=⟨[Ap,.arr g 1 nn cl (vs .str (insertionSort DL d a b).toList)],c'⟩:=by
 refine Ah rfl rfl ?_
 (conv=>whnf);repeat' (first  |(refine kA ?_;conv=>whnf)|(refine Br.mk (fun hc=>?_) fun hc=>?_<;>first|exact hc.elim|conv=>whnf)|(refine kB ?_))
 refine Af (fun m env s=>∃(i c:Nat) (D:Array (List UInt8)),m=b-i∧insOuter DL a b i D=insertionSort DL d a b∧D.size=len∧env=[(0,.own 1 g 0 len),(1,.int .i64 a),(2,.int .i64 b),(6,.int .i64 i)]∧s=⟨[Ap,.arr g 1 nn cl (vs .str D.toList)],c⟩) ?_ _ _ _ ⟨a+1,c,d,rfl,rfl,hl,rfl,rfl⟩
 rintro _ _ _ ⟨i,c,D,rfl,hD,hDl,rfl,rfl⟩
 refine⟨rfl,?_⟩
 (conv=>whnf);repeat' (first  |(refine kA ?_;conv=>whnf)|(refine Br.mk (fun hc=>?_) fun hc=>?_<;>first|exact hc.elim|conv=>whnf)|(refine kB ?_))
 ·rw[U2 (by omega)]at hD
  refine Af (fun m env s=>∃(j c:Nat) (z:Int) (E:Array (List UInt8)),m=j∧z=j∧j≤i∧insInner DL a j E=insInner DL a i D∧E.size=len∧env=[(0,.own 1 g 0 len),(1,.int .i64 a),(2,.int .i64 b),(6,.int .i64 i),(7,.int .i64 z)]∧s=⟨[Ap,.arr g 1 nn cl (vs .str E.toList)],c⟩) ?_ _ _ _ ⟨i,_,_,D,rfl,rfl,by omega,rfl,hDl,rfl,rfl⟩
  rintro j _ _ ⟨_,c,z,E,rfl,hz,hj,hE,hEl,rfl,rfl⟩
  refine⟨rfl,?_⟩
  cases j with
  |zero=>
   (conv=>whnf);repeat' (first  |(refine kA ?_;conv=>whnf)|(refine Br.mk (fun hc=>?_) fun hc=>?_<;>first|exact hc.elim|conv=>whnf)|(refine kB ?_))
   rw[← hE]at hD
   exact again.mk ⟨_,by omega,i+1,_,E,rfl,hD,hEl,rfl,rfl⟩
  |succ j=>
   (conv=>whnf);repeat' (first|((with_reducible show AB _ _ _);refine BM (j+1) ?_;conv=>whnf)|((with_reducible show AB _ _ _);refine BM (j) ?_;conv=>whnf)|(refine CJ I9 (fun hc=>?_) (fun hc=>?_)<;>conv=>whnf)|((with_reducible show eqK _ _);refine Dn cellsS (j+1) ?_;conv=>whnf)|((with_reducible show eqK _ _);refine Dn cellsS (j) ?_;conv=>whnf)|(refine kA ?_;conv=>whnf)|(refine Br.mk (fun hc=>?_) fun hc=>?_<;>first|exact hc.elim|conv=>whnf)|(refine kB ?_))
   ·rw[QU (by omega) hc]at hE
    exact again.mk ⟨_,by omega,j,_,_,swp E (j+1) j,rfl,by omega,by omega,hE,by simpa using hEl,rfl,rfl⟩
   ·rw[Jk (fun _=>hc)]at hE
    rw[← hE]at hD
    exact again.mk ⟨_,by omega,i+1,_,E,rfl,hD,hEl,rfl,rfl⟩
   ·rw[Jk (fun h=>absurd h (by omega))]at hE
    rw[← hE]at hD
    exact again.mk ⟨_,by omega,i+1,_,E,rfl,hD,hEl,rfl,rfl⟩
 ·rw[U3 (by omega)]at hD
  exact⟨_,rfl,by rw[hD]⟩
set_option maxHeartbeats 1000000 in
theorem Ajn {Ap:Obj} {g c len:Nat} {nn cl:Bool} {d:Array (List UInt8)} {lo hi first:Nat} (hl:d.size=len) (hb:first+hi≤len) (hs:len<2^61) (hlo:lo≤len):
 Am (Ac tab) 266 [.own 1 g 0 len,.int .i64 lo,.int .i64 hi,.int .i64 first] ⟨[Ap,.arr g 1 nn cl (vs .str d.toList)],c⟩ fun out s'=>∃c',out=.ok (.BG [])∧s'=⟨[Ap,.arr g 1 nn cl (vs .str (siftDown DL hi first lo d).toList)],c'⟩:=by
 refine Ah rfl rfl ?_
 (conv=>whnf);repeat' (first  |(refine kA ?_;conv=>whnf)|(refine Br.mk (fun hc=>?_) fun hc=>?_<;>first|exact hc.elim|conv=>whnf)|(refine kB ?_))
 refine Af (fun m env s=>∃(root c:Nat) (z:Int) (D:Array (List UInt8)),m=hi-root∧z=root∧root≤len∧siftDown DL hi first root D=siftDown DL hi first lo d∧D.size=len∧env=[(0,.own 1 g 0 len),(2,.int .i64 hi),(3,.int .i64 first),(8,.int .i64 z)]∧s=⟨[Ap,.arr g 1 nn cl (vs .str D.toList)],c⟩) ?_ _ _ _ ⟨lo,c,_,d,rfl,rfl,hlo,rfl,hl,rfl,rfl⟩
 rintro _ _ _ ⟨root,c,z,D,rfl,hz,hr,hD,hDl,rfl,rfl⟩
 refine⟨rfl,?_⟩
 (conv=>whnf);repeat' (first|((with_reducible show AB _ _ _);refine BM (first+root) ?_;conv=>whnf)|((with_reducible show AB _ _ _);refine BM (first+(2*root+1)) ?_;conv=>whnf)|((with_reducible show AB _ _ _);refine BM (first+(2*root+1)+1) ?_;conv=>whnf)|(refine CJ I9 (fun hc=>?_) (fun hc=>?_)<;>conv=>whnf)|((with_reducible show eqK _ _);refine Dn cellsS (first+root) ?_;conv=>whnf)|((with_reducible show eqK _ _);refine Dn cellsS (first+(2*root+1)) ?_;conv=>whnf)|((with_reducible show eqK _ _);refine Dn cellsS (first+(2*root+1)+1) ?_;conv=>whnf)|(refine kA ?_;conv=>whnf)|(refine Br.mk (fun hc=>?_) fun hc=>?_<;>first|exact hc.elim|conv=>whnf)|(refine kB ?_))
 ·rw[Oo (by omega)]at hD
  exact⟨_,rfl,by rw[hD]⟩
 all_goals first
  |(rw [Zj (by omega) (by assumption) hc]at hD
    exact again.mk ⟨_,by omega,2*root+2,_,_,swp D (first+root) (first+(2*root+2)),rfl,by omega,by omega,hD,by simpa using hDl,rfl,rfl⟩)
  |(rw [U4 (by omega) (by assumption) hc]at hD
    exact⟨_,rfl,by rw[hD]⟩)
  |(rw [Oq (by omega) (fun _=>by assumption) hc]at hD
    exact again.mk ⟨_,by omega,2*root+1,_,_,swp D (first+root) (first+(2*root+1)),rfl,by omega,by omega,hD,by simpa using hDl,rfl,rfl⟩)
  |(rw [KR (by omega) (fun _=>by assumption) hc]at hD
    exact⟨_,rfl,by rw[hD]⟩)
  |(rw [Oq (by omega) (fun h=>absurd h (by omega)) hc]at hD
    exact again.mk ⟨_,by omega,2*root+1,_,_,swp D (first+root) (first+(2*root+1)),rfl,by omega,by omega,hD,by simpa using hDl,rfl,rfl⟩)
  |(rw [KR (by omega) (fun h=>absurd h (by omega)) hc]at hD
    exact⟨_,rfl,by rw[hD]⟩)
set_option maxHeartbeats 1000000 in
theorem AlX {Ap:Obj} {g c len:Nat} {nn cl:Bool} {d:Array (List UInt8)} {a n:Nat} {z:Int} {Q:Aw→Env→Aq→Prop} (hl:d.size=len) (hb:a+n≤len) (hs:len<2^61) (hz:z=(n:Int)-1)
 (hQ:∀c' e,Q (.exit 2) e ⟨[Ap,.arr g 1 nn cl (vs .str (heapPop DL a n d).toList)],c'⟩):
 Run (Ac tab) (.loop l227_1_h l227_1_b) [(0,.own 1 g 0 len),(6,.int .i64 a),(7,.int .i64 0),(10,.int .i64 z)] ⟨[Ap,.arr g 1 nn cl (vs .str d.toList)],c⟩ Q:=by
 refine Af (fun m env s=>∃(k c:Nat) (z:Int) (E:Array (List UInt8)),m=k∧z=(k:Int)-1∧a+k≤len∧heapPop DL a k E=heapPop DL a n d∧E.size=len∧env=[(0,.own 1 g 0 len),(6,.int .i64 a),(7,.int .i64 0),(10,.int .i64 z)]∧s=⟨[Ap,.arr g 1 nn cl (vs .str E.toList)],c⟩) ?_ _ _ _ ⟨n,c,_,d,rfl,hz,by omega,rfl,hl,rfl,rfl⟩
 clear hz
 rintro k _ _ ⟨_,c,z,E,rfl,hz,hk,hE,hEl,rfl,rfl⟩
 refine⟨rfl,?_⟩
 cases k with
 |succ k=>
  obtain rfl:z=(k:Nat):=by omega
  (conv=>whnf);repeat' (first|((with_reducible show AB _ _ _);refine BM (a) ?_;conv=>whnf)|((with_reducible show AB _ _ _);refine BM (a+k) ?_;conv=>whnf)|((with_reducible show eqK _ _);refine Dn cellsS (a) ?_;conv=>whnf)|((with_reducible show eqK _ _);refine Dn cellsS (a+k) ?_;conv=>whnf)|(refine kA ?_;conv=>whnf)|(refine Br.mk (fun hc=>?_) fun hc=>?_<;>first|exact hc.elim|conv=>whnf)|(refine kB ?_))
  refine(Ajn (d:=swp E a (a+k)) (lo:=0) (by simpa using hEl) (by omega) hs (by omega)).mono ?_
  rintro _ _ ⟨c',rfl,rfl⟩
  (conv=>whnf);repeat' (first  |(refine kA ?_;conv=>whnf)|(refine Br.mk (fun hc=>?_) fun hc=>?_<;>first|exact hc.elim|conv=>whnf)|(refine kB ?_))
  rw[heapPop]at hE
  exact again.mk ⟨_,by omega,k,_,(k:Int)-1,_,rfl,by omega,by omega,hE,by simpa using hEl,rfl,rfl⟩
 |zero=>
  rw[← hE]at hQ
  (conv=>whnf);repeat' (first  |(refine kA ?_;conv=>whnf)|(refine Br.mk (fun hc=>?_) fun hc=>?_<;>first|exact hc.elim|conv=>whnf)|(refine kB ?_))
  exact hQ _ _
theorem Apt {Ap:Obj} {g c len:Nat} {nn cl:Bool} {d:Array (List UInt8)} {a b:Nat} (hl:d.size=len) (hb:b≤len) (hs:len<2^61) (hab:a<b):
 Am (Ac tab) 227 [.own 1 g 0 len,.int .i64 a,.int .i64 b] ⟨[Ap,.arr g 1 nn cl (vs .str d.toList)],c⟩ fun out s'=>∃c',out=.ok (.BG [])∧s'=⟨[Ap,.arr g 1 nn cl (vs .str (heapSort DL d a b).toList)],c'⟩:=by
 refine Ah rfl rfl ?_
 (conv=>whnf);repeat' (first|(refine F8 (b-a-1) 2 (by omega) (by omega) ?_;conv=>whnf)|(refine kA ?_;conv=>whnf)|(refine Br.mk (fun hc=>?_) fun hc=>?_<;>first|exact hc.elim|conv=>whnf)|(refine kB ?_))
 refine Af (fun m env s=>∃(k c:Nat) (z:Int) (D:Array (List UInt8)),m=k∧z=k-1∧k≤len∧heapBuild DL (b-a) a k D=heapBuild DL (b-a) a ((b-a-1) / 2+1) d∧D.size=len∧env=[(0,.own 1 g 0 len),(6,.int .i64 a),(7,.int .i64 0),(8,.int .i64 (b-a)),(9,.int .i64 z)]∧s=⟨[Ap,.arr g 1 nn cl (vs .str D.toList)],c⟩) ?_ _ _ _ ⟨(b-a-1) / 2+1,c,_,d,rfl,by omega,by omega,rfl,hl,rfl,rfl⟩
 rintro k _ _ ⟨_,c,z,D,rfl,hz,hk,hD,hDl,rfl,rfl⟩
 refine⟨rfl,?_⟩
 cases k with
 |succ k=>
  obtain rfl:z=(k:Nat):=by omega
  (conv=>whnf);repeat' (first  |(refine kA ?_;conv=>whnf)|(refine Br.mk (fun hc=>?_) fun hc=>?_<;>first|exact hc.elim|conv=>whnf)|(refine kB ?_))
  rw[show ((b:Int)-a)=((b-a:Nat):Int) by omega]
  refine(Ajn hDl (by omega) hs (by omega)).mono ?_
  rintro _ _ ⟨c',rfl,rfl⟩
  (conv=>whnf);repeat' (first  |(refine kA ?_;conv=>whnf)|(refine Br.mk (fun hc=>?_) fun hc=>?_<;>first|exact hc.elim|conv=>whnf)|(refine kB ?_))
  rw[heapBuild]at hD
  exact again.mk ⟨_,by omega,k,_,(k:Int)-1,_,rfl,by omega,by omega,hD,by simpa using hDl,rfl,rfl⟩
 |zero=>
  have hD:D=_:=hD
  (conv=>whnf);repeat' (first  |(refine kA ?_;conv=>whnf)|(refine Br.mk (fun hc=>?_) fun hc=>?_<;>first|exact hc.elim|conv=>whnf)|(refine kB ?_))
  refine AlX hDl (n:=b-a) (by omega) hs (by omega) (fun c' e=>?_)
  (conv=>whnf);repeat' (first  |(refine kA ?_;conv=>whnf)|(refine Br.mk (fun hc=>?_) fun hc=>?_<;>first|exact hc.elim|conv=>whnf)|(refine kB ?_))
  exact⟨_,rfl,by rw[hD];rfl⟩
end
section
open Go.Sort
theorem AiK {Ap:Obj} {g g2 c len:Nat} {nn cl:Bool} {d:Array (List UInt8)} {a b n:Nat} (hl:d.size=len) (ha:a<len) (hb:b<len) (hs:len<2^61) (hn:n<100):
 Am (Ac tab) 285 [.own 1 g 0 len,.int .i64 a,.int .i64 b,.ref 2 g2 0 0] ⟨[Ap,.arr g 1 nn cl (vs .str d.toList),.arr g2 1 true true [.int .i64 n]],c⟩ fun out s'=>∃(c' x y n':Nat),out=.ok (.BG [.int .i64 x,.int .i64 y])∧s'=⟨[Ap,.arr g 1 nn cl (vs .str d.toList),.arr g2 1 true true [.int .i64 n']],c'⟩∧n'≤n+1∧(x=a∧y=b∨x=b∧y=a):=by
 refine Ah rfl rfl ?_
 (conv=>whnf);repeat' (first|((with_reducible show AB _ _ _);refine BM (a) ?_;conv=>whnf)|((with_reducible show AB _ _ _);refine BM (b) ?_;conv=>whnf)|(refine CJ I9 (fun hc=>?_) (fun hc=>?_)<;>conv=>whnf)|(refine kA ?_;conv=>whnf)|(refine Br.mk (fun hc=>?_) fun hc=>?_<;>first|exact hc.elim|conv=>whnf)|(refine kB ?_))
 ·exact⟨_,b,a,n+1,rfl,rfl,by omega,Or.inr ⟨rfl,rfl⟩⟩
 ·exact⟨_,a,b,n,rfl,rfl,by omega,Or.inl ⟨rfl,rfl⟩⟩
theorem AiL {Ap:Obj} {g g2 c len:Nat} {nn cl:Bool} {d:Array (List UInt8)} {a b e n:Nat} (hl:d.size=len) (ha:a<len) (hb:b<len) (he:e<len) (hs:len<2^61) (hn:n<90):
 Am (Ac tab) 268 [.own 1 g 0 len,.int .i64 a,.int .i64 b,.int .i64 e,.ref 2 g2 0 0] ⟨[Ap,.arr g 1 nn cl (vs .str d.toList),.arr g2 1 true true [.int .i64 n]],c⟩ fun out s'=>∃(c' m n':Nat),out=.ok (.int .i64 m)∧s'=⟨[Ap,.arr g 1 nn cl (vs .str d.toList),.arr g2 1 true true [.int .i64 n']],c'⟩∧n'≤n+3∧(m=a∨m=b∨m=e):=by
 refine Ah rfl rfl ?_
 (conv=>whnf);repeat' (first  |(refine kA ?_;conv=>whnf)|(refine Br.mk (fun hc=>?_) fun hc=>?_<;>first|exact hc.elim|conv=>whnf)|(refine kB ?_))
 refine(AiK hl ha hb hs (by omega)).mono ?_
 rintro _ _ ⟨c1,x1,y1,n1,rfl,rfl,h1,e1⟩
 conv=>whnf
 apply Ae rfl
 (conv=>whnf);repeat' (first  |(refine kA ?_;conv=>whnf)|(refine Br.mk (fun hc=>?_) fun hc=>?_<;>first|exact hc.elim|conv=>whnf)|(refine kB ?_))
 refine(AiK (a:=y1) (b:=e) hl (by omega) he hs (by omega)).mono ?_
 rintro _ _ ⟨c2,x2,y2,n2,rfl,rfl,h2,e2⟩
 conv=>whnf
 apply Ae rfl
 (conv=>whnf);repeat' (first  |(refine kA ?_;conv=>whnf)|(refine Br.mk (fun hc=>?_) fun hc=>?_<;>first|exact hc.elim|conv=>whnf)|(refine kB ?_))
 refine(AiK (a:=x1) (b:=x2) hl (by omega) (by omega) hs (by omega)).mono ?_
 rintro _ _ ⟨c3,x3,y3,n3,rfl,rfl,h3,e3⟩
 conv=>whnf
 apply Ae rfl
 (conv=>whnf);repeat' (first  |(refine kA ?_;conv=>whnf)|(refine Br.mk (fun hc=>?_) fun hc=>?_<;>first|exact hc.elim|conv=>whnf)|(refine kB ?_))
 exact⟨_,y3,n3,rfl,rfl,by omega,by omega⟩
theorem AiM {Ap:Obj} {g g2 c len:Nat} {nn cl:Bool} {d:Array (List UInt8)} {a n:Nat} (hl:d.size=len) (ha:a+1<len) (h0:0<a) (hs:len<2^61) (hn:n<90):
 Am (Ac tab) 267 [.own 1 g 0 len,.int .i64 a,.ref 2 g2 0 0] ⟨[Ap,.arr g 1 nn cl (vs .str d.toList),.arr g2 1 true true [.int .i64 n]],c⟩ fun out s'=>∃(c' m n':Nat),out=.ok (.int .i64 m)∧s'=⟨[Ap,.arr g 1 nn cl (vs .str d.toList),.arr g2 1 true true [.int .i64 n']],c'⟩∧n'≤n+3∧a≤m+1∧m≤a+1:=by
 refine Ah rfl rfl ?_
 (conv=>whnf);repeat' (first  |(refine kA ?_;conv=>whnf)|(refine Br.mk (fun hc=>?_) fun hc=>?_<;>first|exact hc.elim|conv=>whnf)|(refine kB ?_))
 rw[show ((a:Int)-1)=((a-1:Nat):Int) by omega]
 refine(AiL (a:=a-1) (b:=a) (e:=a+1) hl (by omega) (by omega) ha hs hn).mono ?_
 rintro _ _ ⟨c',m,n',rfl,rfl,h1,h2⟩
 conv=>whnf
 apply Ae rfl
 (conv=>whnf);repeat' (first  |(refine kA ?_;conv=>whnf)|(refine Br.mk (fun hc=>?_) fun hc=>?_<;>first|exact hc.elim|conv=>whnf)|(refine kB ?_))
 exact⟨_,m,n',rfl,rfl,h1,by omega,by omega⟩
set_option maxHeartbeats 1000000 in
theorem AsL {Ap:Obj} {g c len:Nat} {nn cl:Bool} {d:Array (List UInt8)} {a b:Nat} (hl:d.size=len) (hb:b≤len) (hab:a+12<b) (hs:len<2^61):
 Am (Ac tab) 229 [.own 1 g 0 len,.int .i64 a,.int .i64 b] ⟨[Ap,.arr g 1 nn cl (vs .str d.toList)],c⟩ fun out s'=>∃(c' p:Nat) (h:Int) (ob:Obj),out=.ok (.BG [.int .i64 p,.int .i64 h])∧s'=⟨[Ap,.arr g 1 nn cl (vs .str d.toList),ob],c'⟩∧a≤p∧p<b:=by
 refine Ah rfl rfl ?_
 have hq:(b-a) / 4*4≤b-a:=Nat.div_mul_le_self _ _
 have hq2:3≤(b-a) / 4:=by omega
 generalize hL:(b-a) / 4=L at hq hq2
 (conv=>whnf);repeat' (first|(refine F8 (b-a) 4 (by omega) (by omega) ?_;rw[hL];conv=>whnf)|(refine kA ?_;conv=>whnf)|(refine Br.mk (fun hc=>?_) fun hc=>?_<;>first|exact hc.elim|conv=>whnf)|(refine kB ?_))
 ·refine(AiM (g2:=c) (n:=0) (a:=a+L*1) hl (by omega) (by omega) hs (by omega)).mono ?_
  rintro _ _ ⟨c1,i,n1,rfl,rfl,h1,i1,i2⟩
  conv=>whnf
  apply Ae rfl
  (conv=>whnf);repeat' (first  |(refine kA ?_;conv=>whnf)|(refine Br.mk (fun hc=>?_) fun hc=>?_<;>first|exact hc.elim|conv=>whnf)|(refine kB ?_))
  refine(AiM (g2:=c) (a:=a+L*2) hl (by omega) (by omega) hs (by omega)).mono ?_
  rintro _ _ ⟨c2,j,n2,rfl,rfl,h2,j1,j2⟩
  conv=>whnf
  apply Ae rfl
  (conv=>whnf);repeat' (first  |(refine kA ?_;conv=>whnf)|(refine Br.mk (fun hc=>?_) fun hc=>?_<;>first|exact hc.elim|conv=>whnf)|(refine kB ?_))
  refine(AiM (g2:=c) (a:=a+L*3) hl (by omega) (by omega) hs (by omega)).mono ?_
  rintro _ _ ⟨c3,k,n3,rfl,rfl,h3,k1,k2⟩
  conv=>whnf
  apply Ae rfl
  (conv=>whnf);repeat' (first  |(refine kA ?_;conv=>whnf)|(refine Br.mk (fun hc=>?_) fun hc=>?_<;>first|exact hc.elim|conv=>whnf)|(refine kB ?_))
  refine(AiL (g2:=c) (a:=i) (b:=j) (e:=k) hl (by omega) (by omega) (by omega) hs (by omega)).mono ?_
  rintro _ _ ⟨c4,m,n4,rfl,rfl,h4,h5⟩
  conv=>whnf
  apply Ae rfl
  (conv=>whnf);repeat' (first  |(refine kA ?_;conv=>whnf)|(refine Br.mk (fun hc=>?_) fun hc=>?_<;>first|exact hc.elim|conv=>whnf)|(refine kB ?_))
  all_goals exact⟨_,m,_,_,rfl,rfl,by omega,by omega⟩
 ·refine(AiL (g2:=c) (n:=0) (a:=a+L*1) (b:=a+L*2) (e:=a+L*3) hl (by omega) (by omega) (by omega) hs (by omega)).mono ?_
  rintro _ _ ⟨c4,m,n4,rfl,rfl,h4,h5⟩
  conv=>whnf
  apply Ae rfl
  (conv=>whnf);repeat' (first  |(refine kA ?_;conv=>whnf)|(refine Br.mk (fun hc=>?_) fun hc=>?_<;>first|exact hc.elim|conv=>whnf)|(refine kB ?_))
  all_goals exact⟨_,m,_,_,rfl,rfl,by omega,by omega⟩
theorem AsK {Ap:Obj} {g c len:Nat} {nn cl:Bool} {d:Array (List UInt8)} {a b:Nat} (hl:d.size=len) (hb:b≤len) (hab:a<b) (hs:len<2^61):
 Am (Ac tab) 230 [.own 1 g 0 len,.int .i64 a,.int .i64 b] ⟨[Ap,.arr g 1 nn cl (vs .str d.toList)],c⟩ fun out s'=>∃c' D,out=.ok (.BG [])∧s'=⟨[Ap,.arr g 1 nn cl (vs .str D.toList)],c'⟩∧PermIn a b d D:=by
 refine Ah rfl rfl ?_
 (conv=>whnf);repeat' (first  |(refine kA ?_;conv=>whnf)|(refine Br.mk (fun hc=>?_) fun hc=>?_<;>first|exact hc.elim|conv=>whnf)|(refine kB ?_))
 refine Af (fun m env s=>∃(i c:Nat) (z:Int) (D:Array (List UInt8)),m=b-i∧a≤i∧i≤b∧z=(a:Int)+b-1-i∧PermIn a b d D∧env=[(0,.own 1 g 0 len),(6,.int .i64 i),(7,.int .i64 z)]∧s=⟨[Ap,.arr g 1 nn cl (vs .str D.toList)],c⟩) ?_ _ _ _ ⟨a,c,_,d,rfl,by omega,by omega,by omega,permIn_refl _ _ _,rfl,rfl⟩
 rintro _ _ _ ⟨i,c,z,D,rfl,hi,hib,hz,hD,rfl,rfl⟩
 refine⟨rfl,?_⟩
 have hDl:D.size=len:=by rw[hD.1,hl]
 (conv=>whnf);repeat' (first|((with_reducible show AB _ _ _);refine BM (i) ?_;conv=>whnf)|((with_reducible show AB _ _ _);refine BM (a+b-1-i) ?_;conv=>whnf)|((with_reducible show eqK _ _);refine Dn cellsS (i) ?_;conv=>whnf)|((with_reducible show eqK _ _);refine Dn cellsS (a+b-1-i) ?_;conv=>whnf)|(refine kA ?_;conv=>whnf)|(refine Br.mk (fun hc=>?_) fun hc=>?_<;>first|exact hc.elim|conv=>whnf)|(refine kB ?_))
 ·exact again.mk ⟨_,by omega,i+1,_,z-1,swp D i (a+b-1-i),rfl,by omega,by omega,by omega,permIn_trans _ _ _ _ _ hD (swp_permIn _ _ _ _ _ (by omega) (by omega) (by omega) (by omega) (by omega)),rfl,rfl⟩
 ·exact⟨_,D,rfl,rfl,hD⟩
theorem Apv {Ap:Obj} {obX:Obj} {g2 c:Nat} {r:Int}:
 Am (Ac tab) 223 [.ref 2 g2 0 0] ⟨[Ap,  obX,.arr g2 1 true true [.int .u64 r]],c⟩ fun out s'=>∃c' r',out=.ok (.int .u64 r')∧s'=⟨[Ap,  obX,.arr g2 1 true true [.int .u64 r']],c'⟩:=by
 refine Ah rfl rfl ?_
 (conv=>whnf);repeat' (first|(apply BK rfl;conv=>whnf)|(apply BI rfl;conv=>whnf)|(refine kA ?_;conv=>whnf)|(refine Br.mk (fun hc=>?_) fun hc=>?_<;>first|exact hc.elim|conv=>whnf)|(refine kB ?_))
 exact⟨_,_,rfl,rfl⟩
theorem Ah8 {r:Int} {M:Nat} (h0:0<M) (h:M<2^63):∃n:Nat,IntKind.u64.wrap ((BitVec.ofInt IntKind.u64.bits r &&& BitVec.ofInt IntKind.u64.bits ((M-1:Nat):Int)).toNat:Int)=n∧n<M:=by
 have e:(BitVec.ofInt IntKind.u64.bits ((M-1:Nat):Int)).toNat=M-1:=by
  rw[BitVec.toNat_ofInt]
  show Int.toNat (((M-1:Nat):Int) % ((2 ^ 64:Nat):Int))=M-1
  omega
 refine⟨(BitVec.ofInt IntKind.u64.bits r &&& BitVec.ofInt IntKind.u64.bits ((M-1:Nat):Int)).toNat,VD rfl (by omega) ?_,?_⟩
 ·rw[BitVec.toNat_and,e]
  have:=@Nat.and_le_right (BitVec.ofInt IntKind.u64.bits r).toNat (M-1)
  show _<(2:Int) ^ 64
  omega
 ·rw[BitVec.toNat_and,e]
  have:=@Nat.and_le_right (BitVec.ofInt IntKind.u64.bits r).toNat (M-1)
  omega
set_option maxHeartbeats 1000000 in
theorem AsM {Ap:Obj} {g c len:Nat} {nn cl:Bool} {d:Array (List UInt8)} {a b:Nat} (hl:d.size=len) (hb:b≤len) (hab:a+12<b) (hs:len<2^61):
 Am (Ac tab) 228 [.own 1 g 0 len,.int .i64 a,.int .i64 b] ⟨[Ap,.arr g 1 nn cl (vs .str d.toList)],c⟩ fun out s'=>∃c' D ob,out=.ok (.BG [])∧s'=⟨[Ap,.arr g 1 nn cl (vs .str D.toList),ob],c'⟩∧PermIn a b d D:=by
 refine Ah rfl rfl ?_
 have hq:(b-a) / 4*4≤b-a:=Nat.div_mul_le_self _ _
 have hq2:3≤(b-a) / 4:=by omega
 generalize hL:(b-a) / 4=L at hq hq2
 (conv=>whnf);repeat' (first|(refine F8 (b-a) 4 (by omega) (by omega) ?_;rw[hL];conv=>whnf)|(refine wrapN (b-a) rfl (by omega) (by show _<2^64;omega) ?_;conv=>whnf)|(refine kA ?_;conv=>whnf)|(refine Br.mk (fun hc=>?_) fun hc=>?_<;>first|exact hc.elim|conv=>whnf)|(refine kB ?_))
 rw[show ((b:Int)-a)=((b-a:Nat):Int) by omega]
 refine Aa (O9 (n:=b-a) (by omega) (by omega)) ?_
 rintro _ ⟨M,rfl,hM1,hM2⟩
 (conv=>whnf);repeat' (first|(refine F8 (b-a) 4 (by omega) (by omega) ?_;rw[hL];conv=>whnf)|(refine kA ?_;conv=>whnf)|(refine Br.mk (fun hc=>?_) fun hc=>?_<;>first|exact hc.elim|conv=>whnf)|(refine kB ?_))
 refine Af (fun m env s=>∃(k cc:Nat) (z r:Int) (D:Array (List UInt8)),m=3-k∧k≤3∧z=(a:Int)+L*2-1+k∧PermIn a b d D∧env=[(0,.own 1 g 0 len),(1,.int .i64 a),(6,.int .i64 (b-a:Nat)),(7,.ref 2 c 0 0),(8,.int .u64 M),(9,.int .i64 z)]∧s=⟨[Ap,.arr g 1 nn cl (vs .str D.toList),.arr c 1 true true [.int .u64 r]],cc⟩) ?_ _ _ _ ⟨0,_,_,((b-a:Nat):Int),d,rfl,by omega,by omega,permIn_refl _ _ _,rfl,rfl⟩
 rintro _ _ _ ⟨k,c1,z,r,D,rfl,hk,hz,hD,rfl,rfl⟩
 refine⟨rfl,?_⟩
 have hDl:D.size=len:=by rw[hD.1,hl]
 (conv=>whnf);repeat' (first|(refine F8 (b-a) 4 (by omega) (by omega) ?_;rw[hL];conv=>whnf)|(refine kA ?_;conv=>whnf)|(refine Br.mk (fun hc=>?_) fun hc=>?_<;>first|exact hc.elim|conv=>whnf)|(refine kB ?_))
 ·refine(Apv).mono ?_
  rintro _ _ ⟨c2,r2,rfl,rfl⟩
  obtain⟨o,ho1,ho2⟩:=Ah8 (r:=r2) (M:=M) (by omega) (by omega)
  conv=>whnf
  apply Ae rfl
  (conv=>whnf);repeat' (first|(refine wrapN (M-1) rfl (by omega) (by show _<2^64;omega) ?_;conv=>whnf)|(apply BK ho1;conv=>whnf)|(refine BI (wrap_i64 (by omega) (by omega)) ?_;conv=>whnf)|((with_reducible show AB _ _ _);refine BM (a+(o-(b-a))) ?_;conv=>whnf)|((with_reducible show AB _ _ _);refine BM (a+o) ?_;conv=>whnf)|((with_reducible show AB _ _ _);refine BM (a+L*2-1+k) ?_;conv=>whnf)|((with_reducible show eqK _ _);refine Dn cellsS (a+(o-(b-a))) ?_;conv=>whnf)|((with_reducible show eqK _ _);refine Dn cellsS (a+o) ?_;conv=>whnf)|((with_reducible show eqK _ _);refine Dn cellsS (a+L*2-1+k) ?_;conv=>whnf)|(refine kA ?_;conv=>whnf)|(refine Br.mk (fun hc=>?_) fun hc=>?_<;>first|exact hc.elim|conv=>whnf)|(refine kB ?_))
  ·exact again.mk ⟨_,by omega,k+1,_,_,_,swp D (a+L*2-1+k) (a+(o-(b-a))),rfl,by omega,by omega,permIn_trans _ _ _ _ _ hD (swp_permIn _ _ _ _ _ (by omega) (by omega) (by omega) (by omega) (by omega)),rfl,rfl⟩
  ·exact again.mk ⟨_,by omega,k+1,_,_,_,swp D (a+L*2-1+k) (a+o),rfl,by omega,by omega,permIn_trans _ _ _ _ _ hD (swp_permIn _ _ _ _ _ (by omega) (by omega) (by omega) (by omega) (by omega)),rfl,rfl⟩
 ·exact⟨_,D,_,rfl,rfl,hD⟩
end
end AI
end Go.Proofs.YthnehejdkajjhaaGreatDoor
