/- Small graphs, few strings. Properties looked up. Scripts between graphs: what they are, in plain lists. The reference's order of a value and null. The order of values: the program's walks. The order of values: the reference's walks. -/
import Derived.Test.YtegcpbncohoflaaGreatDoorGMag
import Derived.Test.YtegcpbncohoflaaGreatDoorGMaf
set_option linter.unusedVariables false
namespace Go.Proofs.YtegcpbncohoflaaGreatDoor
namespace AI
theorem weigh {ps:List GP} {nn:Bool} (hl:Ln ps) (hp:∀p∈ps,p.ok) {left:Int} (h1:-9223372036854775808≤left) (h2:left≤2000):
 Af (Ae tab) 9 [.sl nn (vs GP.av ps),.int .i64 left] (fun v=>∃r,v=.int .i64 r∧-9223372036854775808≤r∧r≤2000∧(0≤r→r+ps.length≤left∧∀p∈ps,p.key.length≤101000∧J8 12 p.v.av)):=by
 unfold Ln at hl
 refine Ac rfl rfl ?_
 (conv=>whnf);repeat' (first|(refine kA ?_;conv=>whnf)|(refine Br.mk (fun hc=>?_) fun hc=>?_<;>first|exact hc.elim|conv=>whnf)  |(refine kB ?_))
 refine Aq (fun m env s=>∃(i:Nat) (cur:Int),m=ps.length-i∧env=[(0,.sl nn (vs GP.av ps)),(1,.int .i64 cur),(5,.int .i64 i)]∧s=⟨[],0⟩∧
  -9223372036854775808≤cur∧cur≤2000∧(0≤cur→cur+i≤left∧∀p∈ps.take i,p.key.length≤101000∧J8 12 p.v.av)) ?_ _ _ _ ⟨0,_,rfl,rfl,rfl,by omega,by omega,fun h=>⟨by omega,by simp⟩⟩
 rintro _ _ _ ⟨i,cur,rfl,rfl,rfl,b1,b2,hx⟩
 refine⟨rfl,?_⟩
 have hat:∀(h:i<ps.length),(ps[i]).ok:=fun h=>hp _ (List.getElem_mem _)
 have hk:∀(h:i<ps.length),(ps[i]).key.length<2^63:=fun h=>(hat h).1
 (conv=>whnf);repeat' (first|(refine kA ?_;conv=>whnf)|(refine Br.mk (fun hc=>?_) fun hc=>?_<;>first|exact hc.elim|conv=>whnf)|(refine PL (hk (by omega)) ?_;conv=>whnf)|(have hwr:=hk (by omega);apply BD;(· exact wrap_i64 (by omega) (by omega));clear hwr;conv=>whnf)|(refine kB ?_))
 ·refine Aa (wei 12 (by omega) (hat (by omega)).2 (by have:=hk (by omega);omega) (by omega)) ?_
  rintro _ ⟨r,rfl,r1,r2,r3⟩
  (conv=>whnf);repeat' (first|(refine kA ?_;conv=>whnf)|(refine Br.mk (fun hc=>?_) fun hc=>?_<;>first|exact hc.elim|conv=>whnf)  |(refine kB ?_))
  exact again.mk ⟨_,by omega,i+1,r,rfl,rfl,rfl,by omega,by omega,fun h=>⟨by have:=hx (by omega);have:=r3 h;omega,BH (by omega) (hx (by omega)).2 ⟨by have:=r3 h;omega,(r3 h).2⟩⟩⟩
 ·exact⟨_,rfl,by omega,by omega,fun h=>absurd h (by omega)⟩
 ·refine⟨_,rfl,by omega,by omega,fun h=>?_⟩
  obtain⟨x1,x2⟩:=hx h
  rw[Ec hc]at x2
  exact⟨by omega,x2⟩
def SmP (ps:List GP):Prop:=ps.length≤2000∧∀p∈ps,p.key.length≤101000∧J8 12 p.v.av
def SmN (n:GN):Prop:=n.labels.length≤2000∧(∀ s∈n.labels,s.length≤101000)∧SmP n.props
def SmE (e:GE):Prop:=e.ty.length≤101000∧SmP e.props
def SmG (g:GG) (n e:Int):Prop:=g.nodes.length≤n∧g.edges.length≤e∧(∀ n∈g.nodes,SmN n)∧∀e∈g.edges,SmE e
theorem small {g:GG} (hg:g.ok) {n e:Int}:Af (Ae tab) 4 [g.av,.int .i64 n,.int .i64 e] (fun v=>∃b,v=.bool b∧(b=true→SmG g n e)):=by
 obtain⟨g1,g2,g3,g4,g5,g6,g7,g8⟩:=hg
 unfold Ln at g1 g4
 refine Ac rfl rfl ?_
 (conv=>whnf);repeat' (first|(refine kA ?_;conv=>whnf)|(refine Br.mk (fun hc=>?_) fun hc=>?_<;>first|exact hc.elim|conv=>whnf)  |(refine kB ?_))
 ·exact⟨_,rfl,fun h=>by cases h⟩
 ·exact⟨_,rfl,fun h=>by cases h⟩
 refine Aq (fun m env s=>∃(i c:Nat) (left:Int),m=g.nodes.length-i∧env=[(3,.ref 0 0 0 0),(7,.int .i64 left),(8,.int .i64 i)]∧s=⟨[.arr 0 4 true true [g.av]],c⟩∧-9223372036854775808≤left∧left≤2000∧(0≤left→∀n∈g.nodes.take i,SmN n)) ?_ _ _ _ ⟨0,1,2000,rfl,rfl,rfl,by omega,by omega,fun _=>by simp⟩
 rintro _ _ _ ⟨i,c,left,rfl,rfl,rfl,b1,b2,hx⟩
 refine⟨rfl,?_⟩
 have hat:∀h:i<g.nodes.length,(g.nodes[i]).ok:=fun h=>g3 _ (List.getElem_mem _)
 have hk:∀h:i<g.nodes.length,(g.nodes[i]).labels.length<2^63:=fun h=>(hat h).2.1
 (conv=>whnf);repeat' (first|(refine kA ?_;conv=>whnf)|(refine Br.mk (fun hc=>?_) fun hc=>?_<;>first|exact hc.elim|conv=>whnf)|(have hwr:=hk (by omega);apply BD;(· exact wrap_i64 (by omega) (by omega));clear hwr;conv=>whnf)|(refine kB ?_))
 rotate_left
 ·have hN:0≤left→∀n∈g.nodes,SmN n:=fun h=>absurd h (by omega)
  refine Aq (fun m env s=>∃(i c:Nat) (left:Int),m=g.edges.length-i∧env=[(3,.ref 0 0 0 0),(7,.int .i64 left),(11,.int .i64 i)]∧s=⟨[.arr 0 4 true true [g.av]],c⟩∧-9223372036854775808≤left∧left≤2000∧(0≤left→(∀ n∈g.nodes,SmN n)∧∀n∈g.edges.take i,SmE n)) ?_ _ _ _ ⟨0,_,left,rfl,rfl,rfl,by omega,by omega,fun h=>⟨hN h,by simp⟩⟩
  clear hN hx hat hk b1 b2 hc
  rintro _ _ _ ⟨i,c,left,rfl,rfl,rfl,b1,b2,hx⟩
  refine⟨rfl,?_⟩
  have hat:∀h:i<g.edges.length,(g.edges[i]).ok:=fun h=>g6 _ (List.getElem_mem _)
  have hk:∀h:i<g.edges.length,(g.edges[i]).ty.length<2^63:=fun h=>(hat h).2.2.2.1
  (conv=>whnf);repeat' (first|(refine kA ?_;conv=>whnf)|(refine Br.mk (fun hc=>?_) fun hc=>?_<;>first|exact hc.elim|conv=>whnf)|(refine PL (hk (by omega)) ?_;conv=>whnf)|(have hwr:=hk (by omega);apply BD;(· exact wrap_i64 (by omega) (by omega));clear hwr;conv=>whnf)|(refine kB ?_))
  ·refine Aa (weigh (hat (by omega)).2.2.2.2.1 (hat (by omega)).2.2.2.2.2.2 (by have:=hk (by omega);omega) (by omega)) ?_
   rintro _ ⟨r,rfl,r1,r2,r3⟩
   (conv=>whnf);repeat' (first|(refine kA ?_;conv=>whnf)|(refine Br.mk (fun hc=>?_) fun hc=>?_<;>first|exact hc.elim|conv=>whnf)  |(refine kB ?_))
   have hk1:=hk (by omega)
   exact again.mk ⟨_,by omega,i+1,_,r,rfl,rfl,rfl,by omega,by omega,fun h=>⟨(hx (by omega)).1,BH (by omega) (hx (by omega)).2 ⟨by have:=r3 h;omega,by have:=r3 h;omega,(r3 h).2⟩⟩⟩
  all_goals first
   |exact⟨_,rfl,fun h=>absurd h Bool.false_ne_true⟩
   |(refine ⟨_,rfl,fun h=>?_⟩
     rename_i hc1
     obtain⟨x1,x2⟩:=hx hc
     rw[Ec hc1]at x2
     exact⟨by omega,by omega,x1,x2⟩)
 ·have hN:0≤left→∀n∈g.nodes,SmN n:=by rw[Ec hc]at hx;exact hx
  refine Aq (fun m env s=>∃(i c:Nat) (left:Int),m=g.edges.length-i∧env=[(3,.ref 0 0 0 0),(7,.int .i64 left),(11,.int .i64 i)]∧s=⟨[.arr 0 4 true true [g.av]],c⟩∧-9223372036854775808≤left∧left≤2000∧(0≤left→(∀ n∈g.nodes,SmN n)∧∀n∈g.edges.take i,SmE n)) ?_ _ _ _ ⟨0,_,left,rfl,rfl,rfl,by omega,by omega,fun h=>⟨hN h,by simp⟩⟩
  clear hN hx hat hk b1 b2 hc
  rintro _ _ _ ⟨i,c,left,rfl,rfl,rfl,b1,b2,hx⟩
  refine⟨rfl,?_⟩
  have hat:∀h:i<g.edges.length,(g.edges[i]).ok:=fun h=>g6 _ (List.getElem_mem _)
  have hk:∀h:i<g.edges.length,(g.edges[i]).ty.length<2^63:=fun h=>(hat h).2.2.2.1
  (conv=>whnf);repeat' (first|(refine kA ?_;conv=>whnf)|(refine Br.mk (fun hc=>?_) fun hc=>?_<;>first|exact hc.elim|conv=>whnf)|(refine PL (hk (by omega)) ?_;conv=>whnf)|(have hwr:=hk (by omega);apply BD;(· exact wrap_i64 (by omega) (by omega));clear hwr;conv=>whnf)|(refine kB ?_))
  ·refine Aa (weigh (hat (by omega)).2.2.2.2.1 (hat (by omega)).2.2.2.2.2.2 (by have:=hk (by omega);omega) (by omega)) ?_
   rintro _ ⟨r,rfl,r1,r2,r3⟩
   (conv=>whnf);repeat' (first|(refine kA ?_;conv=>whnf)|(refine Br.mk (fun hc=>?_) fun hc=>?_<;>first|exact hc.elim|conv=>whnf)  |(refine kB ?_))
   have hk1:=hk (by omega)
   exact again.mk ⟨_,by omega,i+1,_,r,rfl,rfl,rfl,by omega,by omega,fun h=>⟨(hx (by omega)).1,BH (by omega) (hx (by omega)).2 ⟨by have:=r3 h;omega,by have:=r3 h;omega,(r3 h).2⟩⟩⟩
  all_goals first
   |exact⟨_,rfl,fun h=>absurd h Bool.false_ne_true⟩
   |(refine ⟨_,rfl,fun h=>?_⟩
     rename_i hc1
     obtain⟨x1,x2⟩:=hx hc
     rw[Ec hc1]at x2
     exact⟨by omega,by omega,x1,x2⟩)
 refine Aa (weigh (hat (by omega)).2.2.2.2.1 (hat (by omega)).2.2.2.2.2.2 (by have:=hk (by omega);omega) (by omega)) ?_
 rintro _ ⟨r,rfl,r1,r2,r3⟩
 (conv=>whnf);repeat' (first|(refine kA ?_;conv=>whnf)|(refine Br.mk (fun hc=>?_) fun hc=>?_<;>first|exact hc.elim|conv=>whnf)  |(refine kB ?_))
 refine Aq (fun m env s=>∃(j:Nat) (l2:Int),m=(g.nodes[i]).labels.length-j∧env=[(3,.ref 0 0 0 0),(7,.int .i64 l2),(8,.int .i64 i),(9,.ref 1 c 0 0),(10,.int .i64 j)]∧s=⟨[.arr 0 4 true true [g.av],.arr c 3 true true [(g.nodes[i]).av]],c+1⟩∧-9223372036854775808≤l2∧l2≤2000∧(0≤l2→0≤r∧∀s∈(g.nodes[i]).labels.take j,s.length≤101000)) ?_ _ _ _ ⟨0,r,rfl,rfl,rfl,by omega,by omega,fun h=>⟨h,by simp⟩⟩
 rintro _ _ _ ⟨j,l2,rfl,rfl,rfl,d1,d2,hy⟩
 refine⟨rfl,?_⟩
 have hlb:∀h:j<(g.nodes[i]).labels.length,((g.nodes[i]).labels[j]).length<2^63:=fun h=>(hat (by omega)).2.2.2.1 _ (List.getElem_mem _)
 have hk1:=hk (by omega)
 (conv=>whnf);repeat' (first|(refine kA ?_;conv=>whnf)|(refine Br.mk (fun hc=>?_) fun hc=>?_<;>first|exact hc.elim|conv=>whnf)|(refine PL (hlb (by omega)) ?_;conv=>whnf)|(have hwr:=hlb (by omega);apply BD;(· exact wrap_i64 (by omega) (by omega));clear hwr;conv=>whnf)|(refine kB ?_))
 ·have:=hlb (by omega)
  exact again.mk ⟨_,by omega,j+1,_,rfl,rfl,rfl,by omega,by omega,fun h=>⟨(hy (by omega)).1,BH (by omega) (hy (by omega)).2 (by omega)⟩⟩
 ·exact again.mk ⟨_,by omega,i+1,_,l2,rfl,rfl,rfl,by omega,by omega,fun h=>absurd h (by omega)⟩
 ·refine again.mk ⟨_,by omega,i+1,_,l2,rfl,rfl,rfl,by omega,by omega,fun h=>?_⟩
  obtain⟨y1,y2⟩:=hy h
  rw[Ec hc]at y2
  have:=r3 y1
  exact BH (by omega) (hx (by omega)) ⟨by omega,y2,by omega,this.2⟩
def cl (b:Bool) (x:AV):AV:=bif b then .agg [x]else x
theorem Jf:∀{d:Nat} {v:GV},J8 d v.av→dep d v
 |0,_,h=>h.elim
 |d+1,v,h=>fun x hx=>by
  obtain⟨g,e,h1,_,_,h2⟩:=h
  have e2:v.l=g.l:=by
   have:=congrArg GH e
   rw[Jv,Jv]at this
   rw[this]
  rw[e2]at hx
  have h3:=h2 x hx
  cases d with
  |zero=>exact h3.elim
  |succ d=>
   have h4:=h3
   obtain⟨g',e',k1,_⟩:=h4
   exact⟨g',e',k1,Jf (e'▸h3)⟩
def Vt (k:Int):Int:=if k=0 then 0 else if k=1 then 1 else if k=2∨k=3 then 2 else if k=4 then 3 else if k=5 then 4 else if k=6 then 5 else if k=8 then 6 else 7
theorem WQ {k:Int}:Af (Ae tab) 66 [.int .i64 k] (· =.int .i64 (Vt k)):=by
 refine Ac rfl rfl ?_
 (conv=>whnf);repeat' (first  |(refine kA ?_;conv=>whnf)|(refine Br.mk (fun hc=>?_) fun hc=>?_<;>first|exact hc.elim|conv=>whnf)|(refine kB ?_))
 all_goals first
  |rfl
  |(unfold Vt;repeat' split
    all_goals first|rfl|(exfalso;omega))
section
open Go.Sort
theorem Je {b:Int}:CP 0 b=b:=if_pos rfl
theorem Ud {a b:Int} (h:a≠0):CP a b=a:=if_neg h
def ElP (f:Nat) (c:AV→AV→Int) (x y:AV):Prop:=∃g h:GV,x=g.av∧y=h.av∧Af (Ae tab) f [g.av,h.av] (· =.int .i64 (c x y))
theorem KA {f:Nat} {c:AV→AV→Int} {l l':List AV} {nn Yq:Bool} (hl:l.length<2^63) (hl':l'.length<2^63) (h0:∀i (h:i<l.length),∃g:GV,l[i]=g.av) (hel:∀i (h:i<l.length) (h':i<l'.length),ElP f c l[i] l'[i]):
 Af (Ae tab) 51 [.sl nn l,.sl Yq l',.fn f []] (· =.int .i64 (BX c l l')):=by
 refine Ac rfl rfl ?_
 (conv=>whnf);repeat' (first  |(refine kA ?_;conv=>whnf)|(refine Br.mk (fun hc=>?_) fun hc=>?_<;>first|exact hc.elim|conv=>whnf)|(refine kB ?_))
 refine Aq (fun m env s=>∃i k:Nat,m=l.length-i∧i≤l.length∧i≤l'.length∧BX c (l.drop i) (l'.drop i)=BX c l l'∧env=[(0,.sl nn l),(1,.sl Yq l'),(2,.fn f []),(11,.sl nn l),(12,.int .i64 l.length),(13,.int .i64 i)]∧s=⟨[],k⟩) ?_ _ _ _ ⟨0,_,rfl,by omega,by omega,by simp,rfl,rfl⟩
 rintro _ _ _ ⟨i,k,rfl,hi,hj,hc0,rfl,rfl⟩
 refine⟨rfl,?_⟩
 by_cases hlt:i<l.length
 ·by_cases Yr:i<l'.length
  ·rw[Oc hlt Yr]at hc0
   obtain⟨gx,gy,e1,e2,hp⟩:=hel i hlt Yr
   have n1:nth l (Int.toNat (Nat.cast i))=some gx.av:=by rw[← e1];exact nRN hlt
   have n2:nth l' (Int.toNat (Nat.cast i))=some gy.av:=by rw[← e2];exact nRN Yr
   generalize c l[i] l'[i]=z at*
   unfold CP at hc0
   (conv=>whnf);repeat' (first|(apply Bq;(· exact n1);conv=>whnf)|(apply Bq;(· exact n2);conv=>whnf)|(refine Aa hp ?_;rintro _ rfl;conv=>whnf)|(refine kA ?_;conv=>whnf)|(refine Br.mk (fun hc=>?_) fun hc=>?_<;>first|exact hc.elim|conv=>whnf)|(refine kB ?_))
   all_goals first
        |(rw [if_neg (by assumption)]at hc0;rw[← hc0];rfl)
        |(rw [if_pos (by assumption)]at hc0;exact again.mk ⟨_,by omega,i+1,_,rfl,by omega,by omega,hc0,rfl,rfl⟩)
        |(exfalso;omega)
  ·have e2:l'.drop i=[]:=List.drop_eq_nil_of_le (by omega)
   obtain⟨gx,hx⟩:=h0 i hlt
   have n1:nth l (Int.toNat (Nat.cast i))=some gx.av:=by rw[← hx];exact nRN hlt
   rw[List.drop_eq_getElem_cons hlt,e2,BX]at hc0
   (conv=>whnf);repeat' (first|(apply Bq;(· exact n1);conv=>whnf)|(refine kA ?_;conv=>whnf)|(refine Br.mk (fun hc=>?_) fun hc=>?_<;>first|exact hc.elim|conv=>whnf)|(refine kB ?_))
   all_goals first|(rw [← hc0];rfl)|(exfalso;omega)
 ·have e1:l.drop i=[]:=List.drop_eq_nil_of_le (by omega)
  rw[e1]at hc0
  by_cases Yr:i<l'.length
  ·rw[List.drop_eq_getElem_cons Yr,BX]at hc0
   (conv=>whnf);repeat' (first  |(refine kA ?_;conv=>whnf)|(refine Br.mk (fun hc=>?_) fun hc=>?_<;>first|exact hc.elim|conv=>whnf)|(refine kB ?_))
   all_goals first|(rw [← hc0];rfl)|(exfalso;omega)
  ·have e2:l'.drop i=[]:=List.drop_eq_nil_of_le (by omega)
   rw[e2,BX]at hc0
   (conv=>whnf);repeat' (first  |(refine kA ?_;conv=>whnf)|(refine Br.mk (fun hc=>?_) fun hc=>?_<;>first|exact hc.elim|conv=>whnf)|(refine kB ?_))
   all_goals first|(rw [← hc0];rfl)|(exfalso;omega)
theorem ZG {v:GV} (hv:v.ok):v.l.length<2^63:=hv.2.2.2.2.1
theorem Ny {g:GV} (h:LQ g):pd g=dn g:=by
 have:=(KC h).1
 unfold pd;rw[if_neg (by omega)]
theorem RS {k:Int}:FI k=2↔k=2∨k=3:=by unfold FI;split<;>(try split)<;>omega
theorem elemV {a g:GV} {i:Nat} (h:VV 8 a) (hi:i<a.l.length) (e:a.l[i]=g.av):VV 8 g:=by
 by_cases h7:a.k=7
 ·obtain⟨x,e1,_,x2⟩:=((VH h7).1 h).2.2.2.2.2 i hi
  rw[e1]at e
  obtain rfl:=GV.FC e
  exact Xx (m:=0) (by omega) (.inl x2)
 ·by_cases h8:a.k=8
  ·obtain⟨x,e1,x2⟩:=((YO (m:=7) h8).1 h).2.2.2.2 i hi
   rw[e1]at e
   obtain rfl:=GV.FC e
   exact Xx (m:=7) (by omega) x2
  ·rw[QE h7 h8]at h
   have:=h.1
   omega
theorem Hl {m:Nat} {v:GV} {i:Nat} (h:dep (m+1) v) (hi:i<v.l.length):∃g:GV,v.l[i]=g.av∧g.ok∧dep m g:=h _ (List.getElem_mem hi)
theorem AdA {a b c:Int}:Yp [a,b,c]=CP a (CP b c):=by
 simp only[Yp];congr 1;congr 1;unfold CP;split<;>omega
theorem AdB {a b c d e:Int}:Yp [a,b,c,d,e]=CP a (CP b (CP c (CP d e))):=by
 simp only[Yp];congr 1;congr 1;congr 1;congr 1;unfold CP;split<;>omega
theorem AdC {a b c:Int}:Af (Ae tab) 28 [.sl true [.int .i64 a,.int .i64 b,.int .i64 c]] (· =.int .i64 (CP a (CP b c))):=by
 have h:=orV (l:=[a,b,c]) (nn:=true) (by simp)
 rw[AdA]at h
 exact h
theorem AdD {a b c d e:Int}:Af (Ae tab) 28 [.sl true [.int .i64 a,.int .i64 b,.int .i64 c,.int .i64 d,.int .i64 e]] (· =.int .i64 (CP a (CP b (CP c (CP d e))))):=by
 have h:=orV (l:=[a,b,c,d,e]) (nn:=true) (by simp)
 rw[AdB]at h
 exact h
theorem AdE {k k':Int}:Af (Ae tab) 29 [.int .i64 (FI k),.int .i64 (FI k')] (· =.int .i64 (CV (FI k) (FI k'))):=compare
theorem U4:∀(m:Nat) {a b:GV},a.ok→b.ok→dep m a→dep m b→VV 8 a→VV 8 b→Af (Ae tab) 49 [a.av,b.av] (· =.int .i64 (LD m a b))
 |0,a,b,ha,hb,da,db,va,vb=>absurd da id
 |m+1,a,b,ha,hb,da,db,va,vb=>by
  have k1:=Xy (v:=a)
  have k2:=Xy (v:=b)
  have k3:=AdE (k:=a.k) (k':=b.k)
  unfold LD
  by_cases h0:CV (FI a.k) (FI b.k)=0
  ·rw[h0,Je]
   rw[h0]at k3
   have he:=Dz.1 h0
   by_cases h2:FI a.k=2
   ·rw[if_pos h2]
    have na:LQ a:=⟨va,RS.1 h2⟩
    have nb:LQ b:=⟨vb,RS.1 (by omega)⟩
    have p1:=nP1 ha na
    have p2:=nP1 hb nb
    have p3:=AdF (KC na) (KC nb)
    unfold UL
    rw[Ny na,Ny nb]
    refine Ac rfl rfl ?_
    (conv=>whnf);repeat' (first|((first|refine Aa k1 ?_|refine Aa k2 ?_|refine Aa k3 ?_|refine Aa p1 ?_|refine Aa p2 ?_|refine Aa p3 ?_);rintro _ rfl;conv=>whnf)|(refine kA ?_;conv=>whnf)|(refine Br.mk (fun hc=>?_) fun hc=>?_<;>first|exact hc.elim|conv=>whnf)|(refine kB ?_))
    all_goals first|rfl|(exfalso;omega)
   ·rw[if_neg h2]
    have p1:=Rh (x:=a.s) (y:=b.s)
    have p2:Af (Ae tab) 29 [.int .i64 a.n,.int .i64 b.n] (· =.int .i64 (CV a.n b.n)):=compare
    have p3:=KA (f:=49) (c:=fun x y=>LD m (GH x) (GH y)) (nn:=a.nn) (Yq:=b.nn) (ZG ha) (ZG hb) (fun i hi=>by
      obtain⟨g,e,_⟩:=Hl da hi
      exact⟨g,e⟩) (fun i hi hi'=>by
      obtain⟨g,e1,g1,g2⟩:=Hl da hi
      obtain⟨h,e2,h1,h2⟩:=Hl db hi'
      refine⟨g,h,e1,e2,?_⟩
      rw[e1,e2]
      exact U4 m g1 h1 g2 h2 (elemV va hi e1) (elemV vb hi' e2))
    have p4:=AdC (a:=cS a.s b.s) (b:=CV a.n b.n) (c:=BX (fun x y=>LD m (GH x) (GH y)) a.l b.l)
    refine Ac rfl rfl ?_
    (conv=>whnf);repeat' (first|((first|refine Aa k1 ?_|refine Aa k2 ?_|refine Aa k3 ?_|refine Aa p1 ?_|refine Aa p2 ?_|refine Aa p3 ?_|refine Aa p4 ?_);rintro _ rfl;conv=>whnf)|(refine kA ?_;conv=>whnf)|(refine Br.mk (fun hc=>?_) fun hc=>?_<;>first|exact hc.elim|conv=>whnf)|(refine kB ?_))
    all_goals first|rfl|(exfalso;omega)
  ·rw[Ud h0]
   refine Ac rfl rfl ?_
   (conv=>whnf);repeat' (first|((first|refine Aa k1 ?_|refine Aa k2 ?_|refine Aa k3 ?_);rintro _ rfl;conv=>whnf)|(refine kA ?_;conv=>whnf)|(refine Br.mk (fun hc=>?_) fun hc=>?_<;>first|exact hc.elim|conv=>whnf)|(refine kB ?_))
   all_goals first|rfl|(exfalso;omega)
theorem U5:∀(m:Nat) {a b:GV},a.ok→b.ok→dep m a→dep m b→Af (Ae tab) 36 [a.av,b.av] (· =.int .i64 (I4 m a b))
 |0,a,b,ha,hb,da,db=>absurd da id
 |m+1,a,b,ha,hb,da,db=>by
  unfold I4
  by_cases va:VV 8 a
  ·have p1:=vP ha va
   rw[if_pos va]
   by_cases vb:VV 8 b
   ·have p2:=vP hb vb
    have p3:=U4 (m+1) ha hb da db va vb
    rw[if_pos vb]
    refine Ac rfl rfl ?_
    (conv=>whnf);repeat' (first|((first|refine Aa p1 ?_|refine Aa p2 ?_|refine Aa p3 ?_);rintro _ rfl;conv=>whnf)|(refine kA ?_;conv=>whnf)|(refine Br.mk (fun hc=>?_) fun hc=>?_<;>first|exact hc.elim|conv=>whnf)|(refine kB ?_))
    all_goals first|rfl
   ·have p2:=vPn hb vb
    rw[if_neg vb]
    refine Ac rfl rfl ?_
    (conv=>whnf);repeat' (first|((first|refine Aa p1 ?_|refine Aa p2 ?_);rintro _ rfl;conv=>whnf)|(refine kA ?_;conv=>whnf)|(refine Br.mk (fun hc=>?_) fun hc=>?_<;>first|exact hc.elim|conv=>whnf)|(refine kB ?_))
    all_goals first|rfl
  ·have p1:=vPn ha va
   rw[if_neg va]
   by_cases vb:VV 8 b
   ·have p2:=vP hb vb
    rw[if_pos vb]
    refine Ac rfl rfl ?_
    (conv=>whnf);repeat' (first|((first|refine Aa p1 ?_|refine Aa p2 ?_);rintro _ rfl;conv=>whnf)|(refine kA ?_;conv=>whnf)|(refine Br.mk (fun hc=>?_) fun hc=>?_<;>first|exact hc.elim|conv=>whnf)|(refine kB ?_))
    all_goals first|rfl
   ·have p2:=vPn hb vb
    rw[if_neg vb]
    have q1:Af (Ae tab) 29 [.int .i64 a.k,.int .i64 b.k] (· =.int .i64 (CV a.k b.k)):=compare
    have q2:Af (Ae tab) 29 [.int .i64 a.n,.int .i64 b.n] (· =.int .i64 (CV a.n b.n)):=compare
    have q3:Af (Ae tab) 29 [.int .i64 a.d,.int .i64 b.d] (· =.int .i64 (CV a.d b.d)):=compare
    have q4:=Rh (x:=a.s) (y:=b.s)
    have q5:=KA (f:=36) (c:=fun x y=>I4 m (GH x) (GH y)) (nn:=a.nn) (Yq:=b.nn) (ZG ha) (ZG hb) (fun i hi=>by
     obtain⟨g,e,_⟩:=Hl da hi
     exact⟨g,e⟩) (fun i hi hi'=>by
     obtain⟨g,e1,g1,g2⟩:=Hl da hi
     obtain⟨h,e2,h1,h2⟩:=Hl db hi'
     refine⟨g,h,e1,e2,?_⟩
     rw[e1,e2]
     exact U5 m g1 h1 g2 h2)
    have q6:=AdD (a:=CV a.k b.k) (b:=CV a.n b.n) (c:=CV a.d b.d) (d:=cS a.s b.s) (e:=BX (fun x y=>I4 m (GH x) (GH y)) a.l b.l)
    refine Ac rfl rfl ?_
    (conv=>whnf);repeat' (first|((first|refine Aa p1 ?_|refine Aa p2 ?_|refine Aa q1 ?_|refine Aa q2 ?_|refine Aa q3 ?_|refine Aa q4 ?_|refine Aa q5 ?_|refine Aa q6 ?_);rintro _ rfl;conv=>whnf)|(refine kA ?_;conv=>whnf)|(refine Br.mk (fun hc=>?_) fun hc=>?_<;>first|exact hc.elim|conv=>whnf)|(refine kB ?_))
    all_goals first|rfl
end
section
open Go.Sort
theorem OY {a b:Int}:Af (Ae tab) 65 [.int .i64 a,.int .i64 b] (· =.int .i64 (CV a b)):=by
 refine Ac rfl rfl ?_
 (conv=>whnf);repeat' (first  |(refine kA ?_;conv=>whnf)|(refine Br.mk (fun hc=>?_) fun hc=>?_<;>first|exact hc.elim|conv=>whnf)|(refine kB ?_))
 all_goals exact congrArg (AV.int .i64) (by unfold CV;repeat' split
                                            all_goals omega)
theorem Aa2 {x y:List UInt8}:Af (Ae tab) 79 [.str x,.str y] (· =.int .i64 (cS x y)):=by
 refine Ac rfl rfl ?_
 (conv=>whnf);repeat' (first  |(refine kA ?_;conv=>whnf)|(refine Br.mk (fun hc=>?_) fun hc=>?_<;>first|exact hc.elim|conv=>whnf)|(refine kB ?_))
 all_goals first|exact Zx hc|exact Zy (by assumption) hc|exact Zz hc
theorem Vj {c:AV→AV→Int} {l l':List AV} {nn Yq:Bool} (hl:l.length<2^63) (hl':l'.length<2^63) (hel:∀i (h:i<l.length) (h':i<l'.length),ElP 52 c l[i] l'[i]):
 Af (Ae tab) 80 [.sl nn l,.sl Yq l'] (· =.int .i64 (BX c l l')):=by
 refine Ac rfl rfl ?_
 (conv=>whnf);repeat' (first  |(refine kA ?_;conv=>whnf)|(refine Br.mk (fun hc=>?_) fun hc=>?_<;>first|exact hc.elim|conv=>whnf)|(refine kB ?_))
 refine Aq (fun m env s=>∃i k:Nat,m=l.length-i∧i≤l.length∧i≤l'.length∧BX c (l.drop i) (l'.drop i)=BX c l l'∧env=[(0,.sl nn l),(1,.sl Yq l'),(5,.int .i64 i)]∧s=⟨[],k⟩) ?_ _ _ _ ⟨0,_,rfl,by omega,by omega,by simp,rfl,rfl⟩
 rintro _ _ _ ⟨i,k,rfl,hi,hj,hc0,rfl,rfl⟩
 refine⟨rfl,?_⟩
 have hfin:(¬ i<l.length∨¬i<l'.length)→CV l.length l'.length=BX c l l':=fun h=>by
  rw[← hc0]
  by_cases h1:i<l.length
  ·have e2:l'.drop i=[]:=List.drop_eq_nil_of_le (by omega)
   rw[List.drop_eq_getElem_cons h1,e2,BX]
   unfold CV;repeat' split
   all_goals omega
  ·have e1:l.drop i=[]:=List.drop_eq_nil_of_le (by omega)
   rw[e1]
   by_cases h2:i<l'.length
   ·rw[List.drop_eq_getElem_cons h2,BX]
    unfold CV;repeat' split
    all_goals omega
   ·have e2:l'.drop i=[]:=List.drop_eq_nil_of_le (by omega)
    rw[e2,BX]
    unfold CV;repeat' split
    all_goals omega
 have hin:Af (Ae tab) 65 [.int .i64 l.length,.int .i64 l'.length] (· =.int .i64 (CV l.length l'.length)):=OY
 by_cases hlt:i<l.length
 ·by_cases Yr:i<l'.length
  ·rw[Oc hlt Yr]at hc0
   obtain⟨gx,gy,e1,e2,hp⟩:=hel i hlt Yr
   have n1:nth l (Int.toNat (Nat.cast i))=some gx.av:=by rw[← e1];exact nRN hlt
   have n2:nth l' (Int.toNat (Nat.cast i))=some gy.av:=by rw[← e2];exact nRN Yr
   generalize c l[i] l'[i]=z at*
   unfold CP at hc0
   clear hfin hin
   (conv=>whnf);repeat' (first|(apply Bq;(· exact n1);conv=>whnf)|(apply Bq;(· exact n2);conv=>whnf)|(refine Aa hp ?_;rintro _ rfl;conv=>whnf)|(refine kA ?_;conv=>whnf)|(refine Br.mk (fun hc=>?_) fun hc=>?_<;>first|exact hc.elim|conv=>whnf)|(refine kB ?_))
   all_goals first
        |(rw [if_neg (by assumption)]at hc0;rw[← hc0];rfl)
        |(rw [if_pos (by assumption)]at hc0;exact again.mk ⟨_,by omega,i+1,_,rfl,by omega,by omega,hc0,rfl,rfl⟩)
        |(exfalso;omega)
  ·rw[hfin (.inr Yr)]at hin
   (conv=>whnf);repeat' (first|(refine Aa hin ?_;rintro _ rfl;conv=>whnf)|(refine kA ?_;conv=>whnf)|(refine Br.mk (fun hc=>?_) fun hc=>?_<;>first|exact hc.elim|conv=>whnf)|(refine kB ?_))
   all_goals first|rfl|(exfalso;omega)
 ·rw[hfin (.inl hlt)]at hin
  (conv=>whnf);repeat' (first|(refine Aa hin ?_;rintro _ rfl;conv=>whnf)|(refine kA ?_;conv=>whnf)|(refine Br.mk (fun hc=>?_) fun hc=>?_<;>first|exact hc.elim|conv=>whnf)|(refine kB ?_))
  all_goals first|rfl|(exfalso;omega)
theorem Tv {a b:GV} {L:Int} (hL:Af (Ae tab) 80 [.sl a.nn a.l,.sl b.nn b.l] (· =.int .i64 L)):
 Af (Ae tab) 64 [a.av,b.av] (· =.int .i64 (CP (CV a.k b.k) (CP (CV a.n b.n) (CP (CV a.d b.d) (CP (cS a.s b.s) L))))):=by
 have q1:Af (Ae tab) 65 [.int .i64 a.k,.int .i64 b.k] (· =.int .i64 (CV a.k b.k)):=OY
 have q2:Af (Ae tab) 65 [.int .i64 a.n,.int .i64 b.n] (· =.int .i64 (CV a.n b.n)):=OY
 have q3:Af (Ae tab) 65 [.int .i64 a.d,.int .i64 b.d] (· =.int .i64 (CV a.d b.d)):=OY
 have q4:=Aa2 (x:=a.s) (y:=b.s)
 generalize CV a.k b.k=z1 at*
 generalize CV a.n b.n=z2 at*
 generalize CV a.d b.d=z3 at*
 generalize cS a.s b.s=z4 at*
 have e:∀x y:Int,x=y→AV.int .i64 x=.int .i64 y:=fun x y h=>by rw[h]
 refine Ac rfl rfl ?_
 (conv=>whnf);repeat' (first|((first|refine Aa q1 ?_|refine Aa q2 ?_|refine Aa q3 ?_|refine Aa q4 ?_|refine Aa hL ?_);rintro _ rfl;conv=>whnf)|(refine kA ?_;conv=>whnf)|(refine Br.mk (fun hc=>?_) fun hc=>?_<;>first|exact hc.elim|conv=>whnf)|(refine kB ?_))
 all_goals first
  |exact e _ _ (by rw[Ud (by assumption)])
  |exact e _ _ (by unfold CP;repeat' split
                   all_goals omega)
theorem Le {a:GV} (h:VV 8 a):0≤a.k∧a.k≤8:=by
 by_cases h7:a.k=7
 ·omega
 ·by_cases h8:a.k=8
  ·omega
  ·rw[QE h7 h8]at h
   obtain⟨_,h⟩:=h
   omega
theorem Zm {k k':Int} (h:0≤k∧k≤8) (h':0≤k'∧k'≤8):CV (Vt k) (Vt k')=CV (FI k) (FI k'):=by
 have h1:k=0∨k=1∨k=2∨k=3∨k=4∨k=5∨k=6∨k=7∨k=8:=by omega
 have h2:k'=0∨k'=1∨k'=2∨k'=3∨k'=4∨k'=5∨k'=6∨k'=7∨k'=8:=by omega
 rcases h1 with rfl|rfl|rfl|rfl|rfl|rfl|rfl|rfl|rfl<;>rcases h2 with rfl|rfl|rfl|rfl|rfl|rfl|rfl|rfl|rfl<;>decide
theorem Yk {a:GV} (h:VV 8 a) (h2:¬FI a.k=2):a.d=0∧(a.k=4→a.n=0)∧(a.k≠4→a.s=[]):=by
 rw[RS]at h2
 by_cases h7:a.k=7
 ·have:=(VH h7).1 h
  exact⟨this.2.1,fun h=>by omega,fun _=>this.2.2.1⟩
 ·by_cases h8:a.k=8
  ·have:=(YO (m:=7) h8).1 h
   exact⟨this.2.1,fun h=>by omega,fun _=>this.2.2.1⟩
  ·obtain⟨k1,k2⟩:=Acr h h7 h8
   rw[QE h7 h8]at h
   obtain⟨_,h⟩:=h
   refine⟨?_,k1,k2⟩
   rcases h with h|h|h|h|h|h<;>first|exact h.2.2.1|exact h.2.2.2.1|(exfalso;omega)
set_option maxHeartbeats 1000000 in
theorem QF:∀(m:Nat) {a b:GV},a.ok→b.ok→dep m a→dep m b→Af (Ae tab) 52 [a.av,b.av] (· =.int .i64 (I4 m a b))
 |0,a,b,ha,hb,da,db=>absurd da id
 |m+1,a,b,ha,hb,da,db=>by
  unfold I4
  by_cases va:VV 8 a
  ·have p1:=vR ha va
   rw[if_pos va]
   by_cases vb:VV 8 b
   ·have p2:=vR hb vb
    rw[if_pos vb]
    have k1:=WQ (k:=a.k)
    have k2:=WQ (k:=b.k)
    have k3:Af (Ae tab) 65 [.int .i64 (Vt a.k),.int .i64 (Vt b.k)] (· =.int .i64 (CV (FI a.k) (FI b.k))):=by
     rw[← Zm (Le va) (Le vb)];exact OY
    unfold LD
    by_cases h0:CV (FI a.k) (FI b.k)=0
    ·rw[h0,Je]
     rw[h0]at k3
     have he:=Dz.1 h0
     by_cases h2:FI a.k=2
     ·rw[if_pos h2]
      have na:LQ a:=⟨va,RS.1 h2⟩
      have nb:LQ b:=⟨vb,RS.1 (by omega)⟩
      have q1:=nR1 ha na
      have q2:=nR1 hb nb
      have q3:=Aca (KC na) (KC nb)
      unfold UL
      rw[Ny na,Ny nb]
      refine Ac rfl rfl ?_
      (conv=>whnf);repeat' (first|((first|refine Aa p1 ?_|refine Aa p2 ?_|refine Aa k1 ?_|refine Aa k2 ?_|refine Aa k3 ?_|refine Aa q1 ?_|refine Aa q2 ?_|refine Aa q3 ?_);rintro _ rfl;conv=>whnf)|(refine kA ?_;conv=>whnf)|(refine Br.mk (fun hc=>?_) fun hc=>?_<;>first|exact hc.elim|conv=>whnf)|(refine kB ?_))
      all_goals first|rfl|(exfalso;omega)
     ·rw[if_neg h2]
      have na:¬LQ a:=fun h=>h2 (RS.2 h.2)
      have nb:¬LQ b:=fun h=>h2 (by rw[he];exact RS.2 h.2)
      have q1:=nR0 ha na
      have q2:=nR0 hb nb
      have hkk:a.k=b.k:=by
        have:=Le va
        have:=Le vb
        rw[RS]at h2
        unfold FI at he
        repeat' split at he
        all_goals omega
      obtain⟨f1,f2,f3⟩:=Yk va h2
      obtain⟨g1,g2,g3⟩:=Yk vb (by rw[← he];exact h2)
      have q3:=Tv (a:=a) (b:=b) (Vj (c:=fun x y=>LD m (GH x) (GH y)) (nn:=a.nn) (Yq:=b.nn) (ZG ha) (ZG hb) (fun i hi hi'=>by
        obtain⟨g,e1,g1,g2⟩:=Hl da hi
        obtain⟨h,e2,h1,h2⟩:=Hl db hi'
        refine⟨g,h,e1,e2,?_⟩
        rw[e1,e2]
        have:=QF m g1 h1 g2 h2
        have e:I4 m g h=LD m g h:=by
         cases m with
         |zero=>exact absurd g2 id
         |succ m=>unfold I4;rw[if_pos (elemV va hi e1),if_pos (elemV vb hi' e2)]
        rw[e]at this
        exact this))
      have e:CP (CV a.k b.k) (CP (CV a.n b.n) (CP (CV a.d b.d) (CP (cS a.s b.s) (BX (fun x y=>LD m (GH x) (GH y)) a.l b.l))))=CP (cS a.s b.s) (CP (CV a.n b.n) (BX (fun x y=>LD m (GH x) (GH y)) a.l b.l)):=by
        rw[Dz.2 hkk,Je,f1,g1,Dz.2 rfl,Je]
        by_cases h4:a.k=4
        ·rw[f2 h4,g2 (by omega),Dz.2 rfl,Je,Je]
        ·rw[f3 h4,g3 (by omega),Nr.2 rfl,Je,Je]
      rw[e]at q3
      refine Ac rfl rfl ?_
      (conv=>whnf);repeat' (first|((first|refine Aa p1 ?_|refine Aa p2 ?_|refine Aa k1 ?_|refine Aa k2 ?_|refine Aa k3 ?_|refine Aa q1 ?_|refine Aa q2 ?_|refine Aa q3 ?_);rintro _ rfl;conv=>whnf)|(refine kA ?_;conv=>whnf)|(refine Br.mk (fun hc=>?_) fun hc=>?_<;>first|exact hc.elim|conv=>whnf)|(refine kB ?_))
      all_goals first|rfl|(exfalso;omega)
    ·rw[Ud h0]
     refine Ac rfl rfl ?_
     (conv=>whnf);repeat' (first|((first|refine Aa p1 ?_|refine Aa p2 ?_|refine Aa k1 ?_|refine Aa k2 ?_|refine Aa k3 ?_);rintro _ rfl;conv=>whnf)|(refine kA ?_;conv=>whnf)|(refine Br.mk (fun hc=>?_) fun hc=>?_<;>first|exact hc.elim|conv=>whnf)|(refine kB ?_))
     all_goals first|rfl|(exfalso;omega)
   ·have p2:=vRn hb vb
    rw[if_neg vb]
    refine Ac rfl rfl ?_
    (conv=>whnf);repeat' (first|((first|refine Aa p1 ?_|refine Aa p2 ?_|refine Aa Acp ?_|refine Aa ZY ?_);rintro _ rfl;conv=>whnf)|(refine kA ?_;conv=>whnf)|(refine Br.mk (fun hc=>?_) fun hc=>?_<;>first|exact hc.elim|conv=>whnf)|(refine kB ?_))
    all_goals first|rfl|(exfalso;simp_all;done)
  ·have p1:=vRn ha va
   rw[if_neg va]
   by_cases vb:VV 8 b
   ·have p2:=vR hb vb
    rw[if_pos vb]
    refine Ac rfl rfl ?_
    (conv=>whnf);repeat' (first|((first|refine Aa p1 ?_|refine Aa p2 ?_|refine Aa Acp ?_|refine Aa ZY ?_);rintro _ rfl;conv=>whnf)|(refine kA ?_;conv=>whnf)|(refine Br.mk (fun hc=>?_) fun hc=>?_<;>first|exact hc.elim|conv=>whnf)|(refine kB ?_))
    all_goals first|rfl|(exfalso;simp_all;done)
   ·have p2:=vRn hb vb
    rw[if_neg vb]
    have q3:=Tv (a:=a) (b:=b) (Vj (c:=fun x y=>I4 m (GH x) (GH y)) (nn:=a.nn) (Yq:=b.nn) (ZG ha) (ZG hb) (fun i hi hi'=>by
     obtain⟨g,e1,g1,g2⟩:=Hl da hi
     obtain⟨h,e2,h1,h2⟩:=Hl db hi'
     refine⟨g,h,e1,e2,?_⟩
     rw[e1,e2]
     exact QF m g1 h1 g2 h2))
    refine Ac rfl rfl ?_
    (conv=>whnf);repeat' (first|((first|refine Aa p1 ?_|refine Aa p2 ?_|refine Aa q3 ?_);rintro _ rfl;conv=>whnf)|(refine kA ?_;conv=>whnf)|(refine Br.mk (fun hc=>?_) fun hc=>?_<;>first|exact hc.elim|conv=>whnf)|(refine kB ?_))
    all_goals first|rfl|(exfalso;simp_all;done)
end
end AI
end Go.Proofs.YtegcpbncohoflaaGreatDoor
