/- The stable sort of entries: merging in place, the general case. The stable sort of entries: insertion sort, and the whole. The stable sort of entries: the whole. The steps at a node: the program's. The steps at a node: the reference's. The steps at a node: the reference's. Walks turned round; distances and the number of nodes: plain. A call of an entry that the model answers. Sorting numbers in place: the order. Sorting numbers in place: slices.Sort as an entry of the table. A sorted list without its repeated elements. -/
import Derived.Test.YtjjhejbffgaabaaGreatDoorRMag
import Derived.Test.YtjjhejbffgaabaaGreatDoorRMae
import Derived.Test.YtjjhejbffgaabaaGreatDoorRVa
import Derived.Test.YtjjhejbffgaabaaGreatDoorRSqI
set_option linter.unusedVariables false
set_option maxRecDepth 4000
namespace Go.Proofs.YtjjhejbffgaabaaGreatDoor
namespace AI
theorem AY.mono' {AP:Nat→Option GY} {f:Nat} {args:List AV} {AX:Obj} {g c:Nat} {nn cl:Bool} {l l':List Bq} {K K':AU→Ag→Prop} (h:AY AP f args ⟨[AX,.arr g 3 nn cl (vs Bq.av l)],c⟩ K) (e:l'=l) (hk:∀out s,K out s→K' out s):AY AP f args ⟨[AX,.arr g 3 nn cl (vs Bq.av l')],c⟩ K':=by
 subst e;exact h.mono hk
def Qy (AX:Obj) (g len:Nat) (nn cl:Bool) (A X Y Z:List Bq) (c:Nat) (a m b:Int):Prop:=
 AY (Ac tab) 167 [.own 1 g 0 len,.int .i64 a,.int .i64 m,.int .i64 b,.fn 118 []] ⟨[AX,.arr g 3 nn cl (vs Bq.av (A++(X++(Y++Z))))],c⟩ fun out s'=>∃c' W,out=.ok (.Du [])∧s'=⟨[AX,.arr g 3 nn cl (vs Bq.av (A++(W++Z)))],c'⟩∧W.Perm (X++Y)∧Ez W
def sR:AA→AA
 | .seq _ b=>b
 |c=>c
noncomputable def AeU:AA:=sR (sR (sR (sR (sR (sR (sR (sR c167)))))))
noncomputable def YG:AA:=sR (sR AeU)
noncomputable def tail3:AA:=sR YG
theorem AhL {AX:Obj} {g len N:Nat} {nn cl:Bool} (ih:∀(A X' Y' Z:List Bq) (c:Nat) (a m b:Int),X'.length+Y'.length<N→len=(A++(X'++(Y'++Z))).length→a=A.length→m=A.length+X'.length→b=A.length+X'.length+Y'.length→0<X'.length→0<Y'.length→Ez X'→Ez Y'→Qy AX g len nn cl A X' Y' Z c a m b)
 {A X Y Z L:List Bq} {c:Nat} {mid e b:Int} {K:AU→Ag→Prop} (hN:X.length+Y.length<N) (hL:L=A++(X++(Y++Z))) (hl:len=L.length) (hs:len<2^61) (ha:mid=A.length) (hm:e=A.length+X.length) (hb:b=A.length+X.length+Y.length) (sx:Ez X) (sy:Ez Y)
 (hK:∀c' W,W.Perm (X++Y)→Ez W→K (.ok (.Du [])) ⟨[AX,.arr g 3 nn cl (vs Bq.av (A++(W++Z)))],c'⟩):
 vC (Ac tab) tail3 [(0,.own 1 g 0 len),(3,.int .i64 b),(4,.fn 118 []),(18,.int .i64 mid),(24,.int .i64 e)] ⟨[AX,.arr g 3 nn cl (vs Bq.av L)],c⟩ (PU a167 K):=by
 (conv=>whnf);repeat' (first|(refine kA ?_;conv=>whnf)|(refine Br.mk (fun hc=>?_) fun hc=>?_<;>first|exact hc.elim|conv=>whnf)  |(refine kB ?_))
 ·subst hL
  refine(ih A X Y Z c mid e b hN hl ha hm hb (by omega) (by omega) sx sy).mono ?_
  rintro _ _ ⟨c',W,rfl,rfl,h1,h2⟩
  (conv=>whnf);repeat' (first|(refine kA ?_;conv=>whnf)|(refine Br.mk (fun hc=>?_) fun hc=>?_<;>first|exact hc.elim|conv=>whnf)  |(refine kB ?_))
  exact hK _ _ h1 h2
 ·have h0:Y=[]:=List.length_eq_zero_iff.1 (by omega)
  subst h0 hL
  have:=hK c (X++[]) (List.Perm.refl _) (by simpa using sx)
  rw[List.append_nil]at this
  exact this
 ·have h0:X=[]:=List.length_eq_zero_iff.1 (by omega)
  subst h0 hL
  exact hK c ([]++Y) (List.Perm.refl _) (by simpa using sy)
theorem AhM {AX:Obj} {g len N:Nat} {nn cl:Bool} (ih:∀(A X' Y' Z:List Bq) (c:Nat) (a m b:Int),X'.length+Y'.length<N→len=(A++(X'++(Y'++Z))).length→a=A.length→m=A.length+X'.length→b=A.length+X'.length+Y'.length→0<X'.length→0<Y'.length→Ez X'→Ez Y'→Qy AX g len nn cl A X' Y' Z c a m b)
 {A X1 Y1 X2 Y2 Z L:List Bq} {c:Nat} {a st mid e b:Int} {K:AU→Ag→Prop} (hN1:X1.length+Y1.length<N) (hN2:X2.length+Y2.length<N) (hL:L=A++(X1++(Y1++(X2++(Y2++Z))))) (hl:len=L.length) (hs:len<2^61) (ha:a=A.length) (hst:st=A.length+X1.length) (hmid:mid=A.length+X1.length+Y1.length) (hm:e=A.length+X1.length+Y1.length+X2.length) (hb:b=A.length+X1.length+Y1.length+X2.length+Y2.length)
 (sx1:Ez X1) (sy1:Ez Y1) (sx2:Ez X2) (sy2:Ez Y2)
 (hK:∀c' W1 W2,W1.Perm (X1++Y1)→Ez W1→W2.Perm (X2++Y2)→Ez W2→K (.ok (.Du [])) ⟨[AX,.arr g 3 nn cl (vs Bq.av (A++(W1++(W2++Z))))],c'⟩):
 vC (Ac tab) YG [(0,.own 1 g 0 len),(1,.int .i64 a),(3,.int .i64 b),(4,.fn 118 []),(18,.int .i64 mid),(20,.int .i64 st),(24,.int .i64 e)] ⟨[AX,.arr g 3 nn cl (vs Bq.av L)],c⟩ (PU a167 K):=by
 have go3:∀(c:Nat) (W1 L:List Bq),L=A++(W1++(X2++(Y2++Z)))→W1.Perm (X1++Y1)→Ez W1→
  vC (Ac tab) tail3 [(0,.own 1 g 0 len),(3,.int .i64 b),(4,.fn 118 []),(18,.int .i64 mid),(24,.int .i64 e)] ⟨[AX,.arr g 3 nn cl (vs Bq.av L)],c⟩ (PU a167 K):=by
  intro c W1 L' hL' hp hs1
  have hw:W1.length=X1.length+Y1.length:=by rw[hp.length_eq,List.length_append]
  refine AhL ih (A:=A++W1) (X:=X2) (Y:=Y2) (Z:=Z) hN2 (by rw[hL'];simp only[List.append_assoc]) (by rw[hl,hL,hL'];simp only[List.length_append];omega) hs (by simp only[List.length_append];omega) (by simp only[List.length_append];omega) (by simp only[List.length_append];omega) sx2 sy2 ?_
  intro c' W2 h1 h2
  have:=hK c' W1 W2 hp hs1 h1 h2
  rw[List.append_assoc]
  exact this
 have AjO:X1.length=0∨Y1.length=0→vC (Ac tab) tail3 [(0,.own 1 g 0 len),(3,.int .i64 b),(4,.fn 118 []),(18,.int .i64 mid),(24,.int .i64 e)] ⟨[AX,.arr g 3 nn cl (vs Bq.av L)],c⟩ (PU a167 K):=by
  intro h
  refine go3 c (X1++Y1) L (by rw[hL];simp only[List.append_assoc]) (List.Perm.refl _) ?_
  rcases h with h|h
  ·rw[List.length_eq_zero_iff.1 h];exact sy1
  ·rw[List.length_eq_zero_iff.1 h,List.append_nil];exact sx1
 (conv=>whnf);repeat' (first|exact AjO (by omega)|(refine kA ?_;conv=>whnf)|(refine Br.mk (fun hc=>?_) fun hc=>?_<;>first|exact hc.elim|conv=>whnf)|(refine kB ?_))
 subst hL
 refine(ih A X1 Y1 (X2++(Y2++Z)) c a st mid hN1 hl ha hst hmid (by omega) (by omega) sx1 sy1).mono ?_
 rintro _ _ ⟨c',W,rfl,rfl,h1,h2⟩
 conv=>whnf
 apply Aj rfl
 conv=>whnf
 exact go3 c' W _ rfl h1 h2
theorem AhN {AX:Obj} {g len N:Nat} {nn cl:Bool} (ih:∀(A X' Y' Z:List Bq) (c:Nat) (a m b:Int),X'.length+Y'.length<N→len=(A++(X'++(Y'++Z))).length→a=A.length→m=A.length+X'.length→b=A.length+X'.length+Y'.length→0<X'.length→0<Y'.length→Ez X'→Ez Y'→Qy AX g len nn cl A X' Y' Z c a m b)
 {A X1 Y1 X2 Y2 Z L:List Bq} {c:Nat} {a m b mid n st r pp:Int} {K:AU→Ag→Prop} (hN1:X1.length+Y1.length<N) (hN2:X2.length+Y2.length<N) (hL:L=A++(X1++(X2++(Y1++(Y2++Z))))) (hl:len=L.length) (hs:len<2^61) (ha:a=A.length) (hst:st=A.length+X1.length) (hm:m=A.length+X1.length+X2.length) (hmid:mid=A.length+X1.length+Y1.length) (hn:n=mid+m) (hb:b=A.length+X1.length+X2.length+Y1.length+Y2.length)
 (sx1:Ez X1) (sy1:Ez Y1) (sx2:Ez X2) (sy2:Ez Y2)
 (hK:∀c' W1 W2,W1.Perm (X1++Y1)→Ez W1→W2.Perm (X2++Y2)→Ez W2→K (.ok (.Du [])) ⟨[AX,.arr g 3 nn cl (vs Bq.av (A++(W1++(W2++Z))))],c'⟩):
 vC (Ac tab) AeU [(0,.own 1 g 0 len),(1,.int .i64 a),(2,.int .i64 m),(3,.int .i64 b),(4,.fn 118 []),(18,.int .i64 mid),(19,.int .i64 n),(20,.int .i64 st),(21,.int .i64 r),(22,.int .i64 pp),(151,.bool false)] ⟨[AX,.arr g 3 nn cl (vs Bq.av L)],c⟩ (PU a167 K):=by
 have hl2:len=A.length+(X1.length+(X2.length+(Y1.length+(Y2.length+Z.length)))):=by rw[hl,hL];simp only[List.length_append]
 have go2:∀(c:Nat) (L:List Bq),L=A++(X1++(Y1++(X2++(Y2++Z))))→
  vC (Ac tab) YG [(0,.own 1 g 0 len),(1,.int .i64 a),(3,.int .i64 b),(4,.fn 118 []),(18,.int .i64 mid),(20,.int .i64 st),(24,.int .i64 (n-st))] ⟨[AX,.arr g 3 nn cl (vs Bq.av L)],c⟩ (PU a167 K):=by
  intro c L' hL'
  exact AhM ih hN1 hN2 hL' (by rw[hl2,hL'];simp only[List.length_append];omega) hs ha hst hmid (by omega) (by omega) sx1 sy1 sx2 sy2 hK
 have AjP:X2.length=0∨Y1.length=0→vC (Ac tab) YG [(0,.own 1 g 0 len),(1,.int .i64 a),(3,.int .i64 b),(4,.fn 118 []),(18,.int .i64 mid),(20,.int .i64 st),(24,.int .i64 (n-st))] ⟨[AX,.arr g 3 nn cl (vs Bq.av L)],c⟩ (PU a167 K):=by
  intro h
  refine go2 c L ?_
  rcases h with h|h
  ·rw[hL,List.length_eq_zero_iff.1 h];rfl
  ·rw[hL,List.length_eq_zero_iff.1 h];rfl
 (conv=>whnf);repeat' (first|exact AjP (by omega)|(refine kA ?_;conv=>whnf)|(refine Br.mk (fun hc=>?_) fun hc=>?_<;>first|exact hc.elim|conv=>whnf)|(refine kB ?_))
 refine(AjQ (A:=A++X1) (U:=X2) (V:=Y1) (B:=Y2++Z) (by simp only[List.length_append];omega) (by simp only[List.length_append];omega) (by simp only[List.length_append];omega) (by simp only[List.length_append];omega) (by omega) (by omega) hs).mono' (by rw[hL];simp only[List.append_assoc]) ?_
 rintro _ _ ⟨c',rfl,rfl⟩
 conv=>whnf
 apply Aj rfl
 conv=>whnf
 exact go2 c' _ (by simp only[List.append_assoc])
theorem AjR {AX:Obj} {g len M c:Nat} {nn cl:Bool} {A X Y Z L:List Bq} {a m b mid n st r pp:Int} {Q:Ar→Env→Ag→Prop} (hL:L=A++(X++(Y++Z))) (hLl:L.length=len) (hl:len=A.length+(X.length+(Y.length+Z.length))) (hs:len<2^61) (sx:Ez X) (sy:Ez Y) (hm:m=A.length+X.length)
 (p1:M≤X.length+Y.length) (h1:mid=A.length+M) (h2:n=mid+m) (h3:st=A.length+(M-Y.length:Nat)) (h4:r=A.length+(min M X.length:Nat)) (h5:pp=n-1)
 (hQ:∀(P:Nat) (r:Int),M≤P+Y.length→P≤M→P≤X.length→(M-P=Y.length∨P=0∨le (X.getD (P-1) A0) (Y.getD (M-P) A0))→(P=X.length∨M-P=0∨le (Y.getD (M-P-1) A0) (X.getD P A0))→
   Q (.exit 8) [(0,.own 1 g 0 len),(1,.int .i64 a),(2,.int .i64 m),(3,.int .i64 b),(4,.fn 118 []),(18,.int .i64 mid),(19,.int .i64 n),(20,.int .i64 (A.length+P)),(21,.int .i64 r),(22,.int .i64 pp),(151,.bool false)] ⟨[AX,.arr g 3 nn cl (vs Bq.av L)],c⟩):
 Run (Ac tab) (.loop l167_4_h l167_4_b) [(0,.own 1 g 0 len),(1,.int .i64 a),(2,.int .i64 m),(3,.int .i64 b),(4,.fn 118 []),(18,.int .i64 mid),(19,.int .i64 n),(20,.int .i64 st),(21,.int .i64 r),(22,.int .i64 pp)] ⟨[AX,.arr g 3 nn cl (vs Bq.av L)],c⟩ Q:=by
 refine Ah (fun k env s=>∃(P R:Nat) (st r:Int),k=R-P∧M≤P+Y.length∧P≤R∧R≤M∧R≤X.length∧(M-P=Y.length∨P=0∨le (X.getD (P-1) A0) (Y.getD (M-P) A0))∧(R=X.length∨M-R=0∨le (Y.getD (M-R-1) A0) (X.getD R A0))∧st=A.length+P∧r=A.length+R∧
  env=[(0,.own 1 g 0 len),(1,.int .i64 a),(2,.int .i64 m),(3,.int .i64 b),(4,.fn 118 []),(18,.int .i64 mid),(19,.int .i64 n),(20,.int .i64 st),(21,.int .i64 r),(22,.int .i64 pp)]∧s=⟨[AX,.arr g 3 nn cl (vs Bq.av L)],c⟩) ?_ _ _ _ ⟨M-Y.length,min M X.length,_,_,rfl,by omega,by omega,by omega,by omega,by omega,by omega,by omega,by omega,rfl,rfl⟩
 clear h3 h4
 rintro _ _ _ ⟨P,R,st,r,rfl,p1,p2,p3,p4,i1,i2,q3,q4,rfl,rfl⟩
 refine⟨rfl,?_⟩
 (conv=>whnf);repeat' (first|(refine Vz (2*A.length+P+R) (by omega) (by omega) ?_;conv=>whnf)|(apply Bj;(· exact Abb _);conv=>whnf)|(apply Ak;(· first|exact AfK hL (M-(P+R) / 2-1) (by omega) (by omega)|exact nAt hL ((P+R) / 2) (by omega) (by omega));conv=>whnf)|(refine Aa Un ?_;rintro _ rfl;conv=>whnf)|(refine kA ?_;conv=>whnf)|(refine Br.mk (fun hc=>?_) fun hc=>?_<;>first|exact hc.elim|conv=>whnf)|(refine kB ?_))
 ·exact again.mk ⟨_,by omega,P,(P+R) / 2,_,_,rfl,by omega,by omega,by omega,by omega,i1,Or.inr (Or.inr (Vo (IC.1 hc))),by omega,by omega,rfl,rfl⟩
 ·exact again.mk ⟨_,by omega,(P+R) / 2+1,R,_,_,rfl,by omega,by omega,by omega,by omega,Or.inr (Or.inr (by rw[show M-((P+R) / 2+1)=M-(P+R) / 2-1 by omega];exact fun h=>hc (IC.2 h))),i2,by omega,by omega,rfl,rfl⟩
 ·obtain rfl:P=R:=by omega
  subst q3
  exact hQ P r p1 p3 p4 i1 i2
theorem Tc {X:List Bq} (h:Ez X) (P:Nat):∀u∈X.take P,∀v∈X.drop P,le u v:=by
 have h1:=h
 rw[← List.take_append_drop P X]at h1
 exact(List.pairwise_append.1 h1).2.2
theorem AjS {AX:Obj} {g len:Nat} {nn cl:Bool} (hs:len<2^61) {A X Y Z:List Bq} {c:Nat} {a m b:Int} (hl:len=(A++(X++(Y++Z))).length) (ha:a=A.length) (hm:m=A.length+X.length) (hb:b=A.length+X.length+Y.length) (hx:0<X.length) (hy:0<Y.length) (sx:Ez X) (sy:Ez Y) (h1x:X.length≠1) (h1y:Y.length≠1) {N:Nat} (hN:X.length+Y.length≤N) (ih:∀(A X' Y' Z:List Bq) (c:Nat) (a m b:Int),X'.length+Y'.length<N→len=(A++(X'++(Y'++Z))).length→a=A.length→m=A.length+X'.length→b=A.length+X'.length+Y'.length→0<X'.length→0<Y'.length→Ez X'→Ez Y'→Qy AX g len nn cl A X' Y' Z c a m b):
 Qy AX g len nn cl A X Y Z c a m b:=by
 unfold Qy
 have hl0:=hl
 simp only[List.length_append]at hl
 obtain⟨L,hL⟩:∃L,L=A++(X++(Y++Z)):=⟨_,rfl⟩
 rw[← hL]
 have hLl:L.length=len:=by rw[hL,←hl0]
 obtain⟨M,hM⟩:∃M,M=(X.length+Y.length) / 2:=⟨_,rfl⟩
 refine AL rfl rfl ?_
 (conv=>whnf);repeat' (first|(refine Vz (2*A.length+X.length+Y.length) (by omega) (by omega) ?_;conv=>whnf)|(apply Bj;(· exact Abb _);conv=>whnf)|(refine kA ?_;conv=>whnf)|(refine Br.mk (fun hc=>?_) fun hc=>?_<;>first|exact hc.elim|conv=>whnf)|(refine kB ?_))
 all_goals
  refine AjR (M:=M) hL hLl hl hs sx sy hm (by omega) (by omega) (by omega) (by omega) (by omega) (by omega) ?_
  intro P r p1 p2 p3 i1 i2
  refine AhN ih (A:=A) (X1:=X.take P) (X2:=X.drop P) (Y1:=Y.take (M-P)) (Y2:=Y.drop (M-P)) (Z:=Z) (by simp only[List.length_take];omega) (by simp only[List.length_drop];omega)
   (by rw[hL,←List.append_assoc (X.take P),List.take_append_drop,←List.append_assoc (Y.take (M-P)),List.take_append_drop]) hLl.symm hs ha (by simp only[List.length_take];omega) (by simp only[List.length_take,List.length_drop];omega) (by simp only[List.length_take];omega) (by omega) (by simp only[List.length_take,List.length_drop];omega) (sx.take _) (sy.take _) (sx.drop _) (sy.drop _) ?_
  intro c' W1 W2 w1 s1 w2 s2
  refine⟨c',W1++W2,rfl,by rw[List.append_assoc],?_,Adz s1 s2 fun u hu v hv=>?_⟩
  ·refine(List.Perm.append w1 w2).trans ?_
   have e:X++Y=(X.take P++X.drop P)++(Y.take (M-P)++Y.drop (M-P)):=by rw[List.take_append_drop,List.take_append_drop]
   rw[e]
   simp only[List.append_assoc]
   exact List.Perm.append_left _ (by rw[← List.append_assoc,←List.append_assoc];exact List.Perm.append_right _ List.perm_append_comm)
  ·rcases List.mem_append.1 (w1.mem_iff.1 hu)with hu|hu<;>rcases List.mem_append.1 (w2.mem_iff.1 hv)with hv|hv
   ·exact Tc sx P u hu v hv
   ·exact VA sx sy p3 i1 u hu v hv
   ·exact VA sy sx (by omega) i2 u hu v hv
   ·exact Tc sy (M-P) u hu v hv
theorem AhO {AX:Obj} {g len:Nat} {nn cl:Bool} (hs:len<2^61):∀(N:Nat) (A X Y Z:List Bq) (c:Nat) (a m b:Int),X.length+Y.length<N→len=(A++(X++(Y++Z))).length→a=A.length→m=A.length+X.length→b=A.length+X.length+Y.length→0<X.length→0<Y.length→Ez X→Ez Y→Qy AX g len nn cl A X Y Z c a m b:=by
 intro N
 induction N with
 |zero=>intro A X Y Z c a m b h;omega
 |succ N ih=>
  intro A X Y Z c a m b hN hl ha hm hb hx hy sx sy
  by_cases h1:X.length=1
  ·exact AjT hs hl ha hm hb hx hy sx sy h1
  by_cases h2:Y.length=1
  ·exact AjU hs hl ha hm hb hx hy sx sy h1 h2
  exact AjS hs hl ha hm hb hx hy sx sy h1 h2 (N:=N) (by omega) ih
theorem gAt {A Y Z:List Bq} {h:Nat} (hh:h<Y.length):(A++(Y++Z)).getD (A.length+h) A0=Y.getD h A0:=by
 simp only[List.getD]
 rw[List.getElem?_append_right (by omega),Nat.add_sub_cancel_left,List.getElem?_append_left hh]
theorem gTk {W:List Bq} {t h:Nat} (hh:h<t):(W.take t).getD h A0=W.getD h A0:=by
 simp only[List.getD]
 rw[List.getElem?_take_of_lt hh]
theorem Ade (X:List Bq):Ez (X.take 1):=by
 cases X with
 |nil=>exact List.Pairwise.nil
 |cons a l=>exact List.pairwise_singleton _ _
theorem Ajy {AX:Obj} {g len c:Nat} {nn cl:Bool} {A W Z L:List Bq} {x:Bq} {a b i j:Int} {Q:Ar→Env→Ag→Prop} (hL:L=A++(W++(x::Z))) (hl:len=L.length) (hs:len<2^61) (sw:Ez W) (ha:a=A.length) (hj:j=A.length+W.length)
 (hQ:∀(c t:Nat) (z:Int),t≤W.length→Ez (W.take t++x::W.drop t)→Q (.exit 2) [(0,.own 1 g 0 len),(1,.int .i64 a),(2,.int .i64 b),(3,.fn 118 []),(8,.int .i64 i),(9,.int .i64 z),(34,.bool false)] ⟨[AX,.arr g 3 nn cl (vs Bq.av (A++(W.take t++(x::(W.drop t++Z)))))],c⟩):
 Run (Ac tab) (.loop l166_0_h l166_0_b) [(0,.own 1 g 0 len),(1,.int .i64 a),(2,.int .i64 b),(3,.fn 118 []),(8,.int .i64 i),(9,.int .i64 j)] ⟨[AX,.arr g 3 nn cl (vs Bq.av L)],c⟩ Q:=by
 have hll:len=A.length+(W.length+(Z.length+1)):=by rw[hl,hL];simp only[List.length_append,List.length_cons]
 refine Ah (fun k env s=>∃(t c:Nat) (z:Int) (L':List Bq),k=t+1∧t≤W.length∧z=A.length+t∧L'=A++(W.take t++(x::(W.drop t++Z)))∧(∀ v∈W.drop t,lt x v)∧env=[(0,.own 1 g 0 len),(1,.int .i64 a),(2,.int .i64 b),(3,.fn 118 []),(8,.int .i64 i),(9,.int .i64 z)]∧s=⟨[AX,.arr g 3 nn cl (vs Bq.av L')],c⟩) ?_ _ _ _ ⟨W.length,_,_,_,rfl,Nat.le_refl _,hj,by rw[hL,List.take_length,List.drop_length];rfl,by simp,rfl,rfl⟩
 clear hL
 rintro _ _ _ ⟨t,c,z,L',rfl,k1,k2,hL',k3,rfl,rfl⟩
 refine⟨rfl,?_⟩
 have Al4:L'.length=len:=by rw[hL'];simp only[List.length_append,List.length_cons,List.length_take,List.length_drop];omega
 have e1:0<t→L'.getD (A.length+(t-1)+1) A0=x:=by
  intro h0
  have:=gAt (A:=A++W.take t) (Y:=[x]) (Z:=W.drop t++Z) (h:=0) (by simp)
  rw[hL',show A.length+(t-1)+1=(A++W.take t).length+0 by simp only[List.length_append,List.length_take];omega]
  rw[List.append_assoc]at this
  exact this
 have e2:0<t→L'.getD (A.length+(t-1)) A0=W.getD (t-1) A0:=by
  intro h0
  rw[hL',gAt (by simp only[List.length_take];omega),gTk (by omega)]
 (conv=>whnf);repeat' (first|(apply Ak;(· first|exact nA (A.length+(t-1)+1) (by omega) (by first|omega|(simp;omega)));conv=>whnf)|(apply Ak;(· first|exact nA (A.length+(t-1)) (by omega) (by first|omega|(simp;omega)));conv=>whnf)|(apply Bj;(· exact tA (A.length+(t-1)+1) (by omega));conv=>whnf)|(apply Bj;(· exact tA (A.length+(t-1)) (by omega));conv=>whnf)|(refine Aa Un ?_;rintro _ rfl;conv=>whnf)|(refine kA ?_;conv=>whnf)|(refine Br.mk (fun hc=>?_) fun hc=>?_<;>first|exact hc.elim|conv=>whnf)|(refine kB ?_))
 ·rw[e1 (by omega),e2 (by omega)]at hc
  refine again.mk ⟨_,by omega,t-1,_,_,_,rfl,by omega,by omega,by rw[← O6 (by omega) k1 rfl rfl,←hL'];rfl,fun v hv=>?_,rfl,rfl⟩
  exact O7 (IC.1 hc) (PX sw (by omega) v hv)
 ·rw[e1 (by omega),e2 (by omega)]at hc
  subst hL'
  refine hQ c t z k1 (PY (sw.take _) (sw.drop _) (fun u hu=>?_) (fun v hv=>Vo (k3 v hv)))
  obtain⟨t,rfl⟩:∃t',t=t'+1:=⟨t-1,by omega⟩
  exact le_trans (PZ sw (by omega) u hu) (fun h=>hc (IC.2 h))
 ·obtain rfl:t=0:=by omega
  subst hL'
  exact hQ c 0 z k1 (PY (sw.take _) (sw.drop _) (fun u hu=>by simp at hu) (fun v hv=>Vo (k3 v hv)))
theorem AeO {AX:Obj} {g len c:Nat} {nn cl:Bool} {A X Z L:List Bq} {a b:Int} (hL:L=A++(X++Z)) (hl:len=L.length) (hs:len<2^61) (ha:a=A.length) (hb:b=A.length+X.length):
 AY (Ac tab) 166 [.own 1 g 0 len,.int .i64 a,.int .i64 b,.fn 118 []] ⟨[AX,.arr g 3 nn cl (vs Bq.av L)],c⟩ fun out s'=>∃c' W,out=.ok (.Du [])∧s'=⟨[AX,.arr g 3 nn cl (vs Bq.av (A++(W++Z)))],c'⟩∧W.Perm X∧Ez W:=by
 have hll:len=A.length+(X.length+Z.length):=by rw[hl,hL];simp only[List.length_append]
 refine AL rfl rfl ?_
 (conv=>whnf);repeat' (first|(refine kA ?_;conv=>whnf)|(refine Br.mk (fun hc=>?_) fun hc=>?_<;>first|exact hc.elim|conv=>whnf)  |(refine kB ?_))
 refine Ah (fun m env s=>∃(k c:Nat) (i:Int) (W L:List Bq),m=X.length-k∧1≤k∧(k≤X.length∨k=1)∧i=A.length+k∧W.Perm (X.take k)∧Ez W∧L=A++(W++(X.drop k++Z))∧env=[(0,.own 1 g 0 len),(1,.int .i64 a),(2,.int .i64 b),(3,.fn 118 []),(8,.int .i64 i)]∧s=⟨[AX,.arr g 3 nn cl (vs Bq.av L)],c⟩) ?_ _ _ _ ⟨1,c,_,X.take 1,_,rfl,by omega,by omega,by omega,List.Perm.refl _,Ade X,by rw[hL];conv=>lhs;rw[← List.take_append_drop 1 X,List.append_assoc],rfl,rfl⟩
 clear hL hl
 rintro _ _ _ ⟨k,c,i,W,L,rfl,k1,k2,hi,hp,hw,hL,rfl,rfl⟩
 refine⟨rfl,?_⟩
 (conv=>whnf);repeat' (first|(refine kA ?_;conv=>whnf)|(refine Br.mk (fun hc=>?_) fun hc=>?_<;>first|exact hc.elim|conv=>whnf)  |(refine kB ?_))
 ·have hk:k<X.length:=by omega
  have hwl:W.length=k:=by rw[hp.length_eq,List.length_take];omega
  rw[List.drop_eq_getElem_cons hk]at hL
  refine Ajy (x:=X[k]) (Z:=X.drop (k+1)++Z) hL (by rw[hL];simp only[List.length_append,List.length_cons,List.length_drop];omega) hs hw ha (by omega) ?_
  intro c' t z ht hst
  (conv=>whnf);repeat' (first|(refine kA ?_;conv=>whnf)|(refine Br.mk (fun hc=>?_) fun hc=>?_<;>first|exact hc.elim|conv=>whnf)  |(refine kB ?_))
  refine again.mk ⟨_,by omega,k+1,_,_,W.take t++X[k]::W.drop t,_,rfl,by omega,by omega,by omega,?_,hst,by simp only[List.append_assoc,List.cons_append],rfl,rfl⟩
  refine List.perm_middle.trans ?_
  rw[List.take_append_drop,List.take_succ_eq_append_getElem hk]
  exact(List.Perm.cons _ hp).trans (List.perm_append_comm (l₁:=[X[k]]) (l₂:=X.take k))
 ·rw[List.take_of_length_le (by omega)]at hp
  rw[List.drop_of_length_le (by omega)]at hL
  subst hL
  exact⟨_,W,rfl,rfl,hp,hw⟩
inductive Ch (S:Nat):List Bq→Prop
 |last {l:List Bq} (h:l.length≤S) (s:Ez l):Ch S l
 |cons {b l:List Bq} (h:b.length=S) (s:Ez b) (t:Ch S l):Ch S (b++l)
inductive Full (S:Nat):List Bq→Prop
 |nil:Full S []
 |cons {b l:List Bq} (h:b.length=S) (s:Ez b) (t:Full S l):Full S (b++l)
theorem Full.app {S:Nat} {W R:List Bq} (h:Full S W) (hr:Ch S R):Ch S (W++R):=by
 induction h with
 |nil=>exact hr
 |cons h s t ih=>rw[List.append_assoc];exact .cons h s ih
theorem Full.snoc {S:Nat} {W b:List Bq} (h:Full S W) (hb:b.length=S) (sb:Ez b):Full S (W++b):=by
 induction h with
 |nil=>have:=Full.cons hb sb .nil;rw[List.append_nil]at this;exact this
 |cons h s t ih=>rw[List.append_assoc];exact .cons h s ih
theorem AfY (S:Nat):Ch S []:=.last (Nat.zero_le _) List.Pairwise.nil
theorem NK {S:Nat} {R:List Bq} (h:Ch S R) (hl:R.length≤S):Ez R:=by
 cases h with
 |last h s=>exact s
 |@cons b l h s t=>
  have:l=[]:=List.length_eq_zero_iff.1 (by rw[List.length_append]at hl;omega)
  rw[this,List.append_nil];exact s
theorem XD {S:Nat} {R:List Bq} (h:Ch S R) (hl:S<R.length):∃b R',R=b++R'∧b.length=S∧Ez b∧Ch S R':=by
 cases h with
 |last h s=>omega
 |@cons b l h s t=>exact⟨b,l,rfl,h,s,t⟩
theorem AfZ {S:Nat} {R:List Bq} (h0:0<S) (h:Ch S R) (hl:2*S≤R.length):∃b1 b2 R',R=b1++(b2++R')∧b1.length=S∧b2.length=S∧Ez b1∧Ez b2∧Ch S R':=by
 obtain⟨b1,R1,rfl,h1,s1,t1⟩:=XD h (by omega)
 rw[List.length_append]at hl
 by_cases hs:S<R1.length
 ·obtain⟨b2,R2,rfl,h2,s2,t2⟩:=XD t1 hs
  exact⟨b1,b2,R2,rfl,h1,h2,s1,s2,t2⟩
 ·exact⟨b1,R1,[],by rw[List.append_nil],h1,by omega,s1,NK t1 (by omega),AfY S⟩
theorem Af0 {AX:Obj} {g len c S:Nat} {nn cl:Bool} {L:List Bq} {a b:Int} {Q:Ar→Env→Ag→Prop} (hl:len=L.length) (hs:len<2^60) (h0:0<S) (hS:S<len) (hc:Ch S L) (ha:a=0) (hb:b=2*S)
 (hQ:∀(c:Nat) (a b:Int) (W R:List Bq),Full (2*S) W→Ch S R→R.length<2*S→(W++R).Perm L→a=W.length→Q (.exit 4) [(0,.own 1 g 0 len),(1,.int .i64 len),(2,.fn 118 []),(6,.int .i64 S),(7,.int .i64 a),(8,.int .i64 b),(35,.bool false)] ⟨[AX,.arr g 3 nn cl (vs Bq.av (W++R))],c⟩):
 Run (Ac tab) (.loop l144_1_h l144_1_b) [(0,.own 1 g 0 len),(1,.int .i64 len),(2,.fn 118 []),(6,.int .i64 S),(7,.int .i64 a),(8,.int .i64 b)] ⟨[AX,.arr g 3 nn cl (vs Bq.av L)],c⟩ Q:=by
 refine Ah (fun m env s=>∃(c:Nat) (a b:Int) (W R L':List Bq),m=R.length∧L'=W++R∧Full (2*S) W∧Ch S R∧L'.Perm L∧a=W.length∧b=W.length+2*S∧env=[(0,.own 1 g 0 len),(1,.int .i64 len),(2,.fn 118 []),(6,.int .i64 S),(7,.int .i64 a),(8,.int .i64 b)]∧s=⟨[AX,.arr g 3 nn cl (vs Bq.av L')],c⟩) ?_ _ _ _ ⟨c,_,_,[],L,L,rfl,rfl,.nil,hc,List.Perm.refl _,by rw[ha];rfl,by rw[hb];simp,rfl,rfl⟩
 clear ha hb hc
 rintro _ _ _ ⟨c,a,b,W,R,L',rfl,hL',hW,hR,hp,ha,hb,rfl,rfl⟩
 refine⟨rfl,?_⟩
 have hll:len=W.length+R.length:=by rw[hl,←hp.length_eq,hL',List.length_append]
 (conv=>whnf);repeat' (first|(refine kA ?_;conv=>whnf)|(refine Br.mk (fun hc=>?_) fun hc=>?_<;>first|exact hc.elim|conv=>whnf)  |(refine kB ?_))
 ·obtain⟨b1,b2,R',rfl,e1,e2,s1,s2,hR'⟩:=AfZ h0 hR (by omega)
  simp only[List.length_append]at hll
  subst hL'
  refine(AhO (by omega) (b1.length+b2.length+1) W b1 b2 R' c _ _ _ (by omega) (by simp only[List.length_append];omega) ha (by omega) (by omega) (by omega) (by omega) s1 s2).mono ?_
  rintro _ _ ⟨c',B,rfl,rfl,h1,h2⟩
  conv=>whnf
  apply Aj rfl
  (conv=>whnf);repeat' (first|(refine kA ?_;conv=>whnf)|(refine Br.mk (fun hc=>?_) fun hc=>?_<;>first|exact hc.elim|conv=>whnf)  |(refine kB ?_))
  have hB:B.length=2*S:=by rw[h1.length_eq,List.length_append];omega
  refine again.mk ⟨_,by simp only[List.length_append];omega,c',_,_,W++B,R',_,rfl,by simp only[List.append_assoc],hW.snoc hB h2,hR',?_,by simp only[List.length_append];omega,by simp only[List.length_append];omega,rfl,rfl⟩
  refine List.Perm.trans ?_ hp
  exact List.Perm.append_left _ (by rw[← List.append_assoc b1];exact List.Perm.append_right _ h1)
 ·subst hL'
  exact hQ c a b W R hW hR (by omega) hp ha
theorem Af1 {AX:Obj} {g len c S:Nat} {nn cl:Bool} {L L0:List Bq} {z:Int} {K:AU→Ag→Prop} (hl:len=L.length) (hs:len<2^60) (h0:0<S) (hc:Ch S L) (hz:z=S) (hz2:S<2^62) (hp0:L.Perm L0)
 (hK:∀c' W,W.Perm L0→Ez W→K (.ok (.Du [])) ⟨[AX,.arr g 3 nn cl (vs Bq.av W)],c'⟩):
 Run (Ac tab) (.loop l144_2_h l144_2_b) [(0,.own 1 g 0 len),(1,.int .i64 len),(2,.fn 118 []),(6,.int .i64 z)] ⟨[AX,.arr g 3 nn cl (vs Bq.av L)],c⟩ (Abq 2 (PU a144 K)):=by
 refine Ah (fun m env s=>∃(c S:Nat) (z:Int) (L:List Bq),m=len-S∧z=S∧0<S∧S<2^62∧len=L.length∧Ch S L∧L.Perm L0∧env=[(0,.own 1 g 0 len),(1,.int .i64 len),(2,.fn 118 []),(6,.int .i64 z)]∧s=⟨[AX,.arr g 3 nn cl (vs Bq.av L)],c⟩) ?_ _ _ _ ⟨c,S,_,L,rfl,hz,h0,hz2,hl,hc,hp0,rfl,rfl⟩
 clear hz hz2 hl hc hp0 h0
 rintro _ _ _ ⟨c,S,z,L,rfl,rfl,h0,hz2,hl,hCh,hp0,rfl,rfl⟩
 refine⟨rfl,?_⟩
 (conv=>whnf);repeat' (first|(refine kA ?_;conv=>whnf)|(refine Br.mk (fun hc=>?_) fun hc=>?_<;>first|exact hc.elim|conv=>whnf)  |(refine kB ?_))
 ·refine Af0 hl hs h0 (by omega) hCh rfl rfl ?_
  intro c a b W R hW hR hlt hp ha
  have hll:len=W.length+R.length:=by rw[hl,←hp.length_eq,List.length_append]
  have hwf:∀(B:List Bq),B.Perm R→Ez B→Ch (2*S) (W++B)∧(W++B).Perm L0∧len=(W++B).length:=by
   intro B h1 h2
   have hbl:=h1.length_eq
   exact⟨hW.app (.last (by omega) h2),(List.Perm.append_left _ h1).trans (hp.trans hp0),by rw[List.length_append];omega⟩
  (conv=>whnf);repeat' (first|(refine kA ?_;conv=>whnf)|(refine Br.mk (fun hc=>?_) fun hc=>?_<;>first|exact hc.elim|conv=>whnf)  |(refine kB ?_))
  ·obtain⟨b1,R',rfl,e1,s1,hR'⟩:=XD hR (by omega)
   simp only[List.length_append]at hll hlt
   refine(AhO (by omega) (b1.length+R'.length+1) W b1 R' [] c _ _ _ (by omega) (by simp only[List.length_append,List.length_nil];omega) ha (by omega) (by omega) (by omega) (by omega) s1 (NK hR' (by omega))).mono' (by rw[List.append_nil]) ?_
   rintro _ _ ⟨c',B,rfl,rfl,h1,h2⟩
   conv=>whnf
   apply Aj rfl
   (conv=>whnf);repeat' (first|(refine kA ?_;conv=>whnf)|(refine Br.mk (fun hc=>?_) fun hc=>?_<;>first|exact hc.elim|conv=>whnf)  |(refine kB ?_))
   obtain⟨w1,w2,w3⟩:=hwf B h1 h2
   exact again.mk ⟨_,by omega,_,2*S,_,W++B,rfl,by omega,by omega,by omega,w3,w1,w2,rfl,by rw[List.append_nil];rfl⟩
  ·obtain⟨w1,w2,w3⟩:=hwf R (List.Perm.refl _) (NK hR (by omega))
   exact again.mk ⟨_,by omega,_,2*S,_,W++R,rfl,by omega,by omega,by omega,w3,w1,w2,rfl,rfl⟩
 ·exact hK _ _ hp0 (NK hCh (by omega))
theorem Adk {AX:Obj} {g len c:Nat} {nn cl:Bool} {L:List Bq} (hl:len=L.length) (hs:len<2^60):
 AY (Ac tab) 144 [.own 1 g 0 len,.int .i64 len,.fn 118 []] ⟨[AX,.arr g 3 nn cl (vs Bq.av L)],c⟩ fun out s'=>∃c' W,out=.ok (.Du [])∧s'=⟨[AX,.arr g 3 nn cl (vs Bq.av W)],c'⟩∧W.Perm L∧Ez W:=by
 refine AL rfl rfl ?_
 (conv=>whnf);repeat' (first|(refine kA ?_;conv=>whnf)|(refine Br.mk (fun hc=>?_) fun hc=>?_<;>first|exact hc.elim|conv=>whnf)  |(refine kB ?_))
 refine Ah (fun m env s=>∃(c:Nat) (a b:Int) (W R L':List Bq),m=R.length∧L'=W++R∧Full 20 W∧L'.Perm L∧a=W.length∧b=W.length+20∧env=[(0,.own 1 g 0 len),(1,.int .i64 len),(2,.fn 118 []),(6,.int .i64 20),(7,.int .i64 a),(8,.int .i64 b)]∧s=⟨[AX,.arr g 3 nn cl (vs Bq.av L')],c⟩) ?_ _ _ _ ⟨c,_,_,[],L,L,rfl,rfl,.nil,List.Perm.refl _,by simp,by simp,rfl,rfl⟩
 rintro _ _ _ ⟨c,a,b,W,R,L',rfl,hL',hW,hp,ha,hb,rfl,rfl⟩
 refine⟨rfl,?_⟩
 have hll:len=W.length+R.length:=by rw[hl,←hp.length_eq,hL',List.length_append]
 (conv=>whnf);repeat' (first|(refine kA ?_;conv=>whnf)|(refine Br.mk (fun hc=>?_) fun hc=>?_<;>first|exact hc.elim|conv=>whnf)  |(refine kB ?_))
 ·obtain⟨B,R',rfl,e1⟩:∃B R',R=B++R'∧B.length=20:=⟨R.take 20,R.drop 20,(List.take_append_drop 20 R).symm,by rw[List.length_take];omega⟩
  refine(AeO (A:=W) (X:=B) (Z:=R') hL' (by rw[hl,hp.length_eq]) (by omega) ha (by omega)).mono ?_
  rintro _ _ ⟨c',B',rfl,rfl,h1,h2⟩
  (conv=>whnf);repeat' (first|(refine kA ?_;conv=>whnf)|(refine Br.mk (fun hc=>?_) fun hc=>?_<;>first|exact hc.elim|conv=>whnf)  |(refine kB ?_))
  have hb':=h1.length_eq
  refine again.mk ⟨_,by simp only[List.length_append];omega,c',_,_,W++B',R',_,rfl,by simp only[List.append_assoc],hW.snoc (by omega) h2,?_,by simp only[List.length_append];omega,by simp only[List.length_append];omega,rfl,rfl⟩
  refine List.Perm.trans ?_ hp
  rw[hL']
  exact List.Perm.append_left _ (List.Perm.append_right _ h1)
 ·refine(AeO (A:=W) (X:=R) (Z:=[]) (by rw[hL',List.append_nil]) (by rw[hl,hp.length_eq]) (by omega) ha (by omega)).mono ?_
  rintro _ _ ⟨c',B',rfl,rfl,h1,h2⟩
  (conv=>whnf);repeat' (first|(refine kA ?_;conv=>whnf)|(refine Br.mk (fun hc=>?_) fun hc=>?_<;>first|exact hc.elim|conv=>whnf)  |(refine kB ?_))
  have hb':=h1.length_eq
  refine Af1 (S:=20) (L:=W++(B'++[])) (L0:=L) (by simp only[List.length_append,List.length_nil];omega) hs (by omega) (hW.app (.last (by simp only[List.length_append,List.length_nil];omega) (by rw[List.append_nil];exact h2))) rfl (by omega) ?_ ?_
  ·refine List.Perm.trans ?_ hp
   rw[hL',List.append_nil]
   exact List.Perm.append_left _ h1
  ·intro c' W' h3 h4
   exact⟨c',W',rfl,rfl,h3,h4⟩
theorem sortQ {AX:Obj} {g len c:Nat} {nn cl:Bool} {L:List Bq} (hl:len=L.length) (hs:len<2^60):
 AY (Ac tab) 117 [.own 1 g 0 len,.fn 118 []] ⟨[AX,.arr g 3 nn cl (vs Bq.av L)],c⟩ fun out s'=>∃c' W,out=.ok (.Du [])∧s'=⟨[AX,.arr g 3 nn cl (vs Bq.av W)],c'⟩∧W.Perm L∧Ez W:=by
 refine AL rfl rfl ?_
 (conv=>whnf);repeat' (first|(refine kA ?_;conv=>whnf)|(refine Br.mk (fun hc=>?_) fun hc=>?_<;>first|exact hc.elim|conv=>whnf)  |(refine kB ?_))
 refine(Adk hl hs).mono ?_
 rintro _ _ ⟨c',W,rfl,rfl,h1,h2⟩
 (conv=>whnf);repeat' (first|(refine kA ?_;conv=>whnf)|(refine Br.mk (fun hc=>?_) fun hc=>?_<;>first|exact hc.elim|conv=>whnf)  |(refine kB ?_))
 exact⟨_,W,rfl,rfl,h1,h2⟩
def outOf (types:List (List UInt8)) (id dir:Int) (e:GE):Option Bq:=if HT types e then stepOf e id dir else none
def outs (types:List (List UInt8)) (id dir:Int) (E:List GE):List Bq:=E.filterMap (outOf types id dir)
theorem ZF {types:List (List UInt8)} {id dir:Int} {E:List GE} {i:Nat} (h:i<E.length):outs types id dir (E.take (i+1))=outs types id dir (E.take i)++(outOf types id dir E[i]).toList:=by
 unfold outs
 rw[List.take_succ_eq_append_getElem h,List.filterMap_append]
 cases h:outOf types id dir E[i]<;>simp[h]
theorem Vr {types:List (List UInt8)} {id dir:Int} {E:List GE}:(outs types id dir E).length≤E.length:=List.length_filterMap_le _ _
theorem apA {g len:Nat} {nn cl:Bool} {l:List Bq} {x:Bq} {bytes:Nat} {K:Nat→Bool→Bool→List AV→Prop} (hl:len=l.length) (hr:(l.length+1)*bytes≤2 ^ 46) (h:K (l.length+1) true cl (vs Bq.av (l++[x]))):
 JG g g 3 3 len nn cl true (vs Bq.av l) [x.av] bytes K:=by
 subst hl
 refine⟨⟨rfl,rfl,by simp,by intro y hy;simp at hy;subst hy;rfl,Jh hr⟩,?_⟩
 have e1:(nn||!([x.av]:List AV).isEmpty)=true:=by simp
 have e2:(cl&&true)=cl:=by simp
 rw[e1,e2,Ur]
 exact h
theorem Afy {g:GG} (hg:g.ok) (hE:g.edges.length≤100) {types:List (List UInt8)} {tn:Bool} (ht:types.length<2^63) {id dir:Int} {i c go:Nat} {nn:Bool} {O:List Bq} (hi:i<g.edges.length) (hO:O.length≤i) {Q:Ar→Env→Ag→Prop}
 (hQ:∀c' c'' nn' n' O',n'=List.length O'→O'=O++(outOf types id dir g.edges[i]).toList→Q .normal [(1,.int .i64 id),(2,.sl tn (vs .str types)),(3,.int .i64 dir),(9,.own 1 c' 0 n'),(13,.sl g.en (vs GE.av g.edges)),(14,.int .i64 g.edges.length),(15,.int .i64 (i+1))] ⟨[.arr 0 4 true true [g.av],.arr c' 3 nn' true (vs Bq.av O')],c''⟩):
 vC (Ac tab) l95_0_b [(1,.int .i64 id),(2,.sl tn (vs .str types)),(3,.int .i64 dir),(9,.own 1 go 0 O.length),(13,.sl g.en (vs GE.av g.edges)),(14,.int .i64 g.edges.length),(15,.int .i64 i)] ⟨[.arr 0 4 true true [g.av],.arr go 3 nn true (vs Bq.av O)],c⟩ Q:=by
 obtain⟨n,hn⟩:∃n,n=O.length:=⟨_,rfl⟩
 rw[← hn]
 have k0:outOf types id dir g.edges[i]=none→O=O++(outOf types id dir g.edges[i]).toList:=by
  intro h;rw[h];exact(List.append_nil _).symm
 have k1:∀x,outOf types id dir g.edges[i]=some x→O++[x]=O++(outOf types id dir g.edges[i]).toList:=by
  intro x h;rw[h];rfl
 (conv=>whnf);repeat' (first|(refine Gu (Vq (e:=g.edges[i]) ht) (fun hc=>?_) (fun hc=>?_)<;>conv=>whnf)|(refine apA (x:=⟨id,g.edges[i].to,g.edges[i].id⟩) hn (by omega) ?_;conv=>whnf)|(refine apA (x:=⟨id,g.edges[i].fr,g.edges[i].id⟩) hn (by omega) ?_;conv=>whnf)|(refine kA ?_;conv=>whnf)|(refine Br.mk (fun hc=>?_) fun hc=>?_<;>first|exact hc.elim|conv=>whnf)|(refine kB ?_))
 all_goals first
  |exact hQ _ _ _ _ O hn (k0 (by unfold outOf stepOf;first|rw[if_neg (by assumption)]|rw[if_pos (by assumption),if_neg (by omega),if_neg (by omega)]))
  |exact hQ _ _ _ _ _ (by simp) (k1 ⟨id,g.edges[i].to,g.edges[i].id⟩ (by unfold outOf stepOf;rw[if_pos (by assumption),if_pos (by omega)]))
  |exact hQ _ _ _ _ _ (by simp) (k1 ⟨id,g.edges[i].fr,g.edges[i].id⟩ (by unfold outOf stepOf;rw[if_pos (by assumption),if_neg (by omega),if_pos (by omega)]))
theorem Afz {g:GG} (hg:g.ok) (hE:g.edges.length≤100) {types:List (List UInt8)} {tn:Bool} (ht:types.length<2^63) {id dir:Int}:
 AQ (Ac tab) 95 [g.av,.int .i64 id,.sl tn (vs .str types),.int .i64 dir] (fun v=>∃nn W,v=.sl nn (vs Bq.av W)∧W.Perm (outs types id dir g.edges)∧Ez W):=by
 refine Ai rfl rfl ?_
 (conv=>whnf);repeat' (first|(refine kA ?_;conv=>whnf)|(refine Br.mk (fun hc=>?_) fun hc=>?_<;>first|exact hc.elim|conv=>whnf)  |(refine kB ?_))
 refine Ah (fun m env s=>∃(i c go n:Nat) (nn:Bool) (O:List Bq),m=g.edges.length-i∧i≤g.edges.length∧n=O.length∧O=outs types id dir (g.edges.take i)∧env=[(1,.int .i64 id),(2,.sl tn (vs .str types)),(3,.int .i64 dir),(9,.own 1 go 0 n),(13,.sl g.en (vs GE.av g.edges)),(14,.int .i64 g.edges.length),(15,.int .i64 i)]∧s=⟨[.arr 0 4 true true [g.av],.arr go 3 nn true (vs Bq.av O)],c⟩) ?_ _ _ _ ⟨0,_,_,_,_,[],rfl,by omega,rfl,by simp[outs],rfl,rfl⟩
 rintro _ _ _ ⟨i,c,go,n,nn,O,rfl,hi,hn,hO,rfl,rfl⟩
 refine⟨rfl,?_⟩
 have hOl:O.length≤i:=by
  have:=@Vr types id dir (g.edges.take i)
  rw[← hO]at this
  rw[List.length_take]at this;omega
 by_cases hlt:i<g.edges.length
 ·subst hn
  refine Afy hg hE ht hlt hOl ?_
  intro c' c'' nn' n' O' h1 h2
  exact again.mk ⟨_,by omega,i+1,_,_,_,_,O',rfl,by omega,h1,by rw[h2,hO,←ZF hlt],rfl,rfl⟩
 ·rw[List.take_of_length_le (by omega)]at hO
  (conv=>whnf);repeat' (first|(refine kA ?_;conv=>whnf)|(refine Br.mk (fun hc=>?_) fun hc=>?_<;>first|exact hc.elim|conv=>whnf)  |(refine kB ?_))
  refine(sortQ hn (by omega)).mono ?_
  rintro _ _ ⟨c',W,rfl,rfl,h1,h2⟩
  (conv=>whnf);repeat' (first|(refine kA ?_;conv=>whnf)|(refine Br.mk (fun hc=>?_) fun hc=>?_<;>first|exact hc.elim|conv=>whnf)  |(refine kB ?_))
  have hw:n=W.length:=by rw[hn,h1.length_eq]
  subst hw
  refine need.mk ⟨rfl,by rw[lV];omega⟩ (Bj uV ⟨nn,W,rfl,?_,h2⟩)
  rw[← hO];exact h1
theorem IsD.back {nb:Int→List Int} {a:Int}:∀{k:Nat} {x:Int},IsD nb a x k→∀j,j≤k→∃y,IsD nb a y j:=by
 intro k
 induction k with
 |zero=>intro x h j hj;obtain rfl:j=0:=by omega
        exact⟨x,h⟩
 |succ k ih=>
  intro x h j hj
  rcases Nat.lt_or_ge j (k+1)with hlt|hge
  ·obtain⟨y,h1,h2⟩:=(Ip nb).1 h.1
   have hy:IsD nb a y k:=⟨h1,fun i hi hw=>h.2 (i+1) (by omega) ((Ip nb).2 ⟨y,hw,h2⟩)⟩
   exact ih hy j (by omega)
  ·obtain rfl:j=k+1:=by omega
   exact⟨x,h⟩
def N9 (types:List (List UInt8)) (dir:Int) (E:List GE) (a:Int):List Int:=(outs types a dir E).map (·.to)
theorem YS {types:List (List UInt8)} {dir:Int} {E:List GE} {a x:Int}:x∈N9 types dir E a↔∃e∈E,HT types e∧(((dir=1∨dir=3)∧e.fr=a∧e.to=x)∨((dir=2∨dir=3)∧e.to=a∧e.fr=x)):=by
 unfold N9 outs
 rw[List.mem_map]
 constructor
 ·rintro⟨y,hy,rfl⟩
  obtain⟨e,he,ho⟩:=List.mem_filterMap.1 hy
  refine⟨e,he,?_⟩
  unfold outOf at ho
  split at ho
  ·rename_i ht
   refine⟨ht,?_⟩
   unfold stepOf at ho
   split at ho
   ·rename_i hc;cases ho;exact .inl ⟨hc.1,hc.2,rfl⟩
   ·split at ho
    ·rename_i hc;cases ho;exact .inr ⟨hc.1,hc.2,rfl⟩
    ·cases ho
  ·cases ho
 ·rintro⟨e,he,ht,h⟩
  by_cases h1:(dir=1∨dir=3)∧e.fr=a
  ·refine⟨⟨a,e.to,e.id⟩,List.mem_filterMap.2 ⟨e,he,?_⟩,?_⟩
   ·unfold outOf stepOf
    rw[if_pos ht,if_pos h1]
   ·rcases h with h|h
    ·exact h.2.2
    ·show e.to=x;rw[h.2.1,←h.2.2,h1.2]
  ·have h2:(dir=2∨dir=3)∧e.to=a∧e.fr=x:=by
        rcases h with h|h
        ·exact absurd ⟨h.1,h.2.1⟩ h1
        ·exact h
   refine⟨⟨a,e.fr,e.id⟩,List.mem_filterMap.2 ⟨e,he,?_⟩,h2.2.2⟩
   unfold outOf stepOf
   rw[if_pos ht,if_neg h1,if_pos ⟨h2.1,h2.2.1⟩]
theorem ZE {AP:Nat→Option GY} {f:Nat} {sp:List AV→Ag→Option (AU×Ag)} {args:List AV} {s s':Ag} {out:AU} {K:AU→Ag→Prop} (hf:AP f=some (.ext sp)) (h:sp args s=some (out,s')) (hK:K out s'):AY AP f args s K:=
 ⟨1,out,s',by simp only[run,hf];exact h,hK⟩
section
open Go.Sort
def ltJ (x y:Int):Bool:=decide (x<y)
theorem NJ {x y:Int}:ltJ x y=true↔x<y:=by unfold ltJ;rw[decide_eq_true_eq]
theorem MK {x y:Int}:ltJ x y=false↔¬x<y:=by rw[← NJ];simp
theorem AdM:SWO ltJ where
 irrefl x:=MK.2 (by omega)
 trans x y z h1 h2:=NJ.2 (by have:=NJ.1 h1;have:=NJ.1 h2;omega)
 ntrans x y z h1 h2:=MK.2 (by have:=MK.1 h1;have:=MK.1 h2;omega)
theorem XC (x:Int):(AV.int .i64 x).cells.length=1:=rfl
attribute [irreducible] ltJ
end
section
open Go.Sort
theorem AdQ (L:List Int):(Gv L).Pairwise fun x y=>ltJ y x=false:=(Ny L).imp fun h=>MK.2 (by omega)
theorem AdR (L:List Int):VO (vs (.int .i64) L)=some L:=VP L
theorem Af4 {AX:Obj} {g len c:Nat} {nn cl:Bool} {L:List Int} (hl:L.length=len) (hs:len≤1099511627776):
 AY (Ac tab) 69 [.own 1 g 0 len] ⟨[AX,.arr g 1 nn cl (vs (.int .i64) L)],c⟩ fun out s'=>∃c' W,out=.ok (.Du [])∧s'=⟨[AX,.arr g 1 nn cl (vs (.int .i64) W)],c'⟩∧W.Perm L∧W.Pairwise (fun x y=>ltJ y x=false):=by
 have hsp:Jj [.own 1 g 0 len] ⟨[AX,.arr g 1 nn cl (vs (.int .i64) L)],c⟩=some (.ok (.Du []),⟨[AX,.arr g 1 nn cl (vs (.int .i64) (Gv L))],c⟩):=by
  show(if g=g∧1=1∧len=(vs (AV.int .i64) L).length∧len≤1099511627776 then _ else none)=_
  rw[if_pos ⟨rfl,rfl,by rw[lV,hl],hs⟩,AdR]
  rfl
 exact ZE rfl hsp ⟨c,Gv L,rfl,rfl,Hy L,AdQ L⟩
end
section
open Go.Sort
theorem clr {C:Au} {es o g off n:Nat} {nn cl:Bool} {x:AO} {env:Env} {σ:List Obj} {c:Nat} {elems:List AV} (hx:x.val env=.own o g off n) (ho:nth σ o=some (.arr g es nn cl elems)) (h:off+n≤elems.length) (hn:n≠0):
 Af C (.clear es x) env ⟨σ,c⟩=some (.ok .undef,⟨σ.set o (.arr g es nn cl (elems.take off)),c⟩):=by
 simp[Af,hx,ho,h,hn]
section
variable {α:Type} [Inhabited α]
theorem nPn {f:α→AV} {d:Array α} {m:Nat} (i:Nat) (hm:m=i) (h:i<d.size):nth (vs f d.toList) m=some (f d[i]!):=by
 subst hm
 have:=nP (f:=f) (d:=d) (z:=(m:Int)) m rfl h
 exact this
open Classical in
noncomputable def O8 (d:Array α):Nat→List α
 |0=>[]
 |n+1=>if 0<n∧d[n]! =d[n-1]! then O8 d n else O8 d n++[d[n]!]
theorem KC {d:Array α} {n:Nat} (h0:0<n) (h:d[n]! =d[n-1]!):O8 d (n+1)=O8 d n:=if_pos ⟨h0,h⟩
theorem Nw {d:Array α} {n:Nat} (h:0<n→¬d[n]! =d[n-1]!):O8 d (n+1)=O8 d n++[d[n]!]:=if_neg fun h1=>h h1.1 h1.2
theorem Ut {d:Array α}:∀n,n≤d.size→(∀ j,0<j→j<n→¬d[j]! =d[j-1]!)→O8 d n=d.toList.take n
 |0,_,_=>by simp[O8]
 |n+1,hn,h=>by
  rw[Nw (fun h0=>h n h0 (by omega)),Ut n (by omega) fun j h0 hj=>h j h0 (by omega),List.take_succ_eq_append_getElem (by simp;omega)]
  congr 2
  rw[getElem!_pos d n (by omega)]
  simp
theorem P5 {d:Array α} {x:α}:∀n,n≤d.size→(x∈O8 d n↔x∈d.toList.take n)
 |0,_=>by simp[O8]
 |n+1,hn=>by
  have e:d[n]! =d.toList[n]'(by simp;omega):=by rw[getElem!_pos d n (by omega)];simp
  rw[List.take_succ_eq_append_getElem (by simp;omega),List.mem_append,List.mem_singleton,←e]
  by_cases h:0<n∧d[n]! =d[n-1]!
  ·rw[KC h.1 h.2,P5 n (by omega)]
   refine⟨Or.inl,fun h1=>h1.elim id ?_⟩
   rintro rfl
   rw[h.2,getElem!_pos d (n-1) (by omega)]
   rw[List.mem_take_iff_getElem]
   exact⟨n-1,by simp;omega,by simp⟩
  ·rw[Nw (fun h0 h1=>h ⟨h0,h1⟩),List.mem_append,List.mem_singleton,P5 n (by omega)]
theorem AaT {lt:α→α→Bool} (hS:SWO lt) (htot:∀x y,lt x y=false→lt y x=false→x=y) {d:Array α} (hs:SortedIn lt 0 d.size d):∀n,n≤d.size→(O8 d n).Pairwise (fun x y=>lt x y=true)
 |0,_=>by simp[O8]
 |n+1,hn=>by
  have ih:=AaT hS htot hs n (by omega)
  by_cases h:0<n∧d[n]! =d[n-1]!
  ·rw[KC h.1 h.2];exact ih
  ·rw[Nw (fun h0 h1=>h ⟨h0,h1⟩)]
   refine List.pairwise_append.2 ⟨ih,List.pairwise_singleton ..,fun x hx y hy=>?_⟩
   obtain rfl:=List.mem_singleton.1 hy
   rw[P5 n (by omega),List.mem_take_iff_getElem]at hx
   obtain⟨j,hj,rfl⟩:=hx
   simp only[Array.length_toList]at hj
   have ej:d.toList[j]'(by simp;omega)=d[j]!:=by rw[getElem!_pos d j (by omega)];simp
   rw[ej]
   cases hc:lt d[j]! d[n]! with
   |true=>rfl
   |false=>
    exfalso
    have h1:=hs j n (by omega) (by omega) (by omega)
    have e1:=htot _ _ hc h1
    refine h ⟨by omega,?_⟩
    rcases Nat.lt_or_ge j (n-1)with h2|h2
    ·have h3:=hs j (n-1) (by omega) h2 (by omega)
     have h4:=hs (n-1) n (by omega) (by omega) (by omega)
     rw[e1]at h3
     exact htot _ _ h4 h3
    ·obtain rfl:j=n-1:=by omega
     exact e1.symm
end
end
end AI
end Go.Proofs.YtjjhejbffgaabaaGreatDoor
