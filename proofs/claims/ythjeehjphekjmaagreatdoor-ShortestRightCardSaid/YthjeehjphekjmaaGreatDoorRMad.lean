/- The stable sort of entries: merging in place, the general case. The stable sort of entries: insertion sort, and the whole. The stable sort of entries: the whole. The steps at a node: the program's. The steps at a node: the reference's. The steps at a node: the reference's. -/
import Derived.Test.YthjeehjphekjmaaGreatDoorRMac
set_option linter.unusedVariables false
set_option maxRecDepth 4000
namespace Go.Proofs.YthjeehjphekjmaaGreatDoor
namespace AI
theorem AQ.mono' {AP:Nat→Option Gv} {f:Nat} {args:List AV} {Ap:Obj} {g c:Nat} {nn cl:Bool} {l l':List Bc} {K K':AX→Ag→Prop} (h:AQ AP f args ⟨[Ap,.arr g 3 nn cl (vs Bc.av l)],c⟩ K) (e:l'=l) (hk:∀out s,K out s→K' out s):AQ AP f args ⟨[Ap,.arr g 3 nn cl (vs Bc.av l')],c⟩ K':=by
 subst e;exact h.mono hk
def PV (Ap:Obj) (g len:Nat) (nn cl:Bool) (A X Y Z:List Bc) (c:Nat) (a m b:Int):Prop:=
 AQ (Ac tab) 171 [.own 1 g 0 len,.int .i64 a,.int .i64 m,.int .i64 b,.fn 99 []] ⟨[Ap,.arr g 3 nn cl (vs Bc.av (A++(X++(Y++Z))))],c⟩ fun out s'=>∃c' W,out=.ok (.CO [])∧s'=⟨[Ap,.arr g 3 nn cl (vs Bc.av (A++(W++Z)))],c'⟩∧W.Perm (X++Y)∧DC W
def sR:Am→Am
 | .seq _ b=>b
 |c=>c
noncomputable def AbO:Am:=sR (sR (sR (sR (sR (sR (sR (sR c171)))))))
noncomputable def Xc:Am:=sR (sR AbO)
noncomputable def tail3:Am:=sR Xc
theorem AeV {Ap:Obj} {g len N:Nat} {nn cl:Bool} (ih:∀(A X' Y' Z:List Bc) (c:Nat) (a m b:Int),X'.length+Y'.length<N→len=(A++(X'++(Y'++Z))).length→a=A.length→m=A.length+X'.length→b=A.length+X'.length+Y'.length→0<X'.length→0<Y'.length→DC X'→DC Y'→PV Ap g len nn cl A X' Y' Z c a m b)
 {A X Y Z L:List Bc} {c:Nat} {mid e b:Int} {K:AX→Ag→Prop} (hN:X.length+Y.length<N) (hL:L=A++(X++(Y++Z))) (hl:len=L.length) (hs:len<2^61) (ha:mid=A.length) (hm:e=A.length+X.length) (hb:b=A.length+X.length+Y.length) (sx:DC X) (sy:DC Y)
 (hK:∀c' W,W.Perm (X++Y)→DC W→K (.ok (.CO [])) ⟨[Ap,.arr g 3 nn cl (vs Bc.av (A++(W++Z)))],c'⟩):
 vC (Ac tab) tail3 [(0,.own 1 g 0 len),(3,.int .i64 b),(4,.fn 99 []),(18,.int .i64 mid),(24,.int .i64 e)] ⟨[Ap,.arr g 3 nn cl (vs Bc.av L)],c⟩ (Nq a171 K):=by
 (conv=>whnf);repeat' (first|(refine kA ?_;conv=>whnf)|(refine Br.mk (fun hc=>?_) fun hc=>?_<;>first|exact hc.elim|conv=>whnf)  |(refine kB ?_))
 ·subst hL
  refine(ih A X Y Z c mid e b hN hl ha hm hb (by omega) (by omega) sx sy).mono ?_
  rintro _ _ ⟨c',W,rfl,rfl,h1,h2⟩
  (conv=>whnf);repeat' (first|(refine kA ?_;conv=>whnf)|(refine Br.mk (fun hc=>?_) fun hc=>?_<;>first|exact hc.elim|conv=>whnf)  |(refine kB ?_))
  exact hK _ _ h1 h2
 ·have h0:Y=[]:=List.length_eq_zero_iff.1 (by omega)
  subst h0 hL
  have:=hK c (X++[]) (List.Perm.refl _) (by simpa using sx)
  rw[List.append_nil]at this
  exact this
 ·have h0:X=[]:=List.length_eq_zero_iff.1 (by omega)
  subst h0 hL
  exact hK c ([]++Y) (List.Perm.refl _) (by simpa using sy)
theorem AeW {Ap:Obj} {g len N:Nat} {nn cl:Bool} (ih:∀(A X' Y' Z:List Bc) (c:Nat) (a m b:Int),X'.length+Y'.length<N→len=(A++(X'++(Y'++Z))).length→a=A.length→m=A.length+X'.length→b=A.length+X'.length+Y'.length→0<X'.length→0<Y'.length→DC X'→DC Y'→PV Ap g len nn cl A X' Y' Z c a m b)
 {A X1 Y1 X2 Y2 Z L:List Bc} {c:Nat} {a st mid e b:Int} {K:AX→Ag→Prop} (hN1:X1.length+Y1.length<N) (hN2:X2.length+Y2.length<N) (hL:L=A++(X1++(Y1++(X2++(Y2++Z))))) (hl:len=L.length) (hs:len<2^61) (ha:a=A.length) (hst:st=A.length+X1.length) (hmid:mid=A.length+X1.length+Y1.length) (hm:e=A.length+X1.length+Y1.length+X2.length) (hb:b=A.length+X1.length+Y1.length+X2.length+Y2.length)
 (sx1:DC X1) (sy1:DC Y1) (sx2:DC X2) (sy2:DC Y2)
 (hK:∀c' W1 W2,W1.Perm (X1++Y1)→DC W1→W2.Perm (X2++Y2)→DC W2→K (.ok (.CO [])) ⟨[Ap,.arr g 3 nn cl (vs Bc.av (A++(W1++(W2++Z))))],c'⟩):
 vC (Ac tab) Xc [(0,.own 1 g 0 len),(1,.int .i64 a),(3,.int .i64 b),(4,.fn 99 []),(18,.int .i64 mid),(20,.int .i64 st),(24,.int .i64 e)] ⟨[Ap,.arr g 3 nn cl (vs Bc.av L)],c⟩ (Nq a171 K):=by
 have go3:∀(c:Nat) (W1 L:List Bc),L=A++(W1++(X2++(Y2++Z)))→W1.Perm (X1++Y1)→DC W1→
  vC (Ac tab) tail3 [(0,.own 1 g 0 len),(3,.int .i64 b),(4,.fn 99 []),(18,.int .i64 mid),(24,.int .i64 e)] ⟨[Ap,.arr g 3 nn cl (vs Bc.av L)],c⟩ (Nq a171 K):=by
  intro c W1 L' hL' hp hs1
  have hw:W1.length=X1.length+Y1.length:=by rw[hp.length_eq,List.length_append]
  refine AeV ih (A:=A++W1) (X:=X2) (Y:=Y2) (Z:=Z) hN2 (by rw[hL'];simp only[List.append_assoc]) (by rw[hl,hL,hL'];simp only[List.length_append];omega) hs (by simp only[List.length_append];omega) (by simp only[List.length_append];omega) (by simp only[List.length_append];omega) sx2 sy2 ?_
  intro c' W2 h1 h2
  have:=hK c' W1 W2 hp hs1 h1 h2
  rw[List.append_assoc]
  exact this
 have Ags:X1.length=0∨Y1.length=0→vC (Ac tab) tail3 [(0,.own 1 g 0 len),(3,.int .i64 b),(4,.fn 99 []),(18,.int .i64 mid),(24,.int .i64 e)] ⟨[Ap,.arr g 3 nn cl (vs Bc.av L)],c⟩ (Nq a171 K):=by
  intro h
  refine go3 c (X1++Y1) L (by rw[hL];simp only[List.append_assoc]) (List.Perm.refl _) ?_
  rcases h with h|h
  ·rw[List.length_eq_zero_iff.1 h];exact sy1
  ·rw[List.length_eq_zero_iff.1 h,List.append_nil];exact sx1
 (conv=>whnf);repeat' (first|exact Ags (by omega)|(refine kA ?_;conv=>whnf)|(refine Br.mk (fun hc=>?_) fun hc=>?_<;>first|exact hc.elim|conv=>whnf)|(refine kB ?_))
 subst hL
 refine(ih A X1 Y1 (X2++(Y2++Z)) c a st mid hN1 hl ha hst hmid (by omega) (by omega) sx1 sy1).mono ?_
 rintro _ _ ⟨c',W,rfl,rfl,h1,h2⟩
 conv=>whnf
 apply Ai rfl
 conv=>whnf
 exact go3 c' W _ rfl h1 h2
theorem AeX {Ap:Obj} {g len N:Nat} {nn cl:Bool} (ih:∀(A X' Y' Z:List Bc) (c:Nat) (a m b:Int),X'.length+Y'.length<N→len=(A++(X'++(Y'++Z))).length→a=A.length→m=A.length+X'.length→b=A.length+X'.length+Y'.length→0<X'.length→0<Y'.length→DC X'→DC Y'→PV Ap g len nn cl A X' Y' Z c a m b)
 {A X1 Y1 X2 Y2 Z L:List Bc} {c:Nat} {a m b mid n st r pp:Int} {K:AX→Ag→Prop} (hN1:X1.length+Y1.length<N) (hN2:X2.length+Y2.length<N) (hL:L=A++(X1++(X2++(Y1++(Y2++Z))))) (hl:len=L.length) (hs:len<2^61) (ha:a=A.length) (hst:st=A.length+X1.length) (hm:m=A.length+X1.length+X2.length) (hmid:mid=A.length+X1.length+Y1.length) (hn:n=mid+m) (hb:b=A.length+X1.length+X2.length+Y1.length+Y2.length)
 (sx1:DC X1) (sy1:DC Y1) (sx2:DC X2) (sy2:DC Y2)
 (hK:∀c' W1 W2,W1.Perm (X1++Y1)→DC W1→W2.Perm (X2++Y2)→DC W2→K (.ok (.CO [])) ⟨[Ap,.arr g 3 nn cl (vs Bc.av (A++(W1++(W2++Z))))],c'⟩):
 vC (Ac tab) AbO [(0,.own 1 g 0 len),(1,.int .i64 a),(2,.int .i64 m),(3,.int .i64 b),(4,.fn 99 []),(18,.int .i64 mid),(19,.int .i64 n),(20,.int .i64 st),(21,.int .i64 r),(22,.int .i64 pp),(151,.bool false)] ⟨[Ap,.arr g 3 nn cl (vs Bc.av L)],c⟩ (Nq a171 K):=by
 have hl2:len=A.length+(X1.length+(X2.length+(Y1.length+(Y2.length+Z.length)))):=by rw[hl,hL];simp only[List.length_append]
 have go2:∀(c:Nat) (L:List Bc),L=A++(X1++(Y1++(X2++(Y2++Z))))→
  vC (Ac tab) Xc [(0,.own 1 g 0 len),(1,.int .i64 a),(3,.int .i64 b),(4,.fn 99 []),(18,.int .i64 mid),(20,.int .i64 st),(24,.int .i64 (n-st))] ⟨[Ap,.arr g 3 nn cl (vs Bc.av L)],c⟩ (Nq a171 K):=by
  intro c L' hL'
  exact AeW ih hN1 hN2 hL' (by rw[hl2,hL'];simp only[List.length_append];omega) hs ha hst hmid (by omega) (by omega) sx1 sy1 sx2 sy2 hK
 have Agt:X2.length=0∨Y1.length=0→vC (Ac tab) Xc [(0,.own 1 g 0 len),(1,.int .i64 a),(3,.int .i64 b),(4,.fn 99 []),(18,.int .i64 mid),(20,.int .i64 st),(24,.int .i64 (n-st))] ⟨[Ap,.arr g 3 nn cl (vs Bc.av L)],c⟩ (Nq a171 K):=by
  intro h
  refine go2 c L ?_
  rcases h with h|h
  ·rw[hL,List.length_eq_zero_iff.1 h];rfl
  ·rw[hL,List.length_eq_zero_iff.1 h];rfl
 (conv=>whnf);repeat' (first|exact Agt (by omega)|(refine kA ?_;conv=>whnf)|(refine Br.mk (fun hc=>?_) fun hc=>?_<;>first|exact hc.elim|conv=>whnf)|(refine kB ?_))
 refine(AfX (A:=A++X1) (U:=X2) (V:=Y1) (B:=Y2++Z) (by simp only[List.length_append];omega) (by simp only[List.length_append];omega) (by simp only[List.length_append];omega) (by simp only[List.length_append];omega) (by omega) (by omega) hs).mono' (by rw[hL];simp only[List.append_assoc]) ?_
 rintro _ _ ⟨c',rfl,rfl⟩
 conv=>whnf
 apply Ai rfl
 conv=>whnf
 exact go2 c' _ (by simp only[List.append_assoc])
theorem Agu {Ap:Obj} {g len M c:Nat} {nn cl:Bool} {A X Y Z L:List Bc} {a m b mid n st r pp:Int} {Q:Ak→Env→Ag→Prop} (hL:L=A++(X++(Y++Z))) (hLl:L.length=len) (hl:len=A.length+(X.length+(Y.length+Z.length))) (hs:len<2^61) (sx:DC X) (sy:DC Y) (hm:m=A.length+X.length)
 (p1:M≤X.length+Y.length) (h1:mid=A.length+M) (h2:n=mid+m) (h3:st=A.length+(M-Y.length:Nat)) (h4:r=A.length+(min M X.length:Nat)) (h5:pp=n-1)
 (hQ:∀(P:Nat) (r:Int),M≤P+Y.length→P≤M→P≤X.length→(M-P=Y.length∨P=0∨le (X.getD (P-1) A0) (Y.getD (M-P) A0))→(P=X.length∨M-P=0∨le (Y.getD (M-P-1) A0) (X.getD P A0))→
   Q (.exit 8) [(0,.own 1 g 0 len),(1,.int .i64 a),(2,.int .i64 m),(3,.int .i64 b),(4,.fn 99 []),(18,.int .i64 mid),(19,.int .i64 n),(20,.int .i64 (A.length+P)),(21,.int .i64 r),(22,.int .i64 pp),(151,.bool false)] ⟨[Ap,.arr g 3 nn cl (vs Bc.av L)],c⟩):
 Run (Ac tab) (.loop l171_4_h l171_4_b) [(0,.own 1 g 0 len),(1,.int .i64 a),(2,.int .i64 m),(3,.int .i64 b),(4,.fn 99 []),(18,.int .i64 mid),(19,.int .i64 n),(20,.int .i64 st),(21,.int .i64 r),(22,.int .i64 pp)] ⟨[Ap,.arr g 3 nn cl (vs Bc.av L)],c⟩ Q:=by
 refine Ae (fun k env s=>∃(P R:Nat) (st r:Int),k=R-P∧M≤P+Y.length∧P≤R∧R≤M∧R≤X.length∧(M-P=Y.length∨P=0∨le (X.getD (P-1) A0) (Y.getD (M-P) A0))∧(R=X.length∨M-R=0∨le (Y.getD (M-R-1) A0) (X.getD R A0))∧st=A.length+P∧r=A.length+R∧
  env=[(0,.own 1 g 0 len),(1,.int .i64 a),(2,.int .i64 m),(3,.int .i64 b),(4,.fn 99 []),(18,.int .i64 mid),(19,.int .i64 n),(20,.int .i64 st),(21,.int .i64 r),(22,.int .i64 pp)]∧s=⟨[Ap,.arr g 3 nn cl (vs Bc.av L)],c⟩) ?_ _ _ _ ⟨M-Y.length,min M X.length,_,_,rfl,by omega,by omega,by omega,by omega,by omega,by omega,by omega,by omega,rfl,rfl⟩
 clear h3 h4
 rintro _ _ _ ⟨P,R,st,r,rfl,p1,p2,p3,p4,i1,i2,q3,q4,rfl,rfl⟩
 refine⟨rfl,?_⟩
 (conv=>whnf);repeat' (first|(refine WR (2*A.length+P+R) (by omega) (by omega) ?_;conv=>whnf)|(apply Bh;(· exact AaB _);conv=>whnf)|(apply AU;(· first|exact AcR hL (M-(P+R) / 2-1) (by omega) (by omega)|exact nAt hL ((P+R) / 2) (by omega) (by omega));conv=>whnf)|(refine Aa SB ?_;rintro _ rfl;conv=>whnf)|(refine kA ?_;conv=>whnf)|(refine Br.mk (fun hc=>?_) fun hc=>?_<;>first|exact hc.elim|conv=>whnf)|(refine kB ?_))
 ·exact again.mk ⟨_,by omega,P,(P+R) / 2,_,_,rfl,by omega,by omega,by omega,by omega,i1,Or.inr (Or.inr (Q7 (H6.1 hc))),by omega,by omega,rfl,rfl⟩
 ·exact again.mk ⟨_,by omega,(P+R) / 2+1,R,_,_,rfl,by omega,by omega,by omega,by omega,Or.inr (Or.inr (by rw[show M-((P+R) / 2+1)=M-(P+R) / 2-1 by omega];exact fun h=>hc (H6.2 h))),i2,by omega,by omega,rfl,rfl⟩
 ·obtain rfl:P=R:=by omega
  subst q3
  exact hQ P r p1 p3 p4 i1 i2
theorem Rk {X:List Bc} (h:DC X) (P:Nat):∀u∈X.take P,∀v∈X.drop P,le u v:=by
 have h1:=h
 rw[← List.take_append_drop P X]at h1
 exact(List.pairwise_append.1 h1).2.2
theorem Agv {Ap:Obj} {g len:Nat} {nn cl:Bool} (hs:len<2^61) {A X Y Z:List Bc} {c:Nat} {a m b:Int} (hl:len=(A++(X++(Y++Z))).length) (ha:a=A.length) (hm:m=A.length+X.length) (hb:b=A.length+X.length+Y.length) (hx:0<X.length) (hy:0<Y.length) (sx:DC X) (sy:DC Y) (h1x:X.length≠1) (h1y:Y.length≠1) {N:Nat} (hN:X.length+Y.length≤N) (ih:∀(A X' Y' Z:List Bc) (c:Nat) (a m b:Int),X'.length+Y'.length<N→len=(A++(X'++(Y'++Z))).length→a=A.length→m=A.length+X'.length→b=A.length+X'.length+Y'.length→0<X'.length→0<Y'.length→DC X'→DC Y'→PV Ap g len nn cl A X' Y' Z c a m b):
 PV Ap g len nn cl A X Y Z c a m b:=by
 unfold PV
 have hl0:=hl
 simp only[List.length_append]at hl
 obtain⟨L,hL⟩:∃L,L=A++(X++(Y++Z)):=⟨_,rfl⟩
 rw[← hL]
 have hLl:L.length=len:=by rw[hL,←hl0]
 obtain⟨M,hM⟩:∃M,M=(X.length+Y.length) / 2:=⟨_,rfl⟩
 refine Ar rfl rfl ?_
 (conv=>whnf);repeat' (first|(refine WR (2*A.length+X.length+Y.length) (by omega) (by omega) ?_;conv=>whnf)|(apply Bh;(· exact AaB _);conv=>whnf)|(refine kA ?_;conv=>whnf)|(refine Br.mk (fun hc=>?_) fun hc=>?_<;>first|exact hc.elim|conv=>whnf)|(refine kB ?_))
 all_goals
  refine Agu (M:=M) hL hLl hl hs sx sy hm (by omega) (by omega) (by omega) (by omega) (by omega) (by omega) ?_
  intro P r p1 p2 p3 i1 i2
  refine AeX ih (A:=A) (X1:=X.take P) (X2:=X.drop P) (Y1:=Y.take (M-P)) (Y2:=Y.drop (M-P)) (Z:=Z) (by simp only[List.length_take];omega) (by simp only[List.length_drop];omega)
   (by rw[hL,←List.append_assoc (X.take P),List.take_append_drop,←List.append_assoc (Y.take (M-P)),List.take_append_drop]) hLl.symm hs ha (by simp only[List.length_take];omega) (by simp only[List.length_take,List.length_drop];omega) (by simp only[List.length_take];omega) (by omega) (by simp only[List.length_take,List.length_drop];omega) (sx.take _) (sy.take _) (sx.drop _) (sy.drop _) ?_
  intro c' W1 W2 w1 s1 w2 s2
  refine⟨c',W1++W2,rfl,by rw[List.append_assoc],?_,AaU s1 s2 fun u hu v hv=>?_⟩
  ·refine(List.Perm.append w1 w2).trans ?_
   have e:X++Y=(X.take P++X.drop P)++(Y.take (M-P)++Y.drop (M-P)):=by rw[List.take_append_drop,List.take_append_drop]
   rw[e]
   simp only[List.append_assoc]
   exact List.Perm.append_left _ (by rw[← List.append_assoc,←List.append_assoc];exact List.Perm.append_right _ List.perm_append_comm)
  ·rcases List.mem_append.1 (w1.mem_iff.1 hu)with hu|hu<;>rcases List.mem_append.1 (w2.mem_iff.1 hv)with hv|hv
   ·exact Rk sx P u hu v hv
   ·exact UH sx sy p3 i1 u hu v hv
   ·exact UH sy sx (by omega) i2 u hu v hv
   ·exact Rk sy (M-P) u hu v hv
theorem AeY {Ap:Obj} {g len:Nat} {nn cl:Bool} (hs:len<2^61):∀(N:Nat) (A X Y Z:List Bc) (c:Nat) (a m b:Int),X.length+Y.length<N→len=(A++(X++(Y++Z))).length→a=A.length→m=A.length+X.length→b=A.length+X.length+Y.length→0<X.length→0<Y.length→DC X→DC Y→PV Ap g len nn cl A X Y Z c a m b:=by
 intro N
 induction N with
 |zero=>intro A X Y Z c a m b h;omega
 |succ N ih=>
  intro A X Y Z c a m b hN hl ha hm hb hx hy sx sy
  by_cases h1:X.length=1
  ·exact Agj hs hl ha hm hb hx hy sx sy h1
  by_cases h2:Y.length=1
  ·exact Agk hs hl ha hm hb hx hy sx sy h1 h2
  exact Agv hs hl ha hm hb hx hy sx sy h1 h2 (N:=N) (by omega) ih
theorem gAt {A Y Z:List Bc} {h:Nat} (hh:h<Y.length):(A++(Y++Z)).getD (A.length+h) A0=Y.getD h A0:=by
 simp only[List.getD]
 rw[List.getElem?_append_right (by omega),Nat.add_sub_cancel_left,List.getElem?_append_left hh]
theorem gTk {W:List Bc} {t h:Nat} (hh:h<t):(W.take t).getD h A0=W.getD h A0:=by
 simp only[List.getD]
 rw[List.getElem?_take_of_lt hh]
theorem Abb (X:List Bc):DC (X.take 1):=by
 cases X with
 |nil=>exact List.Pairwise.nil
 |cons a l=>exact List.pairwise_singleton _ _
theorem AgF {Ap:Obj} {g len c:Nat} {nn cl:Bool} {A W Z L:List Bc} {x:Bc} {a b i j:Int} {Q:Ak→Env→Ag→Prop} (hL:L=A++(W++(x::Z))) (hl:len=L.length) (hs:len<2^61) (sw:DC W) (ha:a=A.length) (hj:j=A.length+W.length)
 (hQ:∀(c t:Nat) (z:Int),t≤W.length→DC (W.take t++x::W.drop t)→Q (.exit 2) [(0,.own 1 g 0 len),(1,.int .i64 a),(2,.int .i64 b),(3,.fn 99 []),(8,.int .i64 i),(9,.int .i64 z),(34,.bool false)] ⟨[Ap,.arr g 3 nn cl (vs Bc.av (A++(W.take t++(x::(W.drop t++Z)))))],c⟩):
 Run (Ac tab) (.loop l170_0_h l170_0_b) [(0,.own 1 g 0 len),(1,.int .i64 a),(2,.int .i64 b),(3,.fn 99 []),(8,.int .i64 i),(9,.int .i64 j)] ⟨[Ap,.arr g 3 nn cl (vs Bc.av L)],c⟩ Q:=by
 have hll:len=A.length+(W.length+(Z.length+1)):=by rw[hl,hL];simp only[List.length_append,List.length_cons]
 refine Ae (fun k env s=>∃(t c:Nat) (z:Int) (L':List Bc),k=t+1∧t≤W.length∧z=A.length+t∧L'=A++(W.take t++(x::(W.drop t++Z)))∧(∀ v∈W.drop t,lt x v)∧env=[(0,.own 1 g 0 len),(1,.int .i64 a),(2,.int .i64 b),(3,.fn 99 []),(8,.int .i64 i),(9,.int .i64 z)]∧s=⟨[Ap,.arr g 3 nn cl (vs Bc.av L')],c⟩) ?_ _ _ _ ⟨W.length,_,_,_,rfl,Nat.le_refl _,hj,by rw[hL,List.take_length,List.drop_length];rfl,by simp,rfl,rfl⟩
 clear hL
 rintro _ _ _ ⟨t,c,z,L',rfl,k1,k2,hL',k3,rfl,rfl⟩
 refine⟨rfl,?_⟩
 have AhU:L'.length=len:=by rw[hL'];simp only[List.length_append,List.length_cons,List.length_take,List.length_drop];omega
 have e1:0<t→L'.getD (A.length+(t-1)+1) A0=x:=by
  intro h0
  have:=gAt (A:=A++W.take t) (Y:=[x]) (Z:=W.drop t++Z) (h:=0) (by simp)
  rw[hL',show A.length+(t-1)+1=(A++W.take t).length+0 by simp only[List.length_append,List.length_take];omega]
  rw[List.append_assoc]at this
  exact this
 have e2:0<t→L'.getD (A.length+(t-1)) A0=W.getD (t-1) A0:=by
  intro h0
  rw[hL',gAt (by simp only[List.length_take];omega),gTk (by omega)]
 (conv=>whnf);repeat' (first|(apply AU;(· first|exact nA (A.length+(t-1)+1) (by omega) (by first|omega|(simp;omega)));conv=>whnf)|(apply AU;(· first|exact nA (A.length+(t-1)) (by omega) (by first|omega|(simp;omega)));conv=>whnf)|(apply Bh;(· exact tA (A.length+(t-1)+1) (by omega));conv=>whnf)|(apply Bh;(· exact tA (A.length+(t-1)) (by omega));conv=>whnf)|(refine Aa SB ?_;rintro _ rfl;conv=>whnf)|(refine kA ?_;conv=>whnf)|(refine Br.mk (fun hc=>?_) fun hc=>?_<;>first|exact hc.elim|conv=>whnf)|(refine kB ?_))
 ·rw[e1 (by omega),e2 (by omega)]at hc
  refine again.mk ⟨_,by omega,t-1,_,_,_,rfl,by omega,by omega,by rw[← NW (by omega) k1 rfl rfl,←hL'];rfl,fun v hv=>?_,rfl,rfl⟩
  exact JM (H6.1 hc) (L9 sw (by omega) v hv)
 ·rw[e1 (by omega),e2 (by omega)]at hc
  subst hL'
  refine hQ c t z k1 (Mc (sw.take _) (sw.drop _) (fun u hu=>?_) (fun v hv=>Q7 (k3 v hv)))
  obtain⟨t,rfl⟩:∃t',t=t'+1:=⟨t-1,by omega⟩
  exact le_trans (L8 sw (by omega) u hu) (fun h=>hc (H6.2 h))
 ·obtain rfl:t=0:=by omega
  subst hL'
  exact hQ c 0 z k1 (Mc (sw.take _) (sw.drop _) (fun u hu=>by simp at hu) (fun v hv=>Q7 (k3 v hv)))
theorem Ae0 {Ap:Obj} {g len c:Nat} {nn cl:Bool} {A X Z L:List Bc} {a b:Int} (hL:L=A++(X++Z)) (hl:len=L.length) (hs:len<2^61) (ha:a=A.length) (hb:b=A.length+X.length):
 AQ (Ac tab) 170 [.own 1 g 0 len,.int .i64 a,.int .i64 b,.fn 99 []] ⟨[Ap,.arr g 3 nn cl (vs Bc.av L)],c⟩ fun out s'=>∃c' W,out=.ok (.CO [])∧s'=⟨[Ap,.arr g 3 nn cl (vs Bc.av (A++(W++Z)))],c'⟩∧W.Perm X∧DC W:=by
 have hll:len=A.length+(X.length+Z.length):=by rw[hl,hL];simp only[List.length_append]
 refine Ar rfl rfl ?_
 (conv=>whnf);repeat' (first|(refine kA ?_;conv=>whnf)|(refine Br.mk (fun hc=>?_) fun hc=>?_<;>first|exact hc.elim|conv=>whnf)  |(refine kB ?_))
 refine Ae (fun m env s=>∃(k c:Nat) (i:Int) (W L:List Bc),m=X.length-k∧1≤k∧(k≤X.length∨k=1)∧i=A.length+k∧W.Perm (X.take k)∧DC W∧L=A++(W++(X.drop k++Z))∧env=[(0,.own 1 g 0 len),(1,.int .i64 a),(2,.int .i64 b),(3,.fn 99 []),(8,.int .i64 i)]∧s=⟨[Ap,.arr g 3 nn cl (vs Bc.av L)],c⟩) ?_ _ _ _ ⟨1,c,_,X.take 1,_,rfl,by omega,by omega,by omega,List.Perm.refl _,Abb X,by rw[hL];conv=>lhs;rw[← List.take_append_drop 1 X,List.append_assoc],rfl,rfl⟩
 clear hL hl
 rintro _ _ _ ⟨k,c,i,W,L,rfl,k1,k2,hi,hp,hw,hL,rfl,rfl⟩
 refine⟨rfl,?_⟩
 (conv=>whnf);repeat' (first|(refine kA ?_;conv=>whnf)|(refine Br.mk (fun hc=>?_) fun hc=>?_<;>first|exact hc.elim|conv=>whnf)  |(refine kB ?_))
 ·have hk:k<X.length:=by omega
  have hwl:W.length=k:=by rw[hp.length_eq,List.length_take];omega
  rw[List.drop_eq_getElem_cons hk]at hL
  refine AgF (x:=X[k]) (Z:=X.drop (k+1)++Z) hL (by rw[hL];simp only[List.length_append,List.length_cons,List.length_drop];omega) hs hw ha (by omega) ?_
  intro c' t z ht hst
  (conv=>whnf);repeat' (first|(refine kA ?_;conv=>whnf)|(refine Br.mk (fun hc=>?_) fun hc=>?_<;>first|exact hc.elim|conv=>whnf)  |(refine kB ?_))
  refine again.mk ⟨_,by omega,k+1,_,_,W.take t++X[k]::W.drop t,_,rfl,by omega,by omega,by omega,?_,hst,by simp only[List.append_assoc,List.cons_append],rfl,rfl⟩
  refine List.perm_middle.trans ?_
  rw[List.take_append_drop,List.take_succ_eq_append_getElem hk]
  exact(List.Perm.cons _ hp).trans (List.perm_append_comm (l₁:=[X[k]]) (l₂:=X.take k))
 ·rw[List.take_of_length_le (by omega)]at hp
  rw[List.drop_of_length_le (by omega)]at hL
  subst hL
  exact⟨_,W,rfl,rfl,hp,hw⟩
inductive Ch (S:Nat):List Bc→Prop
 |last {l:List Bc} (h:l.length≤S) (s:DC l):Ch S l
 |cons {b l:List Bc} (h:b.length=S) (s:DC b) (t:Ch S l):Ch S (b++l)
inductive Full (S:Nat):List Bc→Prop
 |nil:Full S []
 |cons {b l:List Bc} (h:b.length=S) (s:DC b) (t:Full S l):Full S (b++l)
theorem Full.app {S:Nat} {W R:List Bc} (h:Full S W) (hr:Ch S R):Ch S (W++R):=by
 induction h with
 |nil=>exact hr
 |cons h s t ih=>rw[List.append_assoc];exact .cons h s ih
theorem Full.snoc {S:Nat} {W b:List Bc} (h:Full S W) (hb:b.length=S) (sb:DC b):Full S (W++b):=by
 induction h with
 |nil=>have:=Full.cons hb sb .nil;rw[List.append_nil]at this;exact this
 |cons h s t ih=>rw[List.append_assoc];exact .cons h s ih
theorem Ada (S:Nat):Ch S []:=.last (Nat.zero_le _) List.Pairwise.nil
theorem MI {S:Nat} {R:List Bc} (h:Ch S R) (hl:R.length≤S):DC R:=by
 cases h with
 |last h s=>exact s
 |@cons b l h s t=>
  have:l=[]:=List.length_eq_zero_iff.1 (by rw[List.length_append]at hl;omega)
  rw[this,List.append_nil];exact s
theorem VN {S:Nat} {R:List Bc} (h:Ch S R) (hl:S<R.length):∃b R',R=b++R'∧b.length=S∧DC b∧Ch S R':=by
 cases h with
 |last h s=>omega
 |@cons b l h s t=>exact⟨b,l,rfl,h,s,t⟩
theorem Adb {S:Nat} {R:List Bc} (h0:0<S) (h:Ch S R) (hl:2*S≤R.length):∃b1 b2 R',R=b1++(b2++R')∧b1.length=S∧b2.length=S∧DC b1∧DC b2∧Ch S R':=by
 obtain⟨b1,R1,rfl,h1,s1,t1⟩:=VN h (by omega)
 rw[List.length_append]at hl
 by_cases hs:S<R1.length
 ·obtain⟨b2,R2,rfl,h2,s2,t2⟩:=VN t1 hs
  exact⟨b1,b2,R2,rfl,h1,h2,s1,s2,t2⟩
 ·exact⟨b1,R1,[],by rw[List.append_nil],h1,by omega,s1,MI t1 (by omega),Ada S⟩
theorem Adc {Ap:Obj} {g len c S:Nat} {nn cl:Bool} {L:List Bc} {a b:Int} {Q:Ak→Env→Ag→Prop} (hl:len=L.length) (hs:len<2^60) (h0:0<S) (hS:S<len) (hc:Ch S L) (ha:a=0) (hb:b=2*S)
 (hQ:∀(c:Nat) (a b:Int) (W R:List Bc),Full (2*S) W→Ch S R→R.length<2*S→(W++R).Perm L→a=W.length→Q (.exit 4) [(0,.own 1 g 0 len),(1,.int .i64 len),(2,.fn 99 []),(6,.int .i64 S),(7,.int .i64 a),(8,.int .i64 b),(35,.bool false)] ⟨[Ap,.arr g 3 nn cl (vs Bc.av (W++R))],c⟩):
 Run (Ac tab) (.loop l144_1_h l144_1_b) [(0,.own 1 g 0 len),(1,.int .i64 len),(2,.fn 99 []),(6,.int .i64 S),(7,.int .i64 a),(8,.int .i64 b)] ⟨[Ap,.arr g 3 nn cl (vs Bc.av L)],c⟩ Q:=by
 refine Ae (fun m env s=>∃(c:Nat) (a b:Int) (W R L':List Bc),m=R.length∧L'=W++R∧Full (2*S) W∧Ch S R∧L'.Perm L∧a=W.length∧b=W.length+2*S∧env=[(0,.own 1 g 0 len),(1,.int .i64 len),(2,.fn 99 []),(6,.int .i64 S),(7,.int .i64 a),(8,.int .i64 b)]∧s=⟨[Ap,.arr g 3 nn cl (vs Bc.av L')],c⟩) ?_ _ _ _ ⟨c,_,_,[],L,L,rfl,rfl,.nil,hc,List.Perm.refl _,by rw[ha];rfl,by rw[hb];simp,rfl,rfl⟩
 clear ha hb hc
 rintro _ _ _ ⟨c,a,b,W,R,L',rfl,hL',hW,hR,hp,ha,hb,rfl,rfl⟩
 refine⟨rfl,?_⟩
 have hll:len=W.length+R.length:=by rw[hl,←hp.length_eq,hL',List.length_append]
 (conv=>whnf);repeat' (first|(refine kA ?_;conv=>whnf)|(refine Br.mk (fun hc=>?_) fun hc=>?_<;>first|exact hc.elim|conv=>whnf)  |(refine kB ?_))
 ·obtain⟨b1,b2,R',rfl,e1,e2,s1,s2,hR'⟩:=Adb h0 hR (by omega)
  simp only[List.length_append]at hll
  subst hL'
  refine(AeY (by omega) (b1.length+b2.length+1) W b1 b2 R' c _ _ _ (by omega) (by simp only[List.length_append];omega) ha (by omega) (by omega) (by omega) (by omega) s1 s2).mono ?_
  rintro _ _ ⟨c',B,rfl,rfl,h1,h2⟩
  conv=>whnf
  apply Ai rfl
  (conv=>whnf);repeat' (first|(refine kA ?_;conv=>whnf)|(refine Br.mk (fun hc=>?_) fun hc=>?_<;>first|exact hc.elim|conv=>whnf)  |(refine kB ?_))
  have hB:B.length=2*S:=by rw[h1.length_eq,List.length_append];omega
  refine again.mk ⟨_,by simp only[List.length_append];omega,c',_,_,W++B,R',_,rfl,by simp only[List.append_assoc],hW.snoc hB h2,hR',?_,by simp only[List.length_append];omega,by simp only[List.length_append];omega,rfl,rfl⟩
  refine List.Perm.trans ?_ hp
  exact List.Perm.append_left _ (by rw[← List.append_assoc b1];exact List.Perm.append_right _ h1)
 ·subst hL'
  exact hQ c a b W R hW hR (by omega) hp ha
theorem Ade {Ap:Obj} {g len c S:Nat} {nn cl:Bool} {L L0:List Bc} {z:Int} {K:AX→Ag→Prop} (hl:len=L.length) (hs:len<2^60) (h0:0<S) (hc:Ch S L) (hz:z=S) (hz2:S<2^62) (hp0:L.Perm L0)
 (hK:∀c' W,W.Perm L0→DC W→K (.ok (.CO [])) ⟨[Ap,.arr g 3 nn cl (vs Bc.av W)],c'⟩):
 Run (Ac tab) (.loop l144_2_h l144_2_b) [(0,.own 1 g 0 len),(1,.int .i64 len),(2,.fn 99 []),(6,.int .i64 z)] ⟨[Ap,.arr g 3 nn cl (vs Bc.av L)],c⟩ (Va 2 (Nq a144 K)):=by
 refine Ae (fun m env s=>∃(c S:Nat) (z:Int) (L:List Bc),m=len-S∧z=S∧0<S∧S<2^62∧len=L.length∧Ch S L∧L.Perm L0∧env=[(0,.own 1 g 0 len),(1,.int .i64 len),(2,.fn 99 []),(6,.int .i64 z)]∧s=⟨[Ap,.arr g 3 nn cl (vs Bc.av L)],c⟩) ?_ _ _ _ ⟨c,S,_,L,rfl,hz,h0,hz2,hl,hc,hp0,rfl,rfl⟩
 clear hz hz2 hl hc hp0 h0
 rintro _ _ _ ⟨c,S,z,L,rfl,rfl,h0,hz2,hl,hCh,hp0,rfl,rfl⟩
 refine⟨rfl,?_⟩
 (conv=>whnf);repeat' (first|(refine kA ?_;conv=>whnf)|(refine Br.mk (fun hc=>?_) fun hc=>?_<;>first|exact hc.elim|conv=>whnf)  |(refine kB ?_))
 ·refine Adc hl hs h0 (by omega) hCh rfl rfl ?_
  intro c a b W R hW hR hlt hp ha
  have hll:len=W.length+R.length:=by rw[hl,←hp.length_eq,List.length_append]
  have hwf:∀(B:List Bc),B.Perm R→DC B→Ch (2*S) (W++B)∧(W++B).Perm L0∧len=(W++B).length:=by
   intro B h1 h2
   have hbl:=h1.length_eq
   exact⟨hW.app (.last (by omega) h2),(List.Perm.append_left _ h1).trans (hp.trans hp0),by rw[List.length_append];omega⟩
  (conv=>whnf);repeat' (first|(refine kA ?_;conv=>whnf)|(refine Br.mk (fun hc=>?_) fun hc=>?_<;>first|exact hc.elim|conv=>whnf)  |(refine kB ?_))
  ·obtain⟨b1,R',rfl,e1,s1,hR'⟩:=VN hR (by omega)
   simp only[List.length_append]at hll hlt
   refine(AeY (by omega) (b1.length+R'.length+1) W b1 R' [] c _ _ _ (by omega) (by simp only[List.length_append,List.length_nil];omega) ha (by omega) (by omega) (by omega) (by omega) s1 (MI hR' (by omega))).mono' (by rw[List.append_nil]) ?_
   rintro _ _ ⟨c',B,rfl,rfl,h1,h2⟩
   conv=>whnf
   apply Ai rfl
   (conv=>whnf);repeat' (first|(refine kA ?_;conv=>whnf)|(refine Br.mk (fun hc=>?_) fun hc=>?_<;>first|exact hc.elim|conv=>whnf)  |(refine kB ?_))
   obtain⟨w1,w2,w3⟩:=hwf B h1 h2
   exact again.mk ⟨_,by omega,_,2*S,_,W++B,rfl,by omega,by omega,by omega,w3,w1,w2,rfl,by rw[List.append_nil];rfl⟩
  ·obtain⟨w1,w2,w3⟩:=hwf R (List.Perm.refl _) (MI hR (by omega))
   exact again.mk ⟨_,by omega,_,2*S,_,W++R,rfl,by omega,by omega,by omega,w3,w1,w2,rfl,rfl⟩
 ·exact hK _ _ hp0 (MI hCh (by omega))
theorem AaC {Ap:Obj} {g len c:Nat} {nn cl:Bool} {L:List Bc} (hl:len=L.length) (hs:len<2^60):
 AQ (Ac tab) 144 [.own 1 g 0 len,.int .i64 len,.fn 99 []] ⟨[Ap,.arr g 3 nn cl (vs Bc.av L)],c⟩ fun out s'=>∃c' W,out=.ok (.CO [])∧s'=⟨[Ap,.arr g 3 nn cl (vs Bc.av W)],c'⟩∧W.Perm L∧DC W:=by
 refine Ar rfl rfl ?_
 (conv=>whnf);repeat' (first|(refine kA ?_;conv=>whnf)|(refine Br.mk (fun hc=>?_) fun hc=>?_<;>first|exact hc.elim|conv=>whnf)  |(refine kB ?_))
 refine Ae (fun m env s=>∃(c:Nat) (a b:Int) (W R L':List Bc),m=R.length∧L'=W++R∧Full 20 W∧L'.Perm L∧a=W.length∧b=W.length+20∧env=[(0,.own 1 g 0 len),(1,.int .i64 len),(2,.fn 99 []),(6,.int .i64 20),(7,.int .i64 a),(8,.int .i64 b)]∧s=⟨[Ap,.arr g 3 nn cl (vs Bc.av L')],c⟩) ?_ _ _ _ ⟨c,_,_,[],L,L,rfl,rfl,.nil,List.Perm.refl _,by simp,by simp,rfl,rfl⟩
 rintro _ _ _ ⟨c,a,b,W,R,L',rfl,hL',hW,hp,ha,hb,rfl,rfl⟩
 refine⟨rfl,?_⟩
 have hll:len=W.length+R.length:=by rw[hl,←hp.length_eq,hL',List.length_append]
 (conv=>whnf);repeat' (first|(refine kA ?_;conv=>whnf)|(refine Br.mk (fun hc=>?_) fun hc=>?_<;>first|exact hc.elim|conv=>whnf)  |(refine kB ?_))
 ·obtain⟨B,R',rfl,e1⟩:∃B R',R=B++R'∧B.length=20:=⟨R.take 20,R.drop 20,(List.take_append_drop 20 R).symm,by rw[List.length_take];omega⟩
  refine(Ae0 (A:=W) (X:=B) (Z:=R') hL' (by rw[hl,hp.length_eq]) (by omega) ha (by omega)).mono ?_
  rintro _ _ ⟨c',B',rfl,rfl,h1,h2⟩
  (conv=>whnf);repeat' (first|(refine kA ?_;conv=>whnf)|(refine Br.mk (fun hc=>?_) fun hc=>?_<;>first|exact hc.elim|conv=>whnf)  |(refine kB ?_))
  have hb':=h1.length_eq
  refine again.mk ⟨_,by simp only[List.length_append];omega,c',_,_,W++B',R',_,rfl,by simp only[List.append_assoc],hW.snoc (by omega) h2,?_,by simp only[List.length_append];omega,by simp only[List.length_append];omega,rfl,rfl⟩
  refine List.Perm.trans ?_ hp
  rw[hL']
  exact List.Perm.append_left _ (List.Perm.append_right _ h1)
 ·refine(Ae0 (A:=W) (X:=R) (Z:=[]) (by rw[hL',List.append_nil]) (by rw[hl,hp.length_eq]) (by omega) ha (by omega)).mono ?_
  rintro _ _ ⟨c',B',rfl,rfl,h1,h2⟩
  (conv=>whnf);repeat' (first|(refine kA ?_;conv=>whnf)|(refine Br.mk (fun hc=>?_) fun hc=>?_<;>first|exact hc.elim|conv=>whnf)  |(refine kB ?_))
  have hb':=h1.length_eq
  refine Ade (S:=20) (L:=W++(B'++[])) (L0:=L) (by simp only[List.length_append,List.length_nil];omega) hs (by omega) (hW.app (.last (by simp only[List.length_append,List.length_nil];omega) (by rw[List.append_nil];exact h2))) rfl (by omega) ?_ ?_
  ·refine List.Perm.trans ?_ hp
   rw[hL',List.append_nil]
   exact List.Perm.append_left _ h1
  ·intro c' W' h3 h4
   exact⟨c',W',rfl,rfl,h3,h4⟩
theorem Aet {Ap:Obj} {g len c:Nat} {nn cl:Bool} {L:List Bc} (hl:len=L.length) (hs:len<2^60):
 AQ (Ac tab) 98 [.own 1 g 0 len,.fn 99 []] ⟨[Ap,.arr g 3 nn cl (vs Bc.av L)],c⟩ fun out s'=>∃c' W,out=.ok (.CO [])∧s'=⟨[Ap,.arr g 3 nn cl (vs Bc.av W)],c'⟩∧W.Perm L∧DC W:=by
 refine Ar rfl rfl ?_
 (conv=>whnf);repeat' (first|(refine kA ?_;conv=>whnf)|(refine Br.mk (fun hc=>?_) fun hc=>?_<;>first|exact hc.elim|conv=>whnf)  |(refine kB ?_))
 refine(AaC hl hs).mono ?_
 rintro _ _ ⟨c',W,rfl,rfl,h1,h2⟩
 (conv=>whnf);repeat' (first|(refine kA ?_;conv=>whnf)|(refine Br.mk (fun hc=>?_) fun hc=>?_<;>first|exact hc.elim|conv=>whnf)  |(refine kB ?_))
 exact⟨_,W,rfl,rfl,h1,h2⟩
def outOf (types:List (List UInt8)) (id dir:Int) (e:GE):Option Bc:=if HT types e then stepOf e id dir else none
def outs (types:List (List UInt8)) (id dir:Int) (E:List GE):List Bc:=E.filterMap (outOf types id dir)
theorem QV {types:List (List UInt8)} {id dir:Int} {E:List GE} {i:Nat} (h:i<E.length):outs types id dir (E.take (i+1))=outs types id dir (E.take i)++(outOf types id dir E[i]).toList:=by
 unfold outs
 rw[List.take_succ_eq_append_getElem h,List.filterMap_append]
 cases h:outOf types id dir E[i]<;>simp[h]
theorem Ii {types:List (List UInt8)} {id dir:Int} {E:List GE}:(outs types id dir E).length≤E.length:=List.length_filterMap_le _ _
theorem apA {g len:Nat} {nn cl:Bool} {l:List Bc} {x:Bc} {bytes:Nat} {K:Nat→Bool→Bool→List AV→Prop} (hl:len=l.length) (hr:(l.length+1)*bytes≤2 ^ 46) (h:K (l.length+1) true cl (vs Bc.av (l++[x]))):
 LW g g 3 3 len nn cl true (vs Bc.av l) [x.av] bytes K:=by
 subst hl
 refine⟨⟨rfl,rfl,by simp,by intro y hy;simp at hy;subst hy;rfl,LX hr⟩,?_⟩
 have e1:(nn||!([x.av]:List AV).isEmpty)=true:=by simp
 have e2:(cl&&true)=cl:=by simp
 rw[e1,e2,WQ]
 exact h
theorem AcG {g:GG} (hg:g.ok) (hE:g.edges.length≤100) {types:List (List UInt8)} {tn:Bool} (ht:types.length<2^63) {id dir:Int} {i c go:Nat} {nn:Bool} {O:List Bc} (hi:i<g.edges.length) (hO:O.length≤i) {Q:Ak→Env→Ag→Prop}
 (hQ:∀c' c'' nn' n' O',n'=List.length O'→O'=O++(outOf types id dir g.edges[i]).toList→Q .normal [(1,.int .i64 id),(2,.sl tn (vs .str types)),(3,.int .i64 dir),(9,.own 1 c' 0 n'),(13,.sl g.en (vs GE.av g.edges)),(14,.int .i64 g.edges.length),(15,.int .i64 (i+1))] ⟨[.arr 0 4 true true [g.av],.arr c' 3 nn' true (vs Bc.av O')],c''⟩):
 vC (Ac tab) l65_0_b [(1,.int .i64 id),(2,.sl tn (vs .str types)),(3,.int .i64 dir),(9,.own 1 go 0 O.length),(13,.sl g.en (vs GE.av g.edges)),(14,.int .i64 g.edges.length),(15,.int .i64 i)] ⟨[.arr 0 4 true true [g.av],.arr go 3 nn true (vs Bc.av O)],c⟩ Q:=by
 obtain⟨n,hn⟩:∃n,n=O.length:=⟨_,rfl⟩
 rw[← hn]
 have k0:outOf types id dir g.edges[i]=none→O=O++(outOf types id dir g.edges[i]).toList:=by
  intro h;rw[h];exact(List.append_nil _).symm
 have k1:∀x,outOf types id dir g.edges[i]=some x→O++[x]=O++(outOf types id dir g.edges[i]).toList:=by
  intro x h;rw[h];rfl
 (conv=>whnf);repeat' (first|(refine EJ (YH (e:=g.edges[i]) ht) (fun hc=>?_) (fun hc=>?_)<;>conv=>whnf)|(refine apA (x:=⟨id,g.edges[i].to,g.edges[i].id⟩) hn (by omega) ?_;conv=>whnf)|(refine apA (x:=⟨id,g.edges[i].fr,g.edges[i].id⟩) hn (by omega) ?_;conv=>whnf)|(refine kA ?_;conv=>whnf)|(refine Br.mk (fun hc=>?_) fun hc=>?_<;>first|exact hc.elim|conv=>whnf)|(refine kB ?_))
 all_goals first
  |exact hQ _ _ _ _ O hn (k0 (by unfold outOf stepOf;first|rw[if_neg (by assumption)]|rw[if_pos (by assumption),if_neg (by omega),if_neg (by omega)]))
  |exact hQ _ _ _ _ _ (by simp) (k1 ⟨id,g.edges[i].to,g.edges[i].id⟩ (by unfold outOf stepOf;rw[if_pos (by assumption),if_pos (by omega)]))
  |exact hQ _ _ _ _ _ (by simp) (k1 ⟨id,g.edges[i].fr,g.edges[i].id⟩ (by unfold outOf stepOf;rw[if_pos (by assumption),if_neg (by omega),if_pos (by omega)]))
theorem AcH {g:GG} (hg:g.ok) (hE:g.edges.length≤100) {types:List (List UInt8)} {tn:Bool} (ht:types.length<2^63) {id dir:Int}:
 Au (Ac tab) 65 [g.av,.int .i64 id,.sl tn (vs .str types),.int .i64 dir] (fun v=>∃nn W,v=.sl nn (vs Bc.av W)∧W.Perm (outs types id dir g.edges)∧DC W):=by
 refine Af rfl rfl ?_
 (conv=>whnf);repeat' (first|(refine kA ?_;conv=>whnf)|(refine Br.mk (fun hc=>?_) fun hc=>?_<;>first|exact hc.elim|conv=>whnf)  |(refine kB ?_))
 refine Ae (fun m env s=>∃(i c go n:Nat) (nn:Bool) (O:List Bc),m=g.edges.length-i∧i≤g.edges.length∧n=O.length∧O=outs types id dir (g.edges.take i)∧env=[(1,.int .i64 id),(2,.sl tn (vs .str types)),(3,.int .i64 dir),(9,.own 1 go 0 n),(13,.sl g.en (vs GE.av g.edges)),(14,.int .i64 g.edges.length),(15,.int .i64 i)]∧s=⟨[.arr 0 4 true true [g.av],.arr go 3 nn true (vs Bc.av O)],c⟩) ?_ _ _ _ ⟨0,_,_,_,_,[],rfl,by omega,rfl,by simp[outs],rfl,rfl⟩
 rintro _ _ _ ⟨i,c,go,n,nn,O,rfl,hi,hn,hO,rfl,rfl⟩
 refine⟨rfl,?_⟩
 have YI:O.length≤i:=by
  have:=@Ii types id dir (g.edges.take i)
  rw[← hO]at this
  rw[List.length_take]at this;omega
 by_cases hlt:i<g.edges.length
 ·subst hn
  refine AcG hg hE ht hlt YI ?_
  intro c' c'' nn' n' O' h1 h2
  exact again.mk ⟨_,by omega,i+1,_,_,_,_,O',rfl,by omega,h1,by rw[h2,hO,←QV hlt],rfl,rfl⟩
 ·rw[List.take_of_length_le (by omega)]at hO
  (conv=>whnf);repeat' (first|(refine kA ?_;conv=>whnf)|(refine Br.mk (fun hc=>?_) fun hc=>?_<;>first|exact hc.elim|conv=>whnf)  |(refine kB ?_))
  refine(Aet hn (by omega)).mono ?_
  rintro _ _ ⟨c',W,rfl,rfl,h1,h2⟩
  (conv=>whnf);repeat' (first|(refine kA ?_;conv=>whnf)|(refine Br.mk (fun hc=>?_) fun hc=>?_<;>first|exact hc.elim|conv=>whnf)  |(refine kB ?_))
  have hw:n=W.length:=by rw[hn,h1.length_eq]
  subst hw
  refine need.mk ⟨rfl,by rw[lV];omega⟩ (Bh uV ⟨nn,W,rfl,?_,h2⟩)
  rw[← hO];exact h1
theorem set_mid {W:List Bc} {y w:Bc} {t:Nat} (ht:t≤W.length):(W.take t++y::W.drop t).set t w=W.take t++w::W.drop t:=by
 rw[List.set_append_right _ _ (by rw[List.length_take];omega),List.length_take,Nat.min_eq_left ht,Nat.sub_self,List.set_cons_zero]
theorem AaI {W:List Bc} {y:Bc} {t:Nat} (h0:0<t) (ht:t≤W.length):(W.take t++y::W.drop t).getD (t-1) A0=W.getD (t-1) A0:=by
 have:(W.take t++y::W.drop t).getD (t-1) A0=(W.take t).getD (t-1) A0:=by
  simp only[List.getD]
  rw[List.getElem?_append_left (by rw[List.length_take];omega)]
 rw[this,gTk (by omega)]
theorem Y7 {W:List Bc} {t:Nat} (h0:0<t) (ht:t≤W.length):W.take t++W.getD (t-1) A0::W.drop t=W.take (t-1)++W.getD (t-1) A0::W.drop (t-1):=by
 obtain⟨t,rfl⟩:∃t',t=t'+1:=⟨t-1,by omega⟩
 have hlt:t<W.length:=by omega
 have e:W.getD t A0=W[t]:=by simp[hlt]
 rw[Nat.add_sub_cancel,e,List.drop_eq_getElem_cons hlt,List.take_succ_eq_append_getElem hlt,List.append_assoc]
 rfl
theorem AeC {g:GG} {len c go:Nat} {nn:Bool} {W L:List Bc} {x:Bc} {id dir ii z:Int} {types:List (List UInt8)} {tn:Bool} {gx:Nat} {Q:Ak→Env→Ag→Prop} (hL:L=W++[x]) (hz:z=W.length) (hl:len=W.length+1) (hs:len<2^61) (sw:DC W)
 (hQ:∀(t:Nat) (z:Int) (y:Bc),z=t→t≤W.length→DC (W.take t++x::W.drop t)→Q (.exit 2) [(1,.int .i64 id),(2,.sl tn (vs .str types)),(3,.int .i64 dir),(4,.ref 0 0 0 0),(9,.own 1 go 0 len),(10,.int .i64 ii),(11,.ref 2 gx 0 0),(13,.int .i64 z),(84,.bool false)] ⟨[.arr 0 4 true true [g.av],.arr go 3 nn true (vs Bc.av (W.take t++y::W.drop t)),.arr gx 3 true true [x.av]],c⟩):
 Run (Ac tab) (.loop l23_0_h l23_0_b) [(1,.int .i64 id),(2,.sl tn (vs .str types)),(3,.int .i64 dir),(4,.ref 0 0 0 0),(9,.own 1 go 0 len),(10,.int .i64 ii),(11,.ref 2 gx 0 0),(13,.int .i64 z)] ⟨[.arr 0 4 true true [g.av],.arr go 3 nn true (vs Bc.av (L)),.arr gx 3 true true [x.av]],c⟩ Q:=by
 refine Ae (fun k env s=>∃(t:Nat) (z:Int) (y:Bc) (L':List Bc),k=t+1∧z=t∧t≤W.length∧L'=W.take t++y::W.drop t∧(∀ v∈W.drop t,lt x v)∧env=[(1,.int .i64 id),(2,.sl tn (vs .str types)),(3,.int .i64 dir),(4,.ref 0 0 0 0),(9,.own 1 go 0 len),(10,.int .i64 ii),(11,.ref 2 gx 0 0),(13,.int .i64 z)]∧s=⟨[.arr 0 4 true true [g.av],.arr go 3 nn true (vs Bc.av (L')),.arr gx 3 true true [x.av]],c⟩) ?_ _ _ _ ⟨W.length,z,x,L,rfl,hz,Nat.le_refl _,by rw[hL];simp,by simp,rfl,rfl⟩
 clear hz
 rintro _ _ _ ⟨t,z,y,L',rfl,hz,k1,hL',k5,rfl,rfl⟩
 refine⟨rfl,?_⟩
 have hl':L'.length=len:=by rw[hL'];simp only[List.length_append,List.length_cons,List.length_take,List.length_drop];omega
 have e2:0<t→L'.getD (t-1) A0=W.getD (t-1) A0:=fun h0=>by rw[hL'];exact AaI h0 k1
 (conv=>whnf);repeat' (first|(apply AU;(· first|exact nA (t-1) (by omega) (by omega)|exact nA t (by omega) (by omega));conv=>whnf)|(apply Bh;(· exact tA (t) (by omega));conv=>whnf)|(refine kA ?_;conv=>whnf)|(refine Br.mk (fun hc=>?_) fun hc=>?_<;>first|exact hc.elim|conv=>whnf)|(refine kB ?_))
 all_goals first
  |(have hlt:lt x (L'.getD (t-1) A0):=by unfold lt;omega
    rw[e2 (by omega)]at hlt
    refine again.mk ⟨_,by omega,t-1,_,W.getD (t-1) A0,_,rfl,by omega,by omega,?_,fun v hv=>JM hlt (L9 sw (by omega) v hv),rfl,rfl⟩
    rw[e2 (by omega),hL',set_mid k1]
    exact Y7 (by omega) k1)
  |(have hex:0<t→le (L'.getD (t-1) A0) x:=by intro h0;unfold le lt;omega
    subst hL'
    refine hQ t z y hz k1 (Mc (sw.take _) (sw.drop _) (fun u hu=>?_) (fun v hv=>Q7 (k5 v hv)))
    rcases Nat.eq_zero_or_pos t with rfl|h0
    ·simp at hu
    ·have h1:=hex h0
     rw[e2 h0]at h1
     refine le_trans (L8 sw (h:=t-1) (by omega) u ?_) h1
     rw[Nat.sub_add_cancel h0];exact hu)
theorem AeA {g:GG} {types:List (List UInt8)} {tn:Bool} (ht:types.length<2^63) {id dir:Int} {i c go n:Nat} {nn:Bool} {W:List Bc} (hi:i<g.edges.length) (hl:g.edges.length≤100) {Q:Ak→Env→Ag→Prop}
 (hs:stepOf g.edges[i] id dir=none)
 (hQ:∀c',Q .normal [(1,.int .i64 id),(2,.sl tn (vs .str types)),(3,.int .i64 dir),(4,.ref 0 0 0 0),(9,.own 1 go 0 n),(10,.int .i64 (i+1))] ⟨[.arr 0 4 true true [g.av],.arr go 3 nn true (vs Bc.av W)],c'⟩):
 vC (Ac tab) l23_1_b [(1,.int .i64 id),(2,.sl tn (vs .str types)),(3,.int .i64 dir),(4,.ref 0 0 0 0),(9,.own 1 go 0 n),(10,.int .i64 i)] ⟨[.arr 0 4 true true [g.av],.arr go 3 nn true (vs Bc.av W)],c⟩ Q:=by
 (conv=>whnf);repeat' (first|(refine EJ (UA (e:=g.edges[i]) ht) (fun hc=>?_) (fun hc=>?_)<;>conv=>whnf)|(refine Aa (step2 (e:=g.edges[i])) ?_;rintro _ rfl;rw[hs];conv=>whnf)|(refine kA ?_;conv=>whnf)|(refine Br.mk (fun hc=>?_) fun hc=>?_<;>first|exact hc.elim|conv=>whnf)|(refine kB ?_))
 exact hQ _
theorem AeB {g:GG} {types:List (List UInt8)} {tn:Bool} (ht:types.length<2^63) {id dir:Int} {i c go n:Nat} {nn:Bool} {W:List Bc} (hi:i<g.edges.length) (hl:g.edges.length≤100) {Q:Ak→Env→Ag→Prop} {a:Bc}
 (hs:stepOf g.edges[i] id dir=some a) (hn:n=W.length) (hW:W.length≤i) (sW:DC W)
 (hQ:∀c' go' n' nn' W',n'=W'.length→(¬ HT types g.edges[i]∧W'=W∨HT types g.edges[i]∧DC W'∧W'.Perm (W++[a]))→Q .normal [(1,.int .i64 id),(2,.sl tn (vs .str types)),(3,.int .i64 dir),(4,.ref 0 0 0 0),(9,.own 1 go' 0 n'),(10,.int .i64 (i+1))] ⟨[.arr 0 4 true true [g.av],.arr go' 3 nn' true (vs Bc.av W')],c'⟩):
 vC (Ac tab) l23_1_b [(1,.int .i64 id),(2,.sl tn (vs .str types)),(3,.int .i64 dir),(4,.ref 0 0 0 0),(9,.own 1 go 0 n),(10,.int .i64 i)] ⟨[.arr 0 4 true true [g.av],.arr go 3 nn true (vs Bc.av W)],c⟩ Q:=by
 (conv=>whnf);repeat' (first|(refine EJ (UA (e:=g.edges[i]) ht) (fun hc=>?_) (fun hc=>?_)<;>conv=>whnf)|(refine Aa (step2 (e:=g.edges[i])) ?_;rintro _ rfl;rw[hs];conv=>whnf)|(refine apA (x:=a) hn (by omega) ?_;conv=>whnf)|(refine kA ?_;conv=>whnf)|(refine Br.mk (fun hc=>?_) fun hc=>?_<;>first|exact hc.elim|conv=>whnf)|(refine kB ?_))
 ·refine AeC (x:=a) rfl (by rw[hn]) rfl (by omega) sW ?_
  intro t z y hz ht' hst
  (conv=>whnf);repeat' (first|(apply AU;(· exact nA t (by omega) (by simp only[List.length_append,List.length_cons,List.length_take,List.length_drop];omega));conv=>whnf)|(apply Bh;(· exact tA (t) (by omega));conv=>whnf)|(refine kA ?_;conv=>whnf)|(refine Br.mk (fun hc=>?_) fun hc=>?_<;>first|exact hc.elim|conv=>whnf)|(refine kB ?_))
  refine hQ _ _ _ _ ((W.take t++y::W.drop t).set t a) ?_ (Or.inr ⟨by assumption,?_,?_⟩)
  ·simp only[List.length_set,List.length_append,List.length_cons,List.length_take,List.length_drop];omega
  ·rw[set_mid ht'];exact hst
  ·rw[set_mid ht']
   refine List.perm_middle.trans ?_
   rw[List.take_append_drop]
   exact List.perm_append_comm (l₁:=[a]) (l₂:=W)
 ·exact hQ _ _ _ _ W hn (Or.inl ⟨by assumption,rfl⟩)
theorem U7 {g:GG} (hg:g.ok) (hE:g.edges.length≤100) {types:List (List UInt8)} {tn:Bool} (ht:types.length<2^63) {id dir:Int}:
 Au (Ac tab) 23 [g.av,.int .i64 id,.sl tn (vs .str types),.int .i64 dir] (fun v=>∃nn W,v=.sl nn (vs Bc.av W)∧W.Perm (outs types id dir g.edges)∧DC W):=by
 refine Af rfl rfl ?_
 (conv=>whnf);repeat' (first|(refine kA ?_;conv=>whnf)|(refine Br.mk (fun hc=>?_) fun hc=>?_<;>first|exact hc.elim|conv=>whnf)  |(refine kB ?_))
 refine Ae (fun m env s=>∃(i c go n:Nat) (nn:Bool) (W:List Bc),m=g.edges.length-i∧i≤g.edges.length∧n=W.length∧W.Perm (outs types id dir (g.edges.take i))∧DC W∧env=[(1,.int .i64 id),(2,.sl tn (vs .str types)),(3,.int .i64 dir),(4,.ref 0 0 0 0),(9,.own 1 go 0 n),(10,.int .i64 i)]∧s=⟨[.arr 0 4 true true [g.av],.arr go 3 nn true (vs Bc.av W)],c⟩) ?_ _ _ _ ⟨0,_,_,_,_,[],rfl,by omega,rfl,by simp[outs],List.Pairwise.nil,rfl,rfl⟩
 rintro _ _ _ ⟨i,c,go,n,nn,W,rfl,hi,hn,hp,sW,rfl,rfl⟩
 refine⟨rfl,?_⟩
 have hWl:W.length≤i:=by
  have:=@Ii types id dir (g.edges.take i)
  rw[← hp.length_eq]at this
  rw[List.length_take]at this;omega
 by_cases hlt:i<g.edges.length
 ·have ho:=@QV types id dir g.edges i hlt
  cases hs:stepOf g.edges[i] id dir with
  |none=>
   refine AeA ht hlt hE hs ?_
   intro c'
   have e:outOf types id dir g.edges[i]=none:=by unfold outOf;rw[hs];split<;>rfl
   rw[e]at ho
   exact again.mk ⟨_,by omega,i+1,_,_,_,_,W,rfl,by omega,hn,by rw[ho];simpa using hp,sW,rfl,rfl⟩
  |some a=>
   refine AeB ht hlt hE hs hn hWl sW ?_
   intro c' go' n' nn' W' h1 h2
   rcases h2 with⟨h2,rfl⟩|⟨h2,h3,h4⟩
   ·have e:outOf types id dir g.edges[i]=none:=by unfold outOf;rw[if_neg h2]
    rw[e]at ho
    exact again.mk ⟨_,by omega,i+1,_,_,_,_,W',rfl,by omega,h1,by rw[ho];simpa using hp,sW,rfl,rfl⟩
   ·have e:outOf types id dir g.edges[i]=some a:=by unfold outOf;rw[if_pos h2,hs]
    rw[e]at ho
    exact again.mk ⟨_,by omega,i+1,_,_,_,_,W',rfl,by omega,h1,by rw[ho];exact h4.trans (List.Perm.append_right _ hp),h3,rfl,rfl⟩
 ·rw[List.take_of_length_le (by omega)]at hp
  (conv=>whnf);repeat' (first|(refine kA ?_;conv=>whnf)|(refine Br.mk (fun hc=>?_) fun hc=>?_<;>first|exact hc.elim|conv=>whnf)  |(refine kB ?_))
  subst hn
  exact⟨nn,W,by rw[uV],hp,sW⟩
end AI
end Go.Proofs.YthjeehjphekjmaaGreatDoor
