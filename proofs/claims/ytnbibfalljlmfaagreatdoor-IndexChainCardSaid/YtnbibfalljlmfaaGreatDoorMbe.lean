/- Sorting in place (CmpFunc[graphdb/api.Entry]): the whole. A sorted list without its repeated elements. Sorting (slices.SortFunc[[]graphdb/api.Entry,graphdb/api.Entry]), leaving out what repeats (none). Names in a list, increasing strings, labels and properties. What is wrong with labels and properties. -/
import Derived.Test.YtnbibfalljlmfaaGreatDoorMbd
import Derived.Test.YtnbibfalljlmfaaGreatDoorPqC
import Derived.Test.YtnbibfalljlmfaaGreatDoorMbc
import Derived.Test.YtnbibfalljlmfaaGreatDoorMba
set_option linter.unusedVariables false
set_option maxRecDepth 4000
namespace Go.Proofs.YtnbibfalljlmfaaGreatDoor
namespace AI
section
open Go.Sort
abbrev pqTop (ob0:Obj) (g len:Nat) (nn cl:Bool) (a b:Nat):Prop:=∀(c:Nat) (limit:Int) (d:Array GX),d.size=len→b≤len→a≤b→0≤limit→limit<2^62→Below ltT a b d→
  H6 (Dx tab) 117 [.own 1 g 0 len,.int .i64 a,.int .i64 b,.int .i64 limit,.fn 58 []] ⟨[ob0,.arr g 8 nn cl (vs GX.av d.toList)],c⟩ fun out s'=>∃c' D,out=.ok (.tup [])∧s'=⟨[ob0,.arr g 8 nn cl (vs GX.av D.toList)],c'⟩∧PermIn a b d D∧SortedIn ltT a b D
def pqsR1:Dw→Dw
  | .seq _ b=>b
  |c=>c
def pqsL1:Dw→Dw
  | .seq a _=>a
  |c=>c
def pqbl1:Dw→Dw
  | .block _ a=>a
  |c=>c
noncomputable def pqt1:Dw:=pqsR1 (pqsR1 (pqsR1 (pqbl1 AlS)))
noncomputable def pqt2:Dw:=pqsR1 (pqsR1 (pqsR1 pqt1))
noncomputable def pqt3:Dw:=pqsR1 pqt2
noncomputable def pqt4:Dw:=pqsR1 pqt3
abbrev pqInv (ob0:Obj) (g len:Nat) (nn cl:Bool) (a b:Nat) (d:Array GX) (m:Nat) (env:Env) (s:Sto):Prop:=
  ∃ (a' b' c:Nat) (limit:Int) (wb wp:Bool) (D:Array GX),m=b'-a'∧a'≤b'∧b'≤len∧b'-a'≤b-a∧0≤limit∧limit<2^62∧D.size=len∧Below ltT a' b' D∧(∀ R,PermIn a' b' D R→SortedIn ltT a' b' R→PermIn a b d R∧SortedIn ltT a b R)∧
    env=[(0,.own 1 g 0 len),(1,.int .i64 a'),(2,.int .i64 b'),(3,.int .i64 limit),(4,.fn 58 []),(10,.bool wb),(11,.bool wp)]∧s=⟨[ob0,.arr g 8 nn cl (vs GX.av D.toList)],c⟩
section
variable {ob0:Obj} {g len:Nat} {nn cl:Bool} {a b:Nat} {d:Array GX}
def pqEnd (ob0:Obj) (g len:Nat) (nn cl:Bool) (a b:Nat) (d:Array GX) (m:Nat):Je→Env→Sto→Prop:=
  AKa 1 (AUY AlK (again (pqInv ob0 g len nn cl a b d) m) (AKa 0 (APr a117 fun out s'=>∃c' D,out=.ok (.tup [])∧s'=⟨[ob0,.arr g 8 nn cl (vs GX.av D.toList)],c'⟩∧PermIn a b d D∧SortedIn ltT a b D)))
set_option maxHeartbeats 2000000 in
theorem pqtop4 {tl:Env} (hs:len<2^61) (ih:∀x y,y-x<b-a→pqTop ob0 g len nn cl x y) {a' b' c p:Nat} {limit:Int} {wb wp:Bool} {D:Array GX} (hab:a'+12<b') (hb:b'≤len) (hle:b'-a'≤b-a) (hlim:0≤limit) (VR:limit<2^62) (hD:D.size=len) (hB:Below ltT a' b' D)
    (hR:∀R,PermIn a' b' D R→SortedIn ltT a' b' R→PermIn a b d R∧SortedIn ltT a b R) (hp1:a'≤p) (hp2:p<b'):
    vC (Dx tab) pqt4 ([(0,.own 1 g 0 len),(1,.int .i64 a'),(2,.int .i64 b'),(3,.int .i64 limit),(4,.fn 58 []),(10,.bool wb),(11,.bool wp),(12,.int .i64 (b'-a':Nat)),(13,.int .i64 p)]++tl) ⟨[ob0,.arr g 8 nn cl (vs GX.av D.toList)],c⟩ (pqEnd ob0 g len nn cl a b d (b'-a')):=by
  unfold pqEnd
  (conv=>whnf);repeat' (first  |((with_reducible first|apply kN|apply kW|apply kX|apply kG|apply kQ);(· exact sd);conv=>whnf)|(refine DW.mk ?_ ?_<;>intro hc<;>(try rw[List.length_nil]at hc)<;>first|(exfalso;omega)|(exact absurd rfl hc)|conv=>whnf)|(refine CB ?_ ?_<;>intro hc<;>conv=>whnf))
  refine(pqpar hD hb hp1 hp2 hs).mono ?_
  rintro _ _ ⟨c1,rfl,rfl⟩
  generalize hx:partition ltT D a' b' p=R
  obtain⟨mid,ap,E⟩:=R
  obtain⟨m1,m2,hE,hBl,hBr,fl,fr⟩:=round_part AuE (partition_holds ltT) hp1 hp2 (by omega) hB hx
  dsimp only
  conv=>whnf
  apply Ez rfl
  (conv=>whnf);repeat' (first|(refine AgJ (b'-a') 8 (by omega) (by omega) ?_;conv=>whnf)|((with_reducible first|apply kN|apply kW|apply kX|apply kG|apply kQ);(· exact sd);conv=>whnf)|(refine DW.mk ?_ ?_<;>intro hc<;>(try rw[List.length_nil]at hc)<;>first|(exfalso;omega)|(exact absurd rfl hc)|conv=>whnf)|(refine CB ?_ ?_<;>intro hc<;>conv=>whnf))
  all_goals first
    | (refine(ih a' mid (by omega) _ limit E (by omega) (by omega) m1 hlim VR hBl).mono ?_
       rintro _ _ ⟨c2,L,rfl,rfl,q1,q2⟩
       obtain⟨hBL,fin⟩:=fl L q1 q2
       conv=>whnf
       apply Ez rfl
       (conv=>whnf);repeat' (first  |((with_reducible first|apply kN|apply kW|apply kX|apply kG|apply kQ);(· exact sd);conv=>whnf)|(refine DW.mk ?_ ?_<;>intro hc<;>(try rw[List.length_nil]at hc)<;>first|(exfalso;omega)|(exact absurd rfl hc)|conv=>whnf)|(refine CB ?_ ?_<;>intro hc<;>conv=>whnf))
       exact again.mk ⟨_,by omega,mid+1,b',_,limit,_,_,L,rfl,by omega,hb,by omega,hlim,VR,by rw[q1.1,hE,hD],hBL,fun R h1 h2=>hR R (fin R h1 h2).1 (fin R h1 h2).2,rfl,rfl⟩)
    | (refine(ih (mid+1) b' (by omega) _ limit E (by omega) hb (by omega) hlim VR hBr).mono ?_
       rintro _ _ ⟨c2,L,rfl,rfl,q1,q2⟩
       obtain⟨hBL,fin⟩:=fr L q1 q2
       conv=>whnf
       apply Ez rfl
       (conv=>whnf);repeat' (first  |((with_reducible first|apply kN|apply kW|apply kX|apply kG|apply kQ);(· exact sd);conv=>whnf)|(refine DW.mk ?_ ?_<;>intro hc<;>(try rw[List.length_nil]at hc)<;>first|(exfalso;omega)|(exact absurd rfl hc)|conv=>whnf)|(refine CB ?_ ?_<;>intro hc<;>conv=>whnf))
       exact again.mk ⟨_,by omega,a',mid,_,limit,_,_,L,rfl,by omega,by omega,by omega,hlim,VR,by rw[q1.1,hE,hD],hBL,fun R h1 h2=>hR R (fin R h1 h2).1 (fin R h1 h2).2,rfl,rfl⟩)
theorem pqtop3 {tl:Env} (hs:len<2^61) {a' b' c p:Nat} {limit:Int} {wb wp:Bool} {D:Array GX} {K:Env→Sto→Prop} {Q:Je→Env→Sto→Prop} (hab:a'+12<b') (hb:b'≤len) (hD:D.size=len) (hB:Below ltT a' b' D) (hp1:a'≤p) (hp2:p<b')
    (hK:∀tl,K ([(0,.own 1 g 0 len),(1,.int .i64 a'),(2,.int .i64 b'),(3,.int .i64 limit),(4,.fn 58 []),(10,.bool wb),(11,.bool wp),(12,.int .i64 (b'-a':Nat)),(13,.int .i64 p)]++tl) ⟨[ob0,.arr g 8 nn cl (vs GX.av D.toList)],c⟩)
    (hQ:∀c' mid (E:Array GX),a'<mid→mid≤b'→E.size=len→Below ltT mid b' E→(∀ R,PermIn mid b' E R→SortedIn ltT mid b' R→PermIn a' b' D R∧SortedIn ltT a' b' R)→
      Q (.exit 1) [(0,.own 1 g 0 len),(1,.int .i64 mid),(2,.int .i64 b'),(3,.int .i64 limit),(4,.fn 58 []),(10,.bool wb),(11,.bool wp)] ⟨[ob0,.arr g 8 nn cl (vs GX.av E.toList)],c'⟩):
    vC (Dx tab) (pqsL1 pqt3) ([(0,.own 1 g 0 len),(1,.int .i64 a'),(2,.int .i64 b'),(3,.int .i64 limit),(4,.fn 58 []),(10,.bool wb),(11,.bool wp),(12,.int .i64 (b'-a':Nat)),(13,.int .i64 p)]++tl) ⟨[ob0,.arr g 8 nn cl (vs GX.av D.toList)],c⟩ (AkT K Q):=by
  (conv=>whnf);repeat' (first|exact hK _|((with_reducible show Iw _ _ _);refine nPK (a'-1) ?_;conv=>whnf)|((with_reducible show Iw _ _ _);refine nPK (p) ?_;conv=>whnf)|(refine BM AUd ?_;rintro _ rfl;conv=>whnf)|(refine AWn (fun hc=>?_) (fun hc=>?_)<;>conv=>whnf)|((with_reducible first|apply kN|apply kW|apply kX|apply kG|apply kQ);(· exact sd);conv=>whnf)|(refine DW.mk ?_ ?_<;>intro hc<;>(try rw[List.length_nil]at hc)<;>first|(exfalso;omega)|(exact absurd rfl hc)|conv=>whnf)|(refine CB ?_ ?_<;>intro hc<;>conv=>whnf))
  refine(pqqeq hD hb hp1 hp2 hs).mono ?_
  rintro _ _ ⟨c1,rfl,rfl⟩
  generalize hx:partitionEqual ltT D a' b' p=R
  obtain⟨mid,E⟩:=R
  obtain⟨m1,m2,hE,hBr,fin⟩:=round_eq AuE (partitionEqual_holds ltT) (by omega) hp1 hp2 (by omega) hB hc hx
  dsimp only
  conv=>whnf
  apply Ez rfl
  (conv=>whnf);repeat' (first  |((with_reducible first|apply kN|apply kW|apply kX|apply kG|apply kQ);(· exact sd);conv=>whnf)|(refine DW.mk ?_ ?_<;>intro hc<;>(try rw[List.length_nil]at hc)<;>first|(exfalso;omega)|(exact absurd rfl hc)|conv=>whnf)|(refine CB ?_ ?_<;>intro hc<;>conv=>whnf))
  exact hQ _ mid E m1 m2 (by omega) hBr fin
theorem pqtop2 {tl:Env} (hs:len<2^61) {a' b' c p:Nat} {limit h:Int} {wb wp:Bool} {D:Array GX} {K:Env→Sto→Prop} {Q:Je→Env→Sto→Prop} (hab:a'+12<b') (hb:b'≤len) (hD:D.size=len) (hB:Below ltT a' b' D)
    (hK:∀tl c (E:Array GX),PermIn a' b' D E→K ([(0,.own 1 g 0 len),(1,.int .i64 a'),(2,.int .i64 b'),(3,.int .i64 limit),(4,.fn 58 []),(10,.bool wb),(11,.bool wp),(12,.int .i64 (b'-a':Nat)),(13,.int .i64 p)]++tl) ⟨[ob0,.arr g 8 nn cl (vs GX.av E.toList)],c⟩)
    (hQ:∀c (E:Array GX) env,PermIn a' b' D E→SortedIn ltT a' b' E→Q .ret env ⟨[ob0,.arr g 8 nn cl (vs GX.av E.toList)],c⟩):
    vC (Dx tab) (pqsL1 pqt2) ([(0,.own 1 g 0 len),(1,.int .i64 a'),(2,.int .i64 b'),(3,.int .i64 limit),(4,.fn 58 []),(10,.bool wb),(11,.bool wp),(12,.int .i64 (b'-a':Nat)),(13,.int .i64 p),(14,.int .i64 h)]++tl) ⟨[ob0,.arr g 8 nn cl (vs GX.av D.toList)],c⟩ (AkT K Q):=by
  (conv=>whnf);repeat' (first|exact hK _ _ _ (permIn_refl _ _ _)|((with_reducible first|apply kN|apply kW|apply kX|apply kG|apply kQ);(· exact sd);conv=>whnf)|(refine DW.mk ?_ ?_<;>intro hc<;>(try rw[List.length_nil]at hc)<;>first|(exfalso;omega)|(exact absurd rfl hc)|conv=>whnf)|(refine CB ?_ ?_<;>intro hc<;>conv=>whnf))
  refine(pqpart hD hb (by omega) hs).mono ?_
  rintro _ _ ⟨c1,rfl,rfl⟩
  have hp:=partialInsertionSort_holds AuE D a' b' (by omega) (by omega) hB
  generalize partialInsertionSort ltT D a' b'=R at hp
  obtain⟨E,r⟩:=R
  obtain⟨q1,q2⟩:=hp
  dsimp only at q1 q2 ⊢
  conv=>whnf
  apply Ez rfl
  cases r with
  | true=>
    (conv=>whnf);repeat' (first  |((with_reducible first|apply kN|apply kW|apply kX|apply kG|apply kQ);(· exact sd);conv=>whnf)|(refine DW.mk ?_ ?_<;>intro hc<;>(try rw[List.length_nil]at hc)<;>first|(exfalso;omega)|(exact absurd rfl hc)|conv=>whnf)|(refine CB ?_ ?_<;>intro hc<;>conv=>whnf))
    exact hQ _ E _ q1 (q2 rfl)
  | false=>
    (conv=>whnf);repeat' (first|exact hK _ _ _ q1|((with_reducible first|apply kN|apply kW|apply kX|apply kG|apply kQ);(· exact sd);conv=>whnf)|(refine DW.mk ?_ ?_<;>intro hc<;>(try rw[List.length_nil]at hc)<;>first|(exfalso;omega)|(exact absurd rfl hc)|conv=>whnf)|(refine CB ?_ ?_<;>intro hc<;>conv=>whnf))
theorem pqtop5 {tl:Env} (hs:len<2^61) {a' b' c p:Nat} {limit h:Int} {wb wp:Bool} {D:Array GX} {K:Env→Sto→Prop} {Q:Je→Env→Sto→Prop} (hab:a'+12<b') (hb:b'≤len) (hD:D.size=len) (hp1:a'≤p) (hp2:p<b')
    (hK:∀tl c (p:Nat) h (E:Array GX),PermIn a' b' D E→a'≤p→p<b'→K ([(0,.own 1 g 0 len),(1,.int .i64 a'),(2,.int .i64 b'),(3,.int .i64 limit),(4,.fn 58 []),(10,.bool wb),(11,.bool wp),(12,.int .i64 (b'-a':Nat)),(13,.int .i64 p),(14,.int .i64 h)]++tl) ⟨[ob0,.arr g 8 nn cl (vs GX.av E.toList)],c⟩):
    vC (Dx tab) (pqsL1 (pqsR1 (pqsR1 pqt1))) ([(0,.own 1 g 0 len),(1,.int .i64 a'),(2,.int .i64 b'),(3,.int .i64 limit),(4,.fn 58 []),(10,.bool wb),(11,.bool wp),(12,.int .i64 (b'-a':Nat)),(13,.int .i64 p),(14,.int .i64 h)]++tl) ⟨[ob0,.arr g 8 nn cl (vs GX.av D.toList)],c⟩ (AkT K Q):=by
  (conv=>whnf);repeat' (first|exact hK _ _ _ _ _ (permIn_refl _ _ _) hp1 hp2|((with_reducible first|apply kN|apply kW|apply kX|apply kG|apply kQ);(· exact sd);conv=>whnf)|(refine DW.mk ?_ ?_<;>intro hc<;>(try rw[List.length_nil]at hc)<;>first|(exfalso;omega)|(exact absurd rfl hc)|conv=>whnf)|(refine CB ?_ ?_<;>intro hc<;>conv=>whnf))
  refine(pqrev hD hb (by omega) hs).mono ?_
  rintro _ _ ⟨c1,E,rfl,rfl,q1⟩
  conv=>whnf
  apply Ez rfl
  have e:(b':Int)-1-((p:Int)-a')=((b'-1-(p-a'):Nat):Int):=by omega
  have hK':=fun tl=>hK tl c1 (b'-1-(p-a')) 1 E q1 (by omega) (by omega)
  rw[← e]at hK'
  (conv=>whnf);repeat' (first|exact hK' _|((with_reducible first|apply kN|apply kW|apply kX|apply kG|apply kQ);(· exact sd);conv=>whnf)|(refine DW.mk ?_ ?_<;>intro hc<;>(try rw[List.length_nil]at hc)<;>first|(exfalso;omega)|(exact absurd rfl hc)|conv=>whnf)|(refine CB ?_ ?_<;>intro hc<;>conv=>whnf))
theorem pqtop6 {tl:Env} (hs:len<2^61) {a' b' c:Nat} {limit:Int} {wb wp:Bool} {D:Array GX} {K:Env→Sto→Prop} {Q:Je→Env→Sto→Prop} (hab:a'+12<b') (hb:b'≤len) (hD:D.size=len)
    (hK:∀tl c (p:Nat) h,a'≤p→p<b'→K ([(0,.own 1 g 0 len),(1,.int .i64 a'),(2,.int .i64 b'),(3,.int .i64 limit),(4,.fn 58 []),(10,.bool wb),(11,.bool wp),(12,.int .i64 (b'-a':Nat)),(13,.int .i64 p),(14,.int .i64 h)]++tl) ⟨[ob0,.arr g 8 nn cl (vs GX.av D.toList)],c⟩):
    vC (Dx tab) (pqsL1 (pqsR1 pqt1)) ([(0,.own 1 g 0 len),(1,.int .i64 a'),(2,.int .i64 b'),(3,.int .i64 limit),(4,.fn 58 []),(10,.bool wb),(11,.bool wp),(12,.int .i64 (b'-a':Nat))]++tl) ⟨[ob0,.arr g 8 nn cl (vs GX.av D.toList)],c⟩ (AkT K Q):=by
  (conv=>whnf);repeat' (first  |((with_reducible first|apply kN|apply kW|apply kX|apply kG|apply kQ);(· exact sd);conv=>whnf)|(refine DW.mk ?_ ?_<;>intro hc<;>(try rw[List.length_nil]at hc)<;>first|(exfalso;omega)|(exact absurd rfl hc)|conv=>whnf)|(refine CB ?_ ?_<;>intro hc<;>conv=>whnf))
  refine(pqpiv hD hb hab hs).mono ?_
  rintro _ _ ⟨c1,p,h,ob,rfl,rfl,q1,q2⟩
  conv=>whnf
  apply Ez rfl
  (conv=>whnf);repeat' (first|exact hK _ _ _ _ q1 q2|((with_reducible first|apply kN|apply kW|apply kX|apply kG|apply kQ);(· exact sd);conv=>whnf)|(refine DW.mk ?_ ?_<;>intro hc<;>(try rw[List.length_nil]at hc)<;>first|(exfalso;omega)|(exact absurd rfl hc)|conv=>whnf)|(refine CB ?_ ?_<;>intro hc<;>conv=>whnf))
theorem pqtop7 {tl:Env} (hs:len<2^61) {a' b' c:Nat} {limit:Int} {wb wp:Bool} {D:Array GX} {K:Env→Sto→Prop} {Q:Je→Env→Sto→Prop} (hab:a'+12<b') (hb:b'≤len) (hD:D.size=len) (hlim:0<limit)
    (hK:∀tl c wb limit (E:Array GX),0≤limit→limit<2^62→PermIn a' b' D E→K ([(0,.own 1 g 0 len),(1,.int .i64 a'),(2,.int .i64 b'),(3,.int .i64 limit),(4,.fn 58 []),(10,.bool wb),(11,.bool wp),(12,.int .i64 (b'-a':Nat))]++tl) ⟨[ob0,.arr g 8 nn cl (vs GX.av E.toList)],c⟩) (VR:limit<2^62):
    vC (Dx tab) (pqsL1 pqt1) ([(0,.own 1 g 0 len),(1,.int .i64 a'),(2,.int .i64 b'),(3,.int .i64 limit),(4,.fn 58 []),(10,.bool wb),(11,.bool wp),(12,.int .i64 (b'-a':Nat))]++tl) ⟨[ob0,.arr g 8 nn cl (vs GX.av D.toList)],c⟩ (AkT K Q):=by
  cases wb with
  |true=>(conv=>whnf);repeat' (first|exact hK _ _ _ _ _ (by omega) (by omega) (permIn_refl _ _ _)|((with_reducible first|apply kN|apply kW|apply kX|apply kG|apply kQ);(· exact sd);conv=>whnf)|(refine DW.mk ?_ ?_<;>intro hc<;>(try rw[List.length_nil]at hc)<;>first|(exfalso;omega)|(exact absurd rfl hc)|conv=>whnf)|(refine CB ?_ ?_<;>intro hc<;>conv=>whnf))
  | false=>
    (conv=>whnf);repeat' (first  |((with_reducible first|apply kN|apply kW|apply kX|apply kG|apply kQ);(· exact sd);conv=>whnf)|(refine DW.mk ?_ ?_<;>intro hc<;>(try rw[List.length_nil]at hc)<;>first|(exfalso;omega)|(exact absurd rfl hc)|conv=>whnf)|(refine CB ?_ ?_<;>intro hc<;>conv=>whnf))
    refine(pqbrk hD hb hab hs).mono ?_
    rintro _ _ ⟨c1,E,ob,rfl,rfl,q1⟩
    conv=>whnf
    apply Ez rfl
    (conv=>whnf);repeat' (first|exact hK _ _ _ _ _ (by omega) (by omega) q1|((with_reducible first|apply kN|apply kW|apply kX|apply kG|apply kQ);(· exact sd);conv=>whnf)|(refine DW.mk ?_ ?_<;>intro hc<;>(try rw[List.length_nil]at hc)<;>first|(exfalso;omega)|(exact absurd rfl hc)|conv=>whnf)|(refine CB ?_ ?_<;>intro hc<;>conv=>whnf))
theorem pqtop8 {a' b' c:Nat} {limit:Int} {wb wp:Bool} {D:Array GX} {K:Env→Sto→Prop} {Q:Je→Env→Sto→Prop} (hs:len<2^61) (hab:a'≤b') (hb:b'≤len)
    (hK:∀tl,K ([(0,.own 1 g 0 len),(1,.int .i64 a'),(2,.int .i64 b'),(3,.int .i64 limit),(4,.fn 58 []),(10,.bool wb),(11,.bool wp),(12,.int .i64 (b'-a':Nat))]++tl) ⟨[ob0,.arr g 8 nn cl (vs GX.av D.toList)],c⟩):
    vC (Dx tab) (pqsL1 (pqbl1 AlS)) [(0,.own 1 g 0 len),(1,.int .i64 a'),(2,.int .i64 b'),(3,.int .i64 limit),(4,.fn 58 []),(10,.bool wb),(11,.bool wp)] ⟨[ob0,.arr g 8 nn cl (vs GX.av D.toList)],c⟩ (AkT K Q):=by
  rw[show ((b'-a':Nat):Int)=(b':Int)-a' by omega]at hK
  (conv=>whnf);repeat' (first|exact hK []|((with_reducible first|apply kN|apply kW|apply kX|apply kG|apply kQ);(· exact sd);conv=>whnf)|(refine DW.mk ?_ ?_<;>intro hc<;>(try rw[List.length_nil]at hc)<;>first|(exfalso;omega)|(exact absurd rfl hc)|conv=>whnf)|(refine CB ?_ ?_<;>intro hc<;>conv=>whnf))
theorem pqtop9 {tl:Env} (hs:len<2^61) {a' b' c:Nat} {limit:Int} {wb wp:Bool} {D:Array GX} {K:Env→Sto→Prop} {Q:Je→Env→Sto→Prop} (hab:a'≤b') (hb:b'≤len) (hD:D.size=len)
    (hK:∀tl c,a'+12<b'→K ([(0,.own 1 g 0 len),(1,.int .i64 a'),(2,.int .i64 b'),(3,.int .i64 limit),(4,.fn 58 []),(10,.bool wb),(11,.bool wp),(12,.int .i64 (b'-a':Nat))]++tl) ⟨[ob0,.arr g 8 nn cl (vs GX.av D.toList)],c⟩)
    (hQ:∀c (E:Array GX) env,PermIn a' b' D E→SortedIn ltT a' b' E→Q .ret env ⟨[ob0,.arr g 8 nn cl (vs GX.av E.toList)],c⟩):
    vC (Dx tab) (pqsL1 (pqsR1 (pqbl1 AlS))) ([(0,.own 1 g 0 len),(1,.int .i64 a'),(2,.int .i64 b'),(3,.int .i64 limit),(4,.fn 58 []),(10,.bool wb),(11,.bool wp),(12,.int .i64 (b'-a':Nat))]++tl) ⟨[ob0,.arr g 8 nn cl (vs GX.av D.toList)],c⟩ (AkT K Q):=by
  (conv=>whnf);repeat' (first|exact hK _ _ (by omega)|((with_reducible first|apply kN|apply kW|apply kX|apply kG|apply kQ);(· exact sd);conv=>whnf)|(refine DW.mk ?_ ?_<;>intro hc<;>(try rw[List.length_nil]at hc)<;>first|(exfalso;omega)|(exact absurd rfl hc)|conv=>whnf)|(refine CB ?_ ?_<;>intro hc<;>conv=>whnf))
  refine(pqins hD hb hs (by omega)).mono ?_
  rintro _ _ ⟨c1,rfl,rfl⟩
  conv=>whnf
  apply Ez rfl
  (conv=>whnf);repeat' (first  |((with_reducible first|apply kN|apply kW|apply kX|apply kG|apply kQ);(· exact sd);conv=>whnf)|(refine DW.mk ?_ ?_<;>intro hc<;>(try rw[List.length_nil]at hc)<;>first|(exfalso;omega)|(exact absurd rfl hc)|conv=>whnf)|(refine CB ?_ ?_<;>intro hc<;>conv=>whnf))
  obtain⟨q1,q2⟩:=insertionSort_holds AuE D a' b' hab (by omega)
  exact hQ _ _ _ q1 q2
theorem pqtop10 {tl:Env} (hs:len<2^61) {a' b' c:Nat} {limit:Int} {wb wp:Bool} {D:Array GX} {K:Env→Sto→Prop} {Q:Je→Env→Sto→Prop} (hab:a'+12<b') (hb:b'≤len) (hD:D.size=len) (hlim:0≤limit)
    (hK:∀tl c,0<limit→K ([(0,.own 1 g 0 len),(1,.int .i64 a'),(2,.int .i64 b'),(3,.int .i64 limit),(4,.fn 58 []),(10,.bool wb),(11,.bool wp),(12,.int .i64 (b'-a':Nat))]++tl) ⟨[ob0,.arr g 8 nn cl (vs GX.av D.toList)],c⟩)
    (hQ:∀c (E:Array GX) env,PermIn a' b' D E→SortedIn ltT a' b' E→Q .ret env ⟨[ob0,.arr g 8 nn cl (vs GX.av E.toList)],c⟩):
    vC (Dx tab) (pqsL1 (pqsR1 (pqsR1 (pqbl1 AlS)))) ([(0,.own 1 g 0 len),(1,.int .i64 a'),(2,.int .i64 b'),(3,.int .i64 limit),(4,.fn 58 []),(10,.bool wb),(11,.bool wp),(12,.int .i64 (b'-a':Nat))]++tl) ⟨[ob0,.arr g 8 nn cl (vs GX.av D.toList)],c⟩ (AkT K Q):=by
  (conv=>whnf);repeat' (first|exact hK _ _ (by omega)|((with_reducible first|apply kN|apply kW|apply kX|apply kG|apply kQ);(· exact sd);conv=>whnf)|(refine DW.mk ?_ ?_<;>intro hc<;>(try rw[List.length_nil]at hc)<;>first|(exfalso;omega)|(exact absurd rfl hc)|conv=>whnf)|(refine CB ?_ ?_<;>intro hc<;>conv=>whnf))
  refine(pqheap hD hb hs (by omega)).mono ?_
  rintro _ _ ⟨c1,rfl,rfl⟩
  conv=>whnf
  apply Ez rfl
  (conv=>whnf);repeat' (first  |((with_reducible first|apply kN|apply kW|apply kX|apply kG|apply kQ);(· exact sd);conv=>whnf)|(refine DW.mk ?_ ?_<;>intro hc<;>(try rw[List.length_nil]at hc)<;>first|(exfalso;omega)|(exact absurd rfl hc)|conv=>whnf)|(refine CB ?_ ?_<;>intro hc<;>conv=>whnf))
  obtain⟨q1,q2⟩:=heapSort_holds AuE D a' b' (by omega) (by omega)
  exact hQ _ _ _ q1 q2
theorem pqround (hs:len<2^61) (ih:∀x y,y-x<b-a→pqTop ob0 g len nn cl x y) {a' b' c:Nat} {limit:Int} {wb wp:Bool} {D:Array GX} (hab:a'≤b') (hb:b'≤len) (hle:b'-a'≤b-a) (hlim:0≤limit) (VR:limit<2^62) (hD:D.size=len) (hB:Below ltT a' b' D)
    (hR:∀R,PermIn a' b' D R→SortedIn ltT a' b' R→PermIn a b d R∧SortedIn ltT a b R):
    vC (Dx tab) (pqbl1 AlS) [(0,.own 1 g 0 len),(1,.int .i64 a'),(2,.int .i64 b'),(3,.int .i64 limit),(4,.fn 58 []),(10,.bool wb),(11,.bool wp)] ⟨[ob0,.arr g 8 nn cl (vs GX.av D.toList)],c⟩ (pqEnd ob0 g len nn cl a b d (b'-a')):=by
  have hret:∀c (E:Array GX) env,PermIn a b d E→SortedIn ltT a b E→pqEnd ob0 g len nn cl a b d (b'-a') .ret env ⟨[ob0,.arr g 8 nn cl (vs GX.av E.toList)],c⟩:=by
    intro c E env h1 h2
    unfold pqEnd
    conv=>whnf
    apply Ez rfl
    exact⟨_,E,rfl,rfl,h1,h2⟩
  refine YL (a:=pqsL1 (pqbl1 AlS)) (b:=pqsR1 (pqbl1 AlS)) (pqtop8 hs hab hb fun tl1=>?_)
  refine YL (a:=pqsL1 (pqsR1 (pqbl1 AlS))) (b:=pqsR1 (pqsR1 (pqbl1 AlS))) (pqtop9 hs hab hb hD (fun tl2 c2 h12=>?_) fun c E env h1 h2=>hret c E env (hR E h1 h2).1 (hR E h1 h2).2)
  refine YL (a:=pqsL1 (pqsR1 (pqsR1 (pqbl1 AlS)))) (b:=pqt1) (pqtop10 hs h12 hb hD hlim (fun tl3 c3 hl0=>?_) fun c E env h1 h2=>hret c E env (hR E h1 h2).1 (hR E h1 h2).2)
  refine YL (a:=pqsL1 pqt1) (b:=pqsR1 pqt1) (pqtop7 hs h12 hb hD hl0 (fun tl4 c4 wb4 AKl E4 hl4 Azk p4=>?_) VR)
  have hD4:E4.size=len:=by rw[p4.1,hD]
  refine YL (a:=pqsL1 (pqsR1 pqt1)) (b:=pqsR1 (pqsR1 pqt1)) (pqtop6 hs h12 hb hD4 fun tl5 c5 p h hp1 hp2=>?_)
  refine YL (a:=pqsL1 (pqsR1 (pqsR1 pqt1))) (b:=pqt2) (pqtop5 hs h12 hb hD4 hp1 hp2 fun tl6 c6 p6 h6 E6 q6 Azl Azm=>?_)
  have p6':=permIn_trans _ _ _ _ _ p4 q6
  have hD6:E6.size=len:=by rw[p6'.1,hD]
  have hB6:=hB.perm (by omega) p6'
  refine YL (a:=pqsL1 pqt2) (b:=pqt3) (pqtop2 hs h12 hb hD6 hB6 (fun tl7 c7 E7 q7=>?_) fun c E env h1 h2=>hret c E env (hR E (permIn_trans _ _ _ _ _ p6' h1) h2).1 (hR E (permIn_trans _ _ _ _ _ p6' h1) h2).2)
  have p7:=permIn_trans _ _ _ _ _ p6' q7
  have hD7:E7.size=len:=by rw[p7.1,hD]
  have hB7:=hB.perm (by omega) p7
  have hR7:∀R,PermIn a' b' E7 R→SortedIn ltT a' b' R→PermIn a b d R∧SortedIn ltT a b R:=fun R h1 h2=>hR R (permIn_trans _ _ _ _ _ p7 h1) h2
  refine YL (a:=pqsL1 pqt3) (b:=pqt4) (pqtop3 hs h12 hb hD7 hB7 Azl Azm (fun tl8=>pqtop4 hs ih h12 hb hle hl4 Azk hD7 hB7 hR7 Azl Azm) fun c' mid E m1 m2 hE hBE fin=>?_)
  unfold pqEnd
  conv=>whnf
  exact again.mk ⟨_,by omega,mid,b',_,AKl,_,_,E,rfl,by omega,hb,by omega,hl4,Azk,hE,hBE,fun R h1 h2=>hR7 R (fin R h1 h2).1 (fin R h1 h2).2,rfl,rfl⟩
end
theorem pqpdq {ob0:Obj} {g len:Nat} {nn cl:Bool} (hs:len<2^61):∀n a b,b-a≤n→pqTop ob0 g len nn cl a b:=by
  intro n
  induction n using Nat.strongRecOn with
  | ind n IH=>
    intro a b hn
    have ih:∀x y,y-x<b-a→pqTop ob0 g len nn cl x y:=fun x y h=>IH (y-x) (by omega) x y (Nat.le_refl _)
    clear IH hn
    intro c limit d hd hb hab hlim VR hB
    refine FH rfl rfl ?_
    (conv=>whnf);repeat' (first  |((with_reducible first|apply kN|apply kW|apply kX|apply kG|apply kQ);(· exact sd);conv=>whnf)|(refine DW.mk ?_ ?_<;>intro hc<;>(try rw[List.length_nil]at hc)<;>first|(exfalso;omega)|(exact absurd rfl hc)|conv=>whnf)|(refine CB ?_ ?_<;>intro hc<;>conv=>whnf))
    refine DK (pqInv ob0 g len nn cl a b d) ?_ _ _ _ ⟨a,b,_,limit,true,true,d,rfl,hab,hb,Nat.le_refl _,hlim,VR,hd,hB,fun R h1 h2=>⟨h1,h2⟩,rfl,rfl⟩
    rintro _ _ _ ⟨a',b',c,limit,wb,wp,D,rfl,hab',hb',hle,hlim,VR,hD,hB',hR,rfl,rfl⟩
    refine⟨rfl,?_⟩
    exact pqround hs ih hab' hb' hle hlim VR hD hB' hR
theorem pqsortQ {ob0:Obj} {g len c:Nat} {nn cl:Bool} {L:List GX} (hl:L.length=len) (hs:len<2^61) {limit:Int} (h0:0≤limit) (h1:limit<2^62):
    H6 (Dx tab) 117 [.own 1 g 0 len,.int .i64 0,.int .i64 len,.int .i64 limit,.fn 58 []] ⟨[ob0,.arr g 8 nn cl (vs GX.av L)],c⟩ fun out s'=>∃c' W,out=.ok (.tup [])∧s'=⟨[ob0,.arr g 8 nn cl (vs GX.av W)],c'⟩∧W.Perm L∧W.Pairwise (fun x y=>ltT y x=false):=by
  have:=pqpdq (ob0:=ob0) (g:=g) (nn:=nn) (cl:=cl) hs len 0 len (by omega) c limit L.toArray (by simpa using hl) (Nat.le_refl _) (by omega) h0 h1 (Or.inl rfl)
  refine this.mono ?_
  rintro _ _ ⟨c',D,rfl,rfl,p1,p2⟩
  refine⟨c',D.toList,rfl,rfl,ABn hl p1,AyH (by rw[p1.1];simpa using hl) p2⟩
end
section
open Go.Sort
theorem clr {C:AWD} {es o g off n:Nat} {nn cl:Bool} {x:AO} {env:Env} {σ:List Obj} {c:Nat} {elems:List AV} (hx:x.val env=.own o g off n) (ho:nth σ o=some (.arr g es nn cl elems)) (h:off+n≤elems.length) (hn:n≠0):
    AU0 C (.clear es x) env ⟨σ,c⟩=some (.ok .undef,⟨σ.set o (.arr g es nn cl (elems.take off)),c⟩):=by
  simp[AU0,hx,ho,h,hn]
section
variable {α:Type} [Inhabited α]
theorem nPn {f:α→AV} {d:Array α} {m:Nat} (i:Nat) (hm:m=i) (h:i<d.size):nth (vs f d.toList) m=some (f d[i]!):=by
  subst hm
  have:=nP (f:=f) (d:=d) (z:=(m:Int)) m rfl h
  exact this
open Classical in
noncomputable def cpn (d:Array α):Nat→List α
  |0=>[]
  |n+1=>if 0<n∧d[n]! =d[n-1]! then cpn d n else cpn d n++[d[n]!]
theorem Ag3 {d:Array α} {n:Nat} (h0:0<n) (h:d[n]! =d[n-1]!):cpn d (n+1)=cpn d n:=if_pos ⟨h0,h⟩
theorem Alu {d:Array α} {n:Nat} (h:0<n→¬d[n]! =d[n-1]!):cpn d (n+1)=cpn d n++[d[n]!]:=if_neg fun h1=>h h1.1 h1.2
theorem Aup (d:Array α):∀n,(cpn d n).length≤n
  |0=>by simp[cpn]
  | n+1=>by
    have:=Aup d n
    unfold cpn
    split
    · omega
    · simp;omega
theorem Auo {d:Array α}:∀n,n≤d.size→(∀ j,0<j→j<n→¬d[j]! =d[j-1]!)→cpn d n=d.toList.take n
  |0,_,_=>by simp[cpn]
  | n+1,hn,h=>by
    rw[Alu (fun h0=>h n h0 (by omega)),Auo n (by omega) fun j h0 hj=>h j h0 (by omega),List.take_succ_eq_append_getElem (by simp;omega)]
    congr 2
    rw[getElem!_pos d n (by omega)]
    simp
theorem Aih {d:Array α} {x:α}:∀n,n≤d.size→(x∈cpn d n↔x∈d.toList.take n)
  |0,_=>by simp[cpn]
  | n +1,hn=>by
    have e:d[n]! =d.toList[n]'(by simp;omega):=by rw[getElem!_pos d n (by omega)];simp
    rw[List.take_succ_eq_append_getElem (by simp;omega),List.mem_append,List.mem_singleton,←e]
    by_cases h:0<n∧d[n]! =d[n-1]!
    · rw[Ag3 h.1 h.2,Aih n (by omega)]
      refine⟨Or.inl,fun h1=>h1.elim id ?_⟩
      rintro rfl
      rw[h.2,getElem!_pos d (n-1) (by omega)]
      rw[List.mem_take_iff_getElem]
      exact⟨n-1,by simp;omega,by simp⟩
    · rw[Alu (fun h0 h1=>h ⟨h0,h1⟩),List.mem_append,List.mem_singleton,Aih n (by omega)]
theorem Aun {lt:α→α→Bool} (hS:SWO lt) (htot:∀x y,lt x y=false→lt y x=false→x=y) {d:Array α} (hs:SortedIn lt 0 d.size d):∀n,n≤d.size→(cpn d n).Pairwise (fun x y=>lt x y=true)
  |0,_=>by simp[cpn]
  | n + 1,hn=>by
    have ih:=Aun hS htot hs n (by omega)
    by_cases h:0<n∧d[n]! =d[n-1]!
    · rw[Ag3 h.1 h.2];exact ih
    · rw[Alu (fun h0 h1=>h ⟨h0,h1⟩)]
      refine List.pairwise_append.2 ⟨ih,List.pairwise_singleton ..,fun x hx y hy=>?_⟩
      obtain rfl:=List.mem_singleton.1 hy
      rw[Aih n (by omega),List.mem_take_iff_getElem]at hx
      obtain⟨j,hj,rfl⟩:=hx
      simp only[Array.length_toList]at hj
      have ej:d.toList[j]'(by simp;omega)=d[j]!:=by rw[getElem!_pos d j (by omega)];simp
      rw[ej]
      cases hc:lt d[j]! d[n]! with
      |true=>rfl
      | false=>
        exfalso
        have h1:=hs j n (by omega) (by omega) (by omega)
        have e1:=htot _ _ hc h1
        refine h ⟨by omega,?_⟩
        rcases Nat.lt_or_ge j (n-1)with h2|h2
        · have h3:=hs j (n-1) (by omega) h2 (by omega)
          have h4:=hs (n-1) n (by omega) (by omega) (by omega)
          rw[e1]at h3
          exact htot _ _ h4 h3
        · obtain rfl:j=n-1:=by omega
          exact e1.symm
omit [Inhabited α]in
theorem AbT {lt:α→α→Bool} (hS:SWO lt):∀{a b:List α},a.Pairwise (fun x y=>lt x y=true)→b.Pairwise (fun x y=>lt x y=true)→(∀ x,x∈a↔x∈b)→a=b
  |[],[],_,_,_=>rfl
  |[],y::b,_,_,h=>absurd ((h y).2 (List.mem_cons_self ..)) (by simp)
  |x::a,[],_,_,h=>absurd ((h x).1 (List.mem_cons_self ..)) (by simp)
  | x ::a,y::b,ha,hb,h=>by
    have ha':=List.pairwise_cons.1 ha
    have hb':=List.pairwise_cons.1 hb
    have hxy:x=y:=by
      rcases List.mem_cons.1 ((h x).1 (List.mem_cons_self ..))with e|hx
      · exact e
      rcases List.mem_cons.1 ((h y).2 (List.mem_cons_self ..))with e|hy
      · exact e.symm
      have:=hS.trans _ _ _ (ha'.1 y hy) (hb'.1 x hx)
      rw[hS.irrefl]at this;cases this
    subst hxy
    rw[AbT hS ha'.2 hb'.2 fun z=>?_]
    have hn1:x∉a:=fun h1=>by have:=ha'.1 x h1;rw[hS.irrefl]at this;cases this
    have hn2:x∉b:=fun h1=>by have:=hb'.1 x h1;rw[hS.irrefl]at this;cases this
    have:=h z
    simp only[List.mem_cons]at this
    constructor
    · intro hz
      rcases this.1 (Or.inr hz)with rfl|h2
      · exact absurd hz hn1
      · exact h2
    · intro hz
      rcases this.2 (Or.inr hz)with rfl|h2
      · exact absurd hz hn2
      · exact h2
end
end
section
open Go.Sort
theorem AVF {ob0:Obj} {g len c:Nat} {nn cl:Bool} {L:List GX} (hl:L.length=len) (hs:len<2^61):
    H6 (Dx tab) 65 [.own 1 g 0 len,.fn 58 []] ⟨[ob0,.arr g 8 nn cl (vs GX.av L)],c⟩ fun out s'=>∃c' W,out=.ok (.tup [])∧s'=⟨[ob0,.arr g 8 nn cl (vs GX.av W)],c'⟩∧W.Perm L∧W.Pairwise (fun x y=>ltT y x=false):=by
  have hb:bitsLen len≤62:=(bitsLen_le_iff len 62).2 (by omega)
  refine FH rfl rfl ?_
  (conv=>whnf);repeat' (first|(refine wrapN len rfl rfl (by show _<2^64;omega) ?_;conv=>whnf)|(refine BM (Azn (n:=len) (by omega)) ?_;rintro _ rfl;conv=>whnf)|((with_reducible first|apply kN|apply kW|apply kX|apply kG|apply kQ);(· exact sd);conv=>whnf)|(refine DW.mk ?_ ?_<;>intro hc<;>(try rw[List.length_nil]at hc)<;>first|(exfalso;omega)|(exact absurd rfl hc)|conv=>whnf)|(refine CB ?_ ?_<;>intro hc<;>conv=>whnf))
  refine(pqsortQ hl hs (by omega) (by omega)).mono ?_
  rintro _ _ ⟨c',W,rfl,rfl,h1,h2⟩
  conv=>whnf
  apply Ez rfl
  (conv=>whnf);repeat' (first  |((with_reducible first|apply kN|apply kW|apply kX|apply kG|apply kQ);(· exact sd);conv=>whnf)|(refine DW.mk ?_ ?_<;>intro hc<;>(try rw[List.length_nil]at hc)<;>first|(exfalso;omega)|(exact absurd rfl hc)|conv=>whnf)|(refine CB ?_ ?_<;>intro hc<;>conv=>whnf))
  exact⟨_,W,rfl,rfl,h1,h2⟩
end
def allNames (l:List (List UInt8)):Prop:=∀s∈l,isName s
noncomputable instance (l:List (List UInt8)):Decidable (allNames l):=Classical.propDecidable _
def rises (l:List (List UInt8)):Prop:=∀j (h:j+1<l.length),(Op.bytesLess l[j+1] l[j]||l[j+1]==l[j])=false
noncomputable instance (l:List (List UInt8)):Decidable (rises l):=Classical.propDecidable _
theorem unn {s:List UInt8} (hl:s.length<2^63):D8 (Dx tab) 130 [.str s] (· =.bool (decide (¬ isName s))):=by
  refine Lu rfl rfl ?_
  (conv=>whnf);repeat' (first|((with_reducible first|apply kN|apply kW|apply kX|apply kG|apply kQ);(· exact sd);conv=>whnf)|(refine DW.mk ?_ ?_<;>intro hc<;>(try rw[List.length_nil]at hc)<;>first|(exfalso;omega)|(exact absurd rfl hc)|conv=>whnf)|(refine KH (name1 hl) (fun hr=>?_) (fun hr=>?_)<;>conv=>whnf)|(refine CB ?_ ?_<;>intro hc<;>conv=>whnf))
  · exact Hf (fun h=>h hr)
  · exact Lp hr
theorem idxUn {l:List (List UInt8)} {nn:Bool} (hl:l.length<2^63) (hs:∀s∈l,s.length<2^63):D8 (Dx tab) 208 [.sl nn (vs .str l),.fn 130 []] (fun v=>∃z,v=.int .i64 z∧(0≤z↔¬allNames l)):=by
  refine Lu rfl rfl ?_
  (conv=>whnf);repeat' (first|((with_reducible first|apply kN|apply kW|apply kX|apply kG|apply kQ);(· exact sd);conv=>whnf)|(refine DW.mk ?_ ?_<;>intro hc<;>(try rw[List.length_nil]at hc)<;>first|(exfalso;omega)|(exact absurd rfl hc)|conv=>whnf)  |(refine CB ?_ ?_<;>intro hc<;>conv=>whnf))
  refine DK (fun m env s=>∃i:Nat,m=l.length-i∧env=[(0,.sl nn (vs .str l)),(1,.fn 130 []),(7,.int .i64 l.length),(8,.int .i64 i)]∧s=⟨[],0⟩∧∀s∈l.take i,isName s) ?_ _ _ _ ⟨0,rfl,by simp,rfl,by simp⟩
  rintro _ _ _ ⟨i,rfl,rfl,rfl,hx⟩
  refine⟨rfl,?_⟩
  (conv=>whnf);repeat' (first|((with_reducible first|apply kN|apply kW|apply kX|apply kG|apply kQ);(· exact sd);conv=>whnf)|(refine DW.mk ?_ ?_<;>intro hc<;>(try rw[List.length_nil]at hc)<;>first|(exfalso;omega)|(exact absurd rfl hc)|conv=>whnf)|(refine KH (unn (hs _ (List.getElem_mem (by omega)))) (fun hr=>?_) (fun hr=>?_)<;>conv=>whnf)|(refine CB ?_ ?_<;>intro hc<;>conv=>whnf))
  · exact⟨_,rfl,fun _ h=>hr (h _ (List.getElem_mem _)),fun _=>by omega⟩
  · exact again.mk ⟨_,by omega,i+1,rfl,rfl,rfl,AfD (by omega) hx (Decidable.of_not_not hr)⟩
  · rw[TP hc]at hx;exact⟨_,rfl,fun h=>absurd h (by omega),fun h=>absurd hx h⟩
theorem contUn {l:List (List UInt8)} {nn:Bool} (hl:l.length<2^63) (hs:∀s∈l,s.length<2^63):D8 (Dx tab) 129 [.sl nn (vs .str l),.fn 130 []] (· =.bool (decide (¬ allNames l))):=by
  refine Lu rfl rfl ?_
  (conv=>whnf);repeat' (first|((with_reducible first|apply kN|apply kW|apply kX|apply kG|apply kQ);(· exact sd);conv=>whnf)|(refine DW.mk ?_ ?_<;>intro hc<;>(try rw[List.length_nil]at hc)<;>first|(exfalso;omega)|(exact absurd rfl hc)|conv=>whnf)  |(refine CB ?_ ?_<;>intro hc<;>conv=>whnf))
  refine BM (idxUn hl hs) ?_
  rintro _ ⟨z,rfl,hz⟩
  (conv=>whnf);repeat' (first|((with_reducible first|apply kN|apply kW|apply kX|apply kG|apply kQ);(· exact sd);conv=>whnf)|(refine DW.mk ?_ ?_<;>intro hc<;>(try rw[List.length_nil]at hc)<;>first|(exfalso;omega)|(exact absurd rfl hc)|conv=>whnf)  |(refine CB ?_ ?_<;>intro hc<;>conv=>whnf))
  · exact Lp (hz.1 hc)
  · exact Hf (mt hz.2 hc)
theorem namesR {l:List (List UInt8)} {nn:Bool} (hl:l.length<2^63) (hs:∀s∈l,s.length<2^63):D8 (Dx tab) 119 [.sl nn (vs .str l)] (· =.bool (decide (allNames l))):=by
  refine Lu rfl rfl ?_
  (conv=>whnf);repeat' (first|((with_reducible first|apply kN|apply kW|apply kX|apply kG|apply kQ);(· exact sd);conv=>whnf)|(refine DW.mk ?_ ?_<;>intro hc<;>(try rw[List.length_nil]at hc)<;>first|(exfalso;omega)|(exact absurd rfl hc)|conv=>whnf)  |(refine CB ?_ ?_<;>intro hc<;>conv=>whnf))
  refine DK (fun m env s=>∃i:Nat,m=l.length-i∧env=[(0,.sl nn (vs .str l)),(3,.int .i64 i)]∧s=⟨[],0⟩∧∀s∈l.take i,isName s) ?_ _ _ _ ⟨0,rfl,rfl,rfl,by simp⟩
  rintro _ _ _ ⟨i,rfl,rfl,rfl,hx⟩
  refine⟨rfl,?_⟩
  (conv=>whnf);repeat' (first|((with_reducible first|apply kN|apply kW|apply kX|apply kG|apply kQ);(· exact sd);conv=>whnf)|(refine DW.mk ?_ ?_<;>intro hc<;>(try rw[List.length_nil]at hc)<;>first|(exfalso;omega)|(exact absurd rfl hc)|conv=>whnf)|(refine KH (name2 (hs _ (List.getElem_mem (by omega)))) (fun hr=>?_) (fun hr=>?_)<;>conv=>whnf)|(refine CB ?_ ?_<;>intro hc<;>conv=>whnf))
  · exact again.mk ⟨_,by omega,i+1,rfl,rfl,rfl,AfD (by omega) hx hr⟩
  · exact Hf fun h=>hr (h _ (List.getElem_mem _))
  · rw[TP hc]at hx;exact Lp hx
theorem rises1 {l:List (List UInt8)} {nn:Bool} (hl:l.length<2^63):D8 (Dx tab) 131 [.sl nn (vs .str l)] (· =.bool (decide (rises l))):=by
  refine Lu rfl rfl ?_
  (conv=>whnf);repeat' (first|((with_reducible first|apply kN|apply kW|apply kX|apply kG|apply kQ);(· exact sd);conv=>whnf)|(refine DW.mk ?_ ?_<;>intro hc<;>(try rw[List.length_nil]at hc)<;>first|(exfalso;omega)|(exact absurd rfl hc)|conv=>whnf)  |(refine CB ?_ ?_<;>intro hc<;>conv=>whnf))
  refine DK (fun m env s=>∃i:Nat,m=l.length-i∧env=[(0,.sl nn (vs .str l)),(3,.int .i64 (i+1:Nat))]∧s=⟨[],0⟩∧∀j (h:j+1<l.length),j<i→(Op.bytesLess l[j+1] l[j]||l[j+1]==l[j])=false) ?_ _ _ _ ⟨0,rfl,rfl,rfl,fun j _ h=>absurd h (by omega)⟩
  rintro _ _ _ ⟨i,rfl,rfl,rfl,hx⟩
  refine⟨rfl,?_⟩
  (conv=>whnf);repeat' (first|((with_reducible first|apply kN|apply kW|apply kX|apply kG|apply kQ);(· exact sd);conv=>whnf)|(refine DW.mk ?_ ?_<;>intro hc<;>(try rw[List.length_nil]at hc)<;>first|(exfalso;omega)|(exact absurd rfl hc)|conv=>whnf)|(apply LX;(· exact nVz i (by omega) (by omega));conv=>whnf)|(refine CB ?_ ?_<;>intro hc<;>conv=>whnf))
  · exact Hf fun h=>by simp only[show (((i+1:Nat):Int)-1).toNat=i by omega]at hc;rw[h i (by omega)]at hc;cases hc
  · simp only[show (((i+1:Nat):Int)-1).toNat=i by omega]at hc
    exact again.mk ⟨_,by omega,i+1,rfl,rfl,rfl,fun j h hj=>by
      by_cases e:j=i
      · subst e;simpa using hc
      · exact hx j h (by omega)⟩
  · exact Lp fun j h=>hx j h (by omega)
theorem rises2 {l:List (List UInt8)} {nn:Bool} (hl:l.length<2^63):D8 (Dx tab) 120 [.sl nn (vs .str l)] (· =.bool (decide (rises l))):=by
  refine Lu rfl rfl ?_
  (conv=>whnf);repeat' (first|((with_reducible first|apply kN|apply kW|apply kX|apply kG|apply kQ);(· exact sd);conv=>whnf)|(refine DW.mk ?_ ?_<;>intro hc<;>(try rw[List.length_nil]at hc)<;>first|(exfalso;omega)|(exact absurd rfl hc)|conv=>whnf)  |(refine CB ?_ ?_<;>intro hc<;>conv=>whnf))
  refine DK (fun m env s=>∃i:Nat,m=l.length-i∧env=[(0,.sl nn (vs .str l)),(3,.int .i64 (i+1:Nat))]∧s=⟨[],0⟩∧∀j (h:j+1<l.length),j<i→(Op.bytesLess l[j+1] l[j]||l[j+1]==l[j])=false) ?_ _ _ _ ⟨0,rfl,rfl,rfl,fun j _ h=>absurd h (by omega)⟩
  rintro _ _ _ ⟨i,rfl,rfl,rfl,hx⟩
  refine⟨rfl,?_⟩
  (conv=>whnf);repeat' (first|((with_reducible first|apply kN|apply kW|apply kX|apply kG|apply kQ);(· exact sd);conv=>whnf)|(refine DW.mk ?_ ?_<;>intro hc<;>(try rw[List.length_nil]at hc)<;>first|(exfalso;omega)|(exact absurd rfl hc)|conv=>whnf)|(apply LX;(· exact nVz i (by omega) (by omega));conv=>whnf)|(refine CB ?_ ?_<;>intro hc<;>conv=>whnf))
  · exact Hf fun h=>by simp only[show (((i+1:Nat):Int)-1).toNat=i by omega]at hc;rw[h i (by omega)]at hc;cases hc
  · simp only[show (((i+1:Nat):Int)-1).toNat=i by omega]at hc
    exact again.mk ⟨_,by omega,i+1,rfl,rfl,rfl,fun j h hj=>by
      by_cases e:j=i
      · subst e;simpa using hc
      · exact hx j h (by omega)⟩
  · exact Lp fun j h=>hx j h (by omega)
theorem apVS {g len:Nat} {nn cl:Bool} {l:List (List UInt8)} {x:List UInt8} {bytes:Nat} {K:Nat→Bool→Bool→List AV→Prop} (hl:len=l.length) (hr:(l.length+1)*bytes≤2 ^ 46) (h:K (len+1) true cl (vs .str (l++[x]))):
    Aya g g 1 1 len nn cl true (vs .str l) [.str x] bytes K:=by
  subst hl
  refine⟨⟨rfl,rfl,by simp,allSize_one rfl,hr⟩,?_⟩
  rw[snoc_vs,Bool.and_true]
  simpa using h
def keysOf (P:List GP):List (List UInt8):=P.map GP.key
@[simp] theorem PO (P:List GP):(keysOf P).length=P.length:=by simp[keysOf]
theorem keysOf_ln {P:List GP} (hp:∀p∈P,p.ok):∀s∈keysOf P,s.length<2^63:=by
  intro s h
  obtain⟨p,h1,rfl⟩:=List.mem_map.1 h
  exact(hp p h1).1
theorem keysOf_snoc {P:List GP} {i:Nat} (h:i<P.length):keysOf (P.take i)++[(P[i]).key]=keysOf (P.take (i+1)):=by
  rw[List.take_succ_eq_append_getElem h];unfold keysOf;rw[List.map_append];rfl
def allPlain (P:List GP):Prop:=∀p∈P,AjD p.v
noncomputable instance (P:List GP):Decidable (allPlain P):=Classical.propDecidable _
noncomputable def Ap6 (L:List (List UInt8)) (P:List GP):Int:=
  if 8<L.length∨16<P.length then 4 else if¬(allNames L∧allNames (keysOf P))then 6 else if¬(rises L∧rises (keysOf P))then 26 else if¬allPlain P then 8 else 0
theorem AT7 {L:List (List UInt8)} {P:List GP} (h:8<L.length∨16<P.length):AV.int .i64 4=AV.int .i64 (Ap6 L P):=by rw[Ap6,if_pos h]
theorem AT8 {L:List (List UInt8)} {P:List GP} (h:¬(8<L.length∨16<P.length)) (h1:¬(allNames L∧allNames (keysOf P))):AV.int .i64 6=AV.int .i64 (Ap6 L P):=by rw[Ap6,if_neg h,if_pos h1]
theorem AQW {L:List (List UInt8)} {P:List GP} (h:¬(8<L.length∨16<P.length)) (h1:allNames L∧allNames (keysOf P)) (h2:¬(rises L∧rises (keysOf P))):AV.int .i64 26=AV.int .i64 (Ap6 L P):=by rw[Ap6,if_neg h,if_neg (not_not_intro h1),if_pos h2]
theorem AT9 {L:List (List UInt8)} {P:List GP} (h:¬(8<L.length∨16<P.length)) (h1:allNames L∧allNames (keysOf P)) (h2:rises L∧rises (keysOf P)) (h3:¬allPlain P):AV.int .i64 8=AV.int .i64 (Ap6 L P):=by rw[Ap6,if_neg h,if_neg (not_not_intro h1),if_neg (not_not_intro h2),if_pos h3]
theorem parts_0 {L:List (List UInt8)} {P:List GP} (h:¬(8<L.length∨16<P.length)) (h1:allNames L∧allNames (keysOf P)) (h2:rises L∧rises (keysOf P)) (h3:allPlain P):AV.int .i64 0=AV.int .i64 (Ap6 L P):=by rw[Ap6,if_neg h,if_neg (not_not_intro h1),if_neg (not_not_intro h2),if_neg (not_not_intro h3)]
theorem AVQ {L:List (List UInt8)} {P:List GP} {ln pn:Bool} (hL:L.length<2^63) (hs:∀s∈L,s.length<2^63) (hP:P.length<2^63) (hp:∀p∈P,p.ok):D8 (Dx tab) 71 [.sl ln (vs .str L),.sl pn (vs GP.av P)] (· =.int .i64 (Ap6 L P)):=by
  have hk:=keysOf_ln hp
  refine Lu rfl rfl ?_
  (conv=>whnf);repeat' (first|((with_reducible first|apply kN|apply kW|apply kX|apply kG|apply kQ);(· exact sd);conv=>whnf)|(refine DW.mk ?_ ?_<;>intro hc<;>(try rw[List.length_nil]at hc)<;>first|(exfalso;omega)|(exact absurd rfl hc)|conv=>whnf)  |(refine CB ?_ ?_<;>intro hc<;>conv=>whnf))
  · exact AT7 (by omega)
  · exact AT7 (by omega)
  have h16:¬(8<L.length∨16<P.length):=by omega
  refine DK (fun m env s=>∃(i g:Nat),m=P.length-i∧i≤P.length∧env=[(0,.sl ln (vs .str L)),(1,.sl pn (vs GP.av P)),(5,.own 0 g 0 i),(18,.sl pn (vs GP.av P)),(19,.int .i64 P.length),(20,.int .i64 i)]∧∃nn c,s=⟨[.arr g 1 nn true (vs .str (keysOf (P.take i)))],c⟩) ?_ _ _ _ ⟨0,0,rfl,by omega,rfl,_,_,rfl⟩
  rintro _ _ _ ⟨i,g,rfl,hi,rfl,nn,c,rfl⟩
  refine⟨rfl,?_⟩
  (conv=>whnf);repeat' (first|((with_reducible first|apply kN|apply kW|apply kX|apply kG|apply kQ);(· exact sd);conv=>whnf)|(refine DW.mk ?_ ?_<;>intro hc<;>(try rw[List.length_nil]at hc)<;>first|(exfalso;omega)|(exact absurd rfl hc)|conv=>whnf)  |(refine CB ?_ ?_<;>intro hc<;>conv=>whnf))
  · refine apVS (by simp;omega) (by simp;omega) ?_
    (conv=>whnf);repeat' (first|((with_reducible first|apply kN|apply kW|apply kX|apply kG|apply kQ);(· exact sd);conv=>whnf)|(refine DW.mk ?_ ?_<;>intro hc<;>(try rw[List.length_nil]at hc)<;>first|(exfalso;omega)|(exact absurd rfl hc)|conv=>whnf)  |(refine CB ?_ ?_<;>intro hc<;>conv=>whnf))
    rw[keysOf_snoc (by omega)]
    exact again.mk ⟨_,by omega,i+1,_,rfl,by omega,rfl,_,_,rfl⟩
  · rw[TP hc]
    obtain rfl:i=P.length:=by omega
    have hu:sub (vs AV.str (keysOf P)) 0 P.length=vs .str (keysOf P):=by rw[← PO P];exact uV
    have hkl:(keysOf P).length<2^63:=by rw[PO];exact hP
    (conv=>whnf);repeat' (first|(refine KH (contUn hL hs) (fun h1=>?_) (fun h1=>?_)<;>conv=>whnf)|(rw [hu];refine KH (contUn hkl hk) (fun h2=>?_) (fun h2=>?_)<;>conv=>whnf)|(refine KH (rises1 hL) (fun h3=>?_) (fun h3=>?_)<;>conv=>whnf)|(rw [hu];refine KH (rises1 hkl) (fun h4=>?_) (fun h4=>?_)<;>conv=>whnf)|((with_reducible first|apply kN|apply kW|apply kX|apply kG|apply kQ);(· exact sd);conv=>whnf)|(refine DW.mk ?_ ?_<;>intro hc<;>(try rw[List.length_nil]at hc)<;>first|(exfalso;omega)|(exact absurd rfl hc)|conv=>whnf)|(refine CB ?_ ?_<;>intro hc<;>conv=>whnf))
    · exact AT8 h16 fun h=>h1 h.1
    · exact AT8 h16 fun h=>h2 h.2
    · refine DK (fun m env s=>∃(i:Nat),m=P.length-i∧env=[(44,.sl pn (vs GP.av P)),(45,.int .i64 P.length),(46,.int .i64 i)]∧(∃ c,s=⟨[.arr g 1 nn true (vs .str (keysOf P))],c⟩)∧∀p∈P.take i,AjD p.v) ?_ _ _ _ ⟨0,rfl,rfl,⟨_,rfl⟩,by simp⟩
      clear hc hi
      rintro _ _ _ ⟨i,rfl,rfl,⟨c,rfl⟩,hx⟩
      refine⟨rfl,?_⟩
      (conv=>whnf);repeat' (first|(refine KH (plain1 (v:=(P[i]).v) (hp _ (List.getElem_mem (by omega))).2) (fun h5=>?_) (fun h5=>?_)<;>conv=>whnf)|((with_reducible first|apply kN|apply kW|apply kX|apply kG|apply kQ);(· exact sd);conv=>whnf)|(refine DW.mk ?_ ?_<;>intro hc<;>(try rw[List.length_nil]at hc)<;>first|(exfalso;omega)|(exact absurd rfl hc)|conv=>whnf)|(refine CB ?_ ?_<;>intro hc<;>conv=>whnf))
      · exact again.mk ⟨_,by omega,i+1,rfl,rfl,⟨_,rfl⟩,AfD (by omega) hx h5⟩
      · exact AT9 h16 ⟨Classical.not_not.1 h1,Classical.not_not.1 h2⟩ ⟨h3,h4⟩ fun h=>h5 (h _ (List.getElem_mem _))
      · rw[TP hc]at hx
        exact parts_0 h16 ⟨Classical.not_not.1 h1,Classical.not_not.1 h2⟩ ⟨h3,h4⟩ hx
    · exact AQW h16 ⟨Classical.not_not.1 h1,Classical.not_not.1 h2⟩ fun h=>h4 h.2
    · exact AQW h16 ⟨Classical.not_not.1 h1,Classical.not_not.1 h2⟩ fun h=>h3 h.1
attribute [irreducible] Ap6
end AI
end Go.Proofs.YtnbibfalljlmfaaGreatDoor
