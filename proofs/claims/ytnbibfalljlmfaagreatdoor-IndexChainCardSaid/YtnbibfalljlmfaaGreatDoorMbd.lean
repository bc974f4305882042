/- Entries with plain values: the program's order of them. Sorting in place (CmpFunc[graphdb/api.Entry]): insertion, heaps. Sorting in place (CmpFunc[graphdb/api.Entry]): the pivot, reversing, breaking patterns. -/
import Derived.Test.YtnbibfalljlmfaaGreatDoorMbc
set_option linter.unusedVariables false
set_option maxRecDepth 4000
namespace Go.Proofs.YtnbibfalljlmfaaGreatDoor
namespace AI
section
open Go.Sort
theorem vv_leaf {v:GV} (h:AjD v):VV 8 v:=by
  have hk:=AO9 h
  unfold AWR at hk
  rw[Axo (by omega) (by omega)]
  obtain⟨h1,h2,h3⟩:=h
  refine⟨h2,?_⟩
  rcases h3 with⟨a,b,c⟩|⟨a,b,c⟩|⟨a,b,c⟩
  · exact .inr (.inl ⟨a,c,h1,b⟩)
  · exact .inr (.inr (.inl ⟨a,c,h1,b⟩))
  · exact .inr (.inr (.inr (.inr (.inl ⟨a,b,h1,c⟩))))
theorem vf1 {n:Int} (h:inR n):VF n 1:=⟨by omega,by omega,h,by simp⟩
theorem cmp1 {n1 n2:Int} (h1:inR n1) (h2:inR n2):D8 (Dx tab) 248 [.agg [.int .i64 n1,.int .i64 1],.agg [.int .i64 n2,.int .i64 1]] (· =.int .i64 (Qr n1 n2)):=by
  have v1:D8 (Dx tab) 281 [.agg [.int .i64 n1,.int .i64 1]] (· =.bool true):=by have:=fvP (n:=n1) (d:=1);rwa [decide_eq_true (vf1 h1)]at this
  have v2:D8 (Dx tab) 281 [.agg [.int .i64 n2,.int .i64 1]] (· =.bool true):=by have:=fvP (n:=n2) (d:=1);rwa [decide_eq_true (vf1 h2)]at this
  have e1:inR 1:=by unfold inR;omega
  have e3:inR (0-n2):=by unfold inR at *;omega
  have r2:-1000000000000000≤n2∧n2≤1000000000000000:=h2
  have m1:=Afz h1
  have m2:=Afz e3
  have p1:=Aqf h1 e1
  have p2:=Aqf e3 e1
  have p3:=ARr (a:=decide (n1<0) != decide ((1:Int)<0)) (m:=n1.natAbs*(1:Int).natAbs) (b:=decide (0-n2<0) != decide ((1:Int)<0)) (n:=(0-n2).natAbs*(1:Int).natAbs) (by simp;omega) (by simp;omega)
  obtain⟨a,m,e4,e5,e6⟩:∃a m,Aw5 (decide (n1<0) != decide ((1:Int)<0)) (n1.natAbs*(1:Int).natAbs) (decide (0-n2<0) != decide ((1:Int)<0)) ((0-n2).natAbs*(1:Int).natAbs)=wd a m∧m<2^127∧sgW a m=Qr n1 n2:=by
    have k1:decide ((1:Int)<0)=false:=rfl
    have k2:(1:Int).natAbs=1:=rfl
    rw[k1,k2,Bool.bne_false,Bool.bne_false,Nat.mul_one,Nat.mul_one]
    unfold Aw5
    split
    · rename_i hh
      rw[decide_eq_decide]at hh
      refine⟨_,_,rfl,by omega,?_⟩
      unfold sgW Qr
      simp only[decide_eq_true_eq]
      repeat' split
      all_goals omega
    · rename_i hh
      rw[decide_eq_decide]at hh
      split
      · refine⟨_,_,rfl,by omega,?_⟩
        unfold sgW Qr
        simp only[decide_eq_true_eq]
        repeat' split
        all_goals omega
      · refine⟨_,_,rfl,by omega,?_⟩
        unfold sgW Qr
        simp only[decide_eq_true_eq]
        repeat' split
        all_goals omega
  rw[e4]at p3
  have p4:=AHk (a:=a) e5
  rw[e6]at p4
  refine Lu rfl rfl ?_
  (conv=>whnf);repeat' (first|(refine BM v1 ?_;rintro _ rfl;conv=>whnf)|(refine BM v2 ?_;rintro _ rfl;conv=>whnf)|(refine BM p1 ?_;rintro _ rfl;conv=>whnf)|(refine BM p2 ?_;rintro _ rfl;conv=>whnf)|(refine BM p3 ?_;rintro _ rfl;conv=>whnf)|(refine BM p4 ?_;rintro _ rfl;conv=>whnf)|((with_reducible first|apply kN|apply kW|apply kX|apply kG|apply kQ);(· exact sd);conv=>whnf)|(refine DW.mk ?_ ?_<;>intro hc<;>(try rw[List.length_nil]at hc)<;>first|(exfalso;omega)|(exact absurd rfl hc)|conv=>whnf)|(refine CB ?_ ?_<;>intro hc<;>conv=>whnf))
  all_goals first | rfl | (trace_state; fail "cmp1")
theorem cmpFe {nn nn':Bool} {f:Nat}:D8 (Dx tab) 196 [.sl nn [],.sl nn' [],.fn f []] (· =.int .i64 0):=by
  refine Lu rfl rfl ?_
  (conv=>whnf);repeat' (first  |((with_reducible first|apply kN|apply kW|apply kX|apply kG|apply kQ);(· exact sd);conv=>whnf)|(refine DW.mk ?_ ?_<;>intro hc<;>(try rw[List.length_nil]at hc)<;>first|(exfalso;omega)|(exact absurd rfl hc)|conv=>whnf)|(refine CB ?_ ?_<;>intro hc<;>conv=>whnf))
  refine DK (fun m env s=>m=0∧env=[(0,.sl nn []),(1,.sl nn' []),(2,.fn f []),(11,.sl nn []),(12,.int .i64 0),(13,.int .i64 0)]∧s=⟨[],0⟩) ?_ _ _ _ ⟨rfl,rfl,rfl⟩
  rintro _ _ _ ⟨rfl,rfl,rfl⟩
  refine⟨rfl,?_⟩
  (conv=>whnf);repeat' (first  |((with_reducible first|apply kN|apply kW|apply kX|apply kG|apply kQ);(· exact sd);conv=>whnf)|(refine DW.mk ?_ ?_<;>intro hc<;>(try rw[List.length_nil]at hc)<;>first|(exfalso;omega)|(exact absurd rfl hc)|conv=>whnf)|(refine CB ?_ ?_<;>intro hc<;>conv=>whnf))
  all_goals first | rfl | (exfalso; simp_all) | (trace_state; fail "cmpFe")
theorem AVW {a b c:Int}:fnz [a,b,c]=NH a (NH b c):=by
  simp only[fnz];congr 1;congr 1;unfold NH;split<;>omega
theorem AVX {a b c d:Int}:fnz [a,b,c,d]=NH a (NH b (NH c d)):=by
  simp only[fnz];congr 1;congr 1;congr 1;unfold NH;split<;>omega
theorem AVZ {a b c:Int}:D8 (Dx tab) 112 [.sl true [.int .i64 a,.int .i64 b,.int .i64 c]] (· =.int .i64 (NH a (NH b c))):=by
  have h:=orV (l:=[a,b,c]) (nn:=true) (by simp)
  rw[AVW]at h
  exact h
theorem AX0 {a b c d:Int}:D8 (Dx tab) 112 [.sl true [.int .i64 a,.int .i64 b,.int .i64 c,.int .i64 d]] (· =.int .i64 (NH a (NH b (NH c d)))):=by
  have h:=orV (l:=[a,b,c,d]) (nn:=true) (by simp)
  rw[AVX]at h
  exact h
def vOrd (a b:GV):Int:=NH (Qr (YH a.k) (YH b.k)) (if YH a.k=2 then Qr a.n b.n else NH (cS a.s b.s) (NH (Qr a.n b.n) 0))
theorem vOrd_P {a b : GV} (ha : a.ok) (hb:b.ok) (la:AjD a) (lb:AjD b):D8 (Dx tab) 114 [a.av,b.av] (· =.int .i64 (vOrd a b)):=by
  have va:=vP ha (vv_leaf la)
  have vb:=vP hb (vv_leaf lb)
  have ka:=AO9 la
  have kb:=AO9 lb
  unfold AWR at ka kb
  have na:a.l=[]:=List.eq_nil_of_length_eq_zero la.2.1
  have nb:b.l=[]:=List.eq_nil_of_length_eq_zero lb.2.1
  have k1:=AzM (v:=a)
  have k2:=AzM (v:=b)
  have k3:D8 (Dx tab) 115 [.int .i64 (YH a.k),.int .i64 (YH b.k)] (· =.int .i64 (Qr (YH a.k) (YH b.k))):=compare
  have ho:D8 (Dx tab) 195 [a.av,b.av] (· =.int .i64 (vOrd a b)):=by
    unfold vOrd
    by_cases h0:Qr (YH a.k) (YH b.k)=0
    · rw[h0,show∀z,NH 0 z=z from fun z=>if_pos rfl]
      rw[h0]at k3
      have he:=Ym.1 h0
      by_cases h2:YH a.k=2
      · rw[if_pos h2]
        have a2 : a.k = 2 := by unfold YH at h2;repeat' split at h2
                                all_goals omega
        have b2 : b.k = 2 := by rw[he]at h2;unfold YH at h2;repeat' split at h2
                                all_goals omega
        have p1:=nP1 ha ⟨vv_leaf la,.inl a2⟩
        have p2:=nP1 hb ⟨vv_leaf lb,.inl b2⟩
        rw[show dn a=1 from if_pos a2]at p1
        rw[show dn b=1 from if_pos b2]at p2
        have i1:inR a.n:=by rcases la.2.2 with h|h|h<;>first|(exfalso;omega)|exact h.2.2
        have i2:inR b.n:=by rcases lb.2.2 with h|h|h<;>first|(exfalso;omega)|exact h.2.2
        have p3:=cmp1 i1 i2
        refine Lu rfl rfl ?_
        (conv=>whnf);repeat' (first|(refine BM k1 ?_;rintro _ rfl;conv=>whnf)|(refine BM k2 ?_;rintro _ rfl;conv=>whnf)|(refine BM k3 ?_;rintro _ rfl;conv=>whnf)|(refine BM p1 ?_;rintro _ rfl;conv=>whnf)|(refine BM p2 ?_;rintro _ rfl;conv=>whnf)|(refine BM p3 ?_;rintro _ rfl;conv=>whnf)|((with_reducible first|apply kN|apply kW|apply kX|apply kG|apply kQ);(· exact sd);conv=>whnf)|(refine DW.mk ?_ ?_<;>intro hc<;>(try rw[List.length_nil]at hc)<;>first|(exfalso;omega)|(exact absurd rfl hc)|conv=>whnf)|(refine CB ?_ ?_<;>intro hc<;>conv=>whnf))
        all_goals first | rfl | (exfalso; omega) | (trace_state; fail "vOrd1")
      · rw[if_neg h2]
        have p1:=AwA (x:=a.s) (y:=b.s)
        have p2:D8 (Dx tab) 115 [.int .i64 a.n,.int .i64 b.n] (· =.int .i64 (Qr a.n b.n)):=compare
        have p3:=cmpFe (nn:=a.nn) (nn':=b.nn) (f:=195)
        rw[show (AV.sl a.nn []:AV)=.sl a.nn a.l by rw[na],show(AV.sl b.nn []:AV)=.sl b.nn b.l by rw[nb]]at p3
        have p4:=AVZ (a:=cS a.s b.s) (b:=Qr a.n b.n) (c:=0)
        refine Lu rfl rfl ?_
        (conv=>whnf);repeat' (first|(refine BM k1 ?_;rintro _ rfl;conv=>whnf)|(refine BM k2 ?_;rintro _ rfl;conv=>whnf)|(refine BM k3 ?_;rintro _ rfl;conv=>whnf)|(refine BM p1 ?_;rintro _ rfl;conv=>whnf)|(refine BM p2 ?_;rintro _ rfl;conv=>whnf)|(refine BM p3 ?_;rintro _ rfl;conv=>whnf)|(refine BM p4 ?_;rintro _ rfl;conv=>whnf)|((with_reducible first|apply kN|apply kW|apply kX|apply kG|apply kQ);(· exact sd);conv=>whnf)|(refine DW.mk ?_ ?_<;>intro hc<;>(try rw[List.length_nil]at hc)<;>first|(exfalso;omega)|(exact absurd rfl hc)|conv=>whnf)|(refine CB ?_ ?_<;>intro hc<;>conv=>whnf))
        all_goals first | rfl | (exfalso; omega) | (trace_state; fail "vOrd2")
    · rw[show ∀z,NH (Qr (YH a.k) (YH b.k)) z=Qr (YH a.k) (YH b.k) from fun z=>if_neg h0]
      refine Lu rfl rfl ?_
      (conv=>whnf);repeat' (first|(refine BM k1 ?_;rintro _ rfl;conv=>whnf)|(refine BM k2 ?_;rintro _ rfl;conv=>whnf)|(refine BM k3 ?_;rintro _ rfl;conv=>whnf)|((with_reducible first|apply kN|apply kW|apply kX|apply kG|apply kQ);(· exact sd);conv=>whnf)|(refine DW.mk ?_ ?_<;>intro hc<;>(try rw[List.length_nil]at hc)<;>first|(exfalso;omega)|(exact absurd rfl hc)|conv=>whnf)|(refine CB ?_ ?_<;>intro hc<;>conv=>whnf))
      all_goals first | rfl | (exfalso; omega) | (trace_state; fail "vOrd3")
  refine Lu rfl rfl ?_
  (conv=>whnf);repeat' (first|(refine BM va ?_;rintro _ rfl;conv=>whnf)|(refine BM vb ?_;rintro _ rfl;conv=>whnf)|(refine BM ho ?_;rintro _ rfl;conv=>whnf)|((with_reducible first|apply kN|apply kW|apply kX|apply kG|apply kQ);(· exact sd);conv=>whnf)|(refine DW.mk ?_ ?_<;>intro hc<;>(try rw[List.length_nil]at hc)<;>first|(exfalso;omega)|(exact absurd rfl hc)|conv=>whnf)|(refine CB ?_ ?_<;>intro hc<;>conv=>whnf))
  all_goals first | rfl | (trace_state; fail "vOrd")
structure GX where
  e:GT
  h:e.ok∧AjD e.v
def GX.av (x:GX):AV:=x.e.av
theorem AyF (x:GX):x.av.cells.length=8:=rfl
theorem gx0_ok:(GT.mk [] [] ⟨2,0,0,[],false,[]⟩ 0).ok∧AjD (GT.mk [] [] ⟨2,0,0,[],false,[]⟩ 0).v:=
  ⟨⟨by simp[Ln],by simp[Ln],⟨by unfold I64;dsimp only;omega,by unfold I64;dsimp only;omega,by unfold I64;dsimp only;omega,by simp[Ln],by simp[Ln],fun _=>rfl,by simp⟩,by unfold I64;dsimp only;omega⟩,rfl,rfl,.inr (.inl ⟨rfl,rfl,by unfold inR;dsimp only;omega⟩)⟩
instance:Inhabited GX:=⟨⟨_,gx0_ok⟩⟩
def AKY (x y:GX):Int:=NH (cS x.e.label y.e.label) (NH (cS x.e.key y.e.key) (NH (vOrd x.e.v y.e.v) (Qr x.e.id y.e.id)))
theorem pc_zer {α:Type}:PC fun _ _:α=>0:=⟨fun _ _=>rfl,fun _ _ _ _ _=>Int.le_refl 0⟩
theorem PC.AQF {α:Type} {c d e:α→α→Int} {p:α→Prop} [DecidablePred p] (hc:PC c) (hd:PC d) (he:PC e) (hp:∀x y,c x y=0→(p x↔p y)):PC fun x y=>NH (c x y) (if p x then d x y else e x y) where
  anti x y:=by
    have h1:=hc.anti x y
    have h2:=hd.anti x y
    have h3:=he.anti x y
    have h4:=hp x y
    unfold NH
    by_cases h0:c x y=0
    · rw[if_pos (by omega),if_pos h0]
      by_cases hx:p x
      · rw[if_pos hx,if_pos ((h4 h0).1 hx)];exact h2
      · rw[if_neg hx,if_neg (fun h=>hx ((h4 h0).2 h))];exact h3
    · rw[if_neg (by omega),if_neg h0];exact h1
  trans x y z h1 h2:=by
    have a0:=hc.trans z y x
    have a1:=hc.trans x y z
    have a2:=hc.trans y z x
    have a3:=hc.trans z x y
    have b1:=hc.anti x y
    have b2:=hc.anti y z
    have b3:=hc.anti x z
    have d1:=hd.trans x y z
    have e1:=he.trans x y z
    have p1:=hp x y
    have p2:=hp y z
    unfold NH at*
    by_cases h0:c x y=0
    · rw[if_pos h0]at h1
      by_cases h00:c y z=0
      · rw[if_pos h00]at h2
        rw[if_pos (by omega)]
        by_cases hx:p x
        · rw[if_pos hx]at h1 ⊢
          rw[if_pos ((p1 h0).1 hx)]at h2
          exact d1 h1 h2
        · rw[if_neg hx]at h1 ⊢
          rw[if_neg (fun h=>hx ((p1 h0).2 h))]at h2
          exact e1 h1 h2
      · rw[if_neg h00]at h2
        rw[if_neg (by omega)]
        omega
    · rw[if_neg h0]at h1
      by_cases h00:c y z=0
      · rw[if_neg (by omega)]
        omega
      · rw[if_neg h00]at h2
        rw[if_neg (by omega)]
        omega
theorem pc_vOrd:PC vOrd:=PC.AQF (p:=fun a:GV=>YH a.k=2) (Auz.on fun a:GV=>YH a.k) (Auz.on GV.n) ((AKL.on GV.s).lex ((Auz.on GV.n).lex pc_zer)) fun x y h=>by
    have h:Qr (YH x.k) (YH y.k)=0:=h
    rw[Ym]at h
    show YH x.k=2↔YH y.k=2
    rw[h]
theorem ABT:PC AKY:=(AKL.on fun x:GX=>x.e.label).lex ((AKL.on fun x:GX=>x.e.key).lex ((pc_vOrd.on fun x:GX=>x.e.v).lex (Auz.on fun x:GX=>x.e.id)))
def ltT (x y:GX):Bool:=decide (AKY x y<0)
theorem AuE:SWO ltT:=ABT.swo
theorem AUd {x y:GX}:D8 (Dx tab) 58 [x.av,y.av] (· =.int .i64 (AKY x y)):=by
  obtain⟨x,hx,lx⟩:=x
  obtain⟨y,hy,ly⟩:=y
  have q1:=AwA (x:=x.label) (y:=y.label)
  have q2:=AwA (x:=x.key) (y:=y.key)
  have q3:=vOrd_P hx.2.2.1 hy.2.2.1 lx ly
  have q4:D8 (Dx tab) 115 [.int .i64 x.id,.int .i64 y.id] (· =.int .i64 (Qr x.id y.id)):=compare
  have q5:=AX0 (a:=cS x.label y.label) (b:=cS x.key y.key) (c:=vOrd x.v y.v) (d:=Qr x.id y.id)
  show D8 (Dx tab) 58 [x.av,y.av] (· =.int .i64 (NH (cS x.label y.label) (NH (cS x.key y.key) (NH (vOrd x.v y.v) (Qr x.id y.id)))))
  refine Lu rfl rfl ?_
  (conv=>whnf);repeat' (first|(refine BM q1 ?_;rintro _ rfl;conv=>whnf)|(refine BM q2 ?_;rintro _ rfl;conv=>whnf)|(refine BM q3 ?_;rintro _ rfl;conv=>whnf)|(refine BM q4 ?_;rintro _ rfl;conv=>whnf)|(refine BM q5 ?_;rintro _ rfl;conv=>whnf)|((with_reducible first|apply kN|apply kW|apply kX|apply kG|apply kQ);(· exact sd);conv=>whnf)|(refine DW.mk ?_ ?_<;>intro hc<;>(try rw[List.length_nil]at hc)<;>first|(exfalso;omega)|(exact absurd rfl hc)|conv=>whnf)|(refine CB ?_ ?_<;>intro hc<;>conv=>whnf))
  all_goals first | rfl | (trace_state; fail "orderPT")
theorem AWn {x y:GX} {A B:Prop} (h1:ltT x y=true→A) (h2:ltT x y=false→B):DW (AKY x y<0) A B:=
  ⟨fun h=>h1 (decide_eq_true h),fun h=>h2 (decide_eq_false h)⟩
attribute [irreducible] ltT AKY
end
section
open Go.Sort
set_option maxHeartbeats 1000000 in
theorem pqins {ob0:Obj} {g c len:Nat} {nn cl:Bool} {d:Array GX} {a b:Nat} (hl:d.size=len) (hb:b≤len) (hs:len<2^61) (ha:a≤len):
    H6 (Dx tab) 198 [.own 1 g 0 len,.int .i64 a,.int .i64 b,.fn 58 []] ⟨[ob0,.arr g 8 nn cl (vs GX.av d.toList)],c⟩ fun out s'=>∃c',out=.ok (.tup [])∧s'=⟨[ob0,.arr g 8 nn cl (vs GX.av (insertionSort ltT d a b).toList)],c'⟩:=by
  refine FH rfl rfl ?_
  (conv=>whnf);repeat' (first  |((with_reducible first|apply kN|apply kW|apply kX|apply kG|apply kQ);(· exact sd);conv=>whnf)|(refine DW.mk ?_ ?_<;>intro hc<;>(try rw[List.length_nil]at hc)<;>first|(exfalso;omega)|(exact absurd rfl hc)|conv=>whnf)|(refine CB ?_ ?_<;>intro hc<;>conv=>whnf))
  refine DK (fun m env s=>∃(i c:Nat) (D:Array GX),m=b-i∧insOuter ltT a b i D=insertionSort ltT d a b∧D.size=len∧env=[(0,.own 1 g 0 len),(1,.int .i64 a),(2,.int .i64 b),(3,.fn 58 []),(8,.int .i64 i)]∧s=⟨[ob0,.arr g 8 nn cl (vs GX.av D.toList)],c⟩) ?_ _ _ _ ⟨a+1,c,d,rfl,rfl,hl,rfl,rfl⟩
  rintro _ _ _ ⟨i,c,D,rfl,hD,hDl,rfl,rfl⟩
  refine⟨rfl,?_⟩
  (conv=>whnf);repeat' (first  |((with_reducible first|apply kN|apply kW|apply kX|apply kG|apply kQ);(· exact sd);conv=>whnf)|(refine DW.mk ?_ ?_<;>intro hc<;>(try rw[List.length_nil]at hc)<;>first|(exfalso;omega)|(exact absurd rfl hc)|conv=>whnf)|(refine CB ?_ ?_<;>intro hc<;>conv=>whnf))
  · rw[ABc (by omega)]at hD
    refine DK (fun m env s=>∃(j c:Nat) (z:Int) (E:Array GX),m=j∧z=j∧j≤i∧insInner ltT a j E=insInner ltT a i D∧E.size=len∧env=[(0,.own 1 g 0 len),(1,.int .i64 a),(2,.int .i64 b),(3,.fn 58 []),(8,.int .i64 i),(9,.int .i64 z)]∧s=⟨[ob0,.arr g 8 nn cl (vs GX.av E.toList)],c⟩) ?_ _ _ _ ⟨i,_,_,D,rfl,rfl,by omega,rfl,hDl,rfl,rfl⟩
    rintro j _ _ ⟨_,c,z,E,rfl,hz,hj,hE,hEl,rfl,rfl⟩
    refine⟨rfl,?_⟩
    cases j with
    | zero=>
      (conv=>whnf);repeat' (first  |((with_reducible first|apply kN|apply kW|apply kX|apply kG|apply kQ);(· exact sd);conv=>whnf)|(refine DW.mk ?_ ?_<;>intro hc<;>(try rw[List.length_nil]at hc)<;>first|(exfalso;omega)|(exact absurd rfl hc)|conv=>whnf)|(refine CB ?_ ?_<;>intro hc<;>conv=>whnf))
      rw[← hE]at hD
      exact again.mk ⟨_,by omega,i+1,_,E,rfl,hD,hEl,rfl,rfl⟩
    | succ j=>
      (conv=>whnf);repeat' (first|((with_reducible show Iw _ _ _);refine nPK (j+1) ?_;conv=>whnf)|((with_reducible show Iw _ _ _);refine nPK (j) ?_;conv=>whnf)|(refine BM AUd ?_;rintro _ rfl;conv=>whnf)|(refine AWn (fun hc=>?_) (fun hc=>?_)<;>conv=>whnf)|((with_reducible show eqK _ _);refine tPK AyF (j+1) ?_;conv=>whnf)|((with_reducible show eqK _ _);refine tPK AyF (j) ?_;conv=>whnf)|((with_reducible first|apply kN|apply kW|apply kX|apply kG|apply kQ);(· exact sd);conv=>whnf)|(refine DW.mk ?_ ?_<;>intro hc<;>(try rw[List.length_nil]at hc)<;>first|(exfalso;omega)|(exact absurd rfl hc)|conv=>whnf)|(refine CB ?_ ?_<;>intro hc<;>conv=>whnf))
      · rw[Awy (by omega) hc]at hE
        exact again.mk ⟨_,by omega,j,_,_,swp E (j+1) j,rfl,by omega,by omega,hE,by simpa using hEl,rfl,rfl⟩
      · rw[Alr (fun _=>hc)]at hE
        rw[← hE]at hD
        exact again.mk ⟨_,by omega,i+1,_,E,rfl,hD,hEl,rfl,rfl⟩
      · rw[Alr (fun h=>absurd h (by omega))]at hE
        rw[← hE]at hD
        exact again.mk ⟨_,by omega,i+1,_,E,rfl,hD,hEl,rfl,rfl⟩
  · rw[ABd (by omega)]at hD
    exact⟨_,rfl,by rw[hD]⟩
set_option maxHeartbeats 1000000 in
theorem pqsift {ob0:Obj} {g c len:Nat} {nn cl:Bool} {d:Array GX} {lo hi first:Nat} (hl:d.size=len) (hb:first+hi≤len) (hs:len<2^61) (hlo:lo≤len):
    H6 (Dx tab) 252 [.own 1 g 0 len,.int .i64 lo,.int .i64 hi,.int .i64 first,.fn 58 []] ⟨[ob0,.arr g 8 nn cl (vs GX.av d.toList)],c⟩ fun out s'=>∃c',out=.ok (.tup [])∧s'=⟨[ob0,.arr g 8 nn cl (vs GX.av (siftDown ltT hi first lo d).toList)],c'⟩:=by
  refine FH rfl rfl ?_
  (conv=>whnf);repeat' (first  |((with_reducible first|apply kN|apply kW|apply kX|apply kG|apply kQ);(· exact sd);conv=>whnf)|(refine DW.mk ?_ ?_<;>intro hc<;>(try rw[List.length_nil]at hc)<;>first|(exfalso;omega)|(exact absurd rfl hc)|conv=>whnf)|(refine CB ?_ ?_<;>intro hc<;>conv=>whnf))
  refine DK (fun m env s=>∃(root c:Nat) (z:Int) (D:Array GX),m=hi-root∧z=root∧root≤len∧siftDown ltT hi first root D=siftDown ltT hi first lo d∧D.size=len∧env=[(0,.own 1 g 0 len),(2,.int .i64 hi),(3,.int .i64 first),(4,.fn 58 []),(10,.int .i64 z)]∧s=⟨[ob0,.arr g 8 nn cl (vs GX.av D.toList)],c⟩) ?_ _ _ _ ⟨lo,c,_,d,rfl,rfl,hlo,rfl,hl,rfl,rfl⟩
  rintro _ _ _ ⟨root,c,z,D,rfl,hz,hr,hD,hDl,rfl,rfl⟩
  refine⟨rfl,?_⟩
  (conv=>whnf);repeat' (first|((with_reducible show Iw _ _ _);refine nPK (first+root) ?_;conv=>whnf)|((with_reducible show Iw _ _ _);refine nPK (first+(2*root+1)) ?_;conv=>whnf)|((with_reducible show Iw _ _ _);refine nPK (first+(2*root+1)+1) ?_;conv=>whnf)|(refine BM AUd ?_;rintro _ rfl;conv=>whnf)|(refine AWn (fun hc=>?_) (fun hc=>?_)<;>conv=>whnf)|((with_reducible show eqK _ _);refine tPK AyF (first+root) ?_;conv=>whnf)|((with_reducible show eqK _ _);refine tPK AyF (first+(2*root+1)) ?_;conv=>whnf)|((with_reducible show eqK _ _);refine tPK AyF (first+(2*root+1)+1) ?_;conv=>whnf)|((with_reducible first|apply kN|apply kW|apply kX|apply kG|apply kQ);(· exact sd);conv=>whnf)|(refine DW.mk ?_ ?_<;>intro hc<;>(try rw[List.length_nil]at hc)<;>first|(exfalso;omega)|(exact absurd rfl hc)|conv=>whnf)|(refine CB ?_ ?_<;>intro hc<;>conv=>whnf))
  · rw[Azb (by omega)]at hD
    exact⟨_,rfl,by rw[hD]⟩
  all_goals first
    | (rw[AJ4 (by omega) (by assumption) hc]at hD
       exact again.mk ⟨_,by omega,2*root+2,_,_,swp D (first+root) (first+(2*root+2)),rfl,by omega,by omega,hD,by simpa using hDl,rfl,rfl⟩)
    | (rw[ABe (by omega) (by assumption) hc]at hD
       exact⟨_,rfl,by rw[hD]⟩)
    | (rw[Axf (by omega) (fun _=>by assumption) hc]at hD
       exact again.mk ⟨_,by omega,2*root+1,_,_,swp D (first+root) (first+(2*root+1)),rfl,by omega,by omega,hD,by simpa using hDl,rfl,rfl⟩)
    | (rw[Aum (by omega) (fun _=>by assumption) hc]at hD
       exact⟨_,rfl,by rw[hD]⟩)
    | (rw[Axf (by omega) (fun h=>absurd h (by omega)) hc]at hD
       exact again.mk ⟨_,by omega,2*root+1,_,_,swp D (first+root) (first+(2*root+1)),rfl,by omega,by omega,hD,by simpa using hDl,rfl,rfl⟩)
    | (rw[Aum (by omega) (fun h=>absurd h (by omega)) hc]at hD
       exact⟨_,rfl,by rw[hD]⟩)
set_option maxHeartbeats 1000000 in
theorem pqheapP {ob0:Obj} {g c len:Nat} {nn cl:Bool} {d:Array GX} {a n:Nat} {z:Int} {Q:Je→Env→Sto→Prop} (hl:d.size=len) (hb:a+n≤len) (hs:len<2^61) (hz:z=(n:Int)-1)
    (hQ:∀c' e,Q (.exit 2) e ⟨[ob0,.arr g 8 nn cl (vs GX.av (heapPop ltT a n d).toList)],c'⟩):
    Run (Dx tab) (.loop l199_1_h l199_1_b) [(0,.own 1 g 0 len),(3,.fn 58 []),(8,.int .i64 a),(9,.int .i64 0),(12,.int .i64 z)] ⟨[ob0,.arr g 8 nn cl (vs GX.av d.toList)],c⟩ Q:=by
  refine DK (fun m env s=>∃(k c:Nat) (z:Int) (E:Array GX),m=k∧z=(k:Int)-1∧a+k≤len∧heapPop ltT a k E=heapPop ltT a n d∧E.size=len∧env=[(0,.own 1 g 0 len),(3,.fn 58 []),(8,.int .i64 a),(9,.int .i64 0),(12,.int .i64 z)]∧s=⟨[ob0,.arr g 8 nn cl (vs GX.av E.toList)],c⟩) ?_ _ _ _ ⟨n,c,_,d,rfl,hz,by omega,rfl,hl,rfl,rfl⟩
  clear hz
  rintro k _ _ ⟨_,c,z,E,rfl,hz,hk,hE,hEl,rfl,rfl⟩
  refine⟨rfl,?_⟩
  cases k with
  | succ k=>
    obtain rfl:z=(k:Nat):=by omega
    (conv=>whnf);repeat' (first|((with_reducible show Iw _ _ _);refine nPK (a) ?_;conv=>whnf)|((with_reducible show Iw _ _ _);refine nPK (a+k) ?_;conv=>whnf)|((with_reducible show eqK _ _);refine tPK AyF (a) ?_;conv=>whnf)|((with_reducible show eqK _ _);refine tPK AyF (a+k) ?_;conv=>whnf)|((with_reducible first|apply kN|apply kW|apply kX|apply kG|apply kQ);(· exact sd);conv=>whnf)|(refine DW.mk ?_ ?_<;>intro hc<;>(try rw[List.length_nil]at hc)<;>first|(exfalso;omega)|(exact absurd rfl hc)|conv=>whnf)|(refine CB ?_ ?_<;>intro hc<;>conv=>whnf))
    refine(pqsift (d:=swp E a (a+k)) (lo:=0) (by simpa using hEl) (by omega) hs (by omega)).mono ?_
    rintro _ _ ⟨c',rfl,rfl⟩
    (conv=>whnf);repeat' (first  |((with_reducible first|apply kN|apply kW|apply kX|apply kG|apply kQ);(· exact sd);conv=>whnf)|(refine DW.mk ?_ ?_<;>intro hc<;>(try rw[List.length_nil]at hc)<;>first|(exfalso;omega)|(exact absurd rfl hc)|conv=>whnf)|(refine CB ?_ ?_<;>intro hc<;>conv=>whnf))
    rw[heapPop]at hE
    exact again.mk ⟨_,by omega,k,_,(k:Int)-1,_,rfl,by omega,by omega,hE,by simpa using hEl,rfl,rfl⟩
  | zero=>
    rw[← hE]at hQ
    (conv=>whnf);repeat' (first  |((with_reducible first|apply kN|apply kW|apply kX|apply kG|apply kQ);(· exact sd);conv=>whnf)|(refine DW.mk ?_ ?_<;>intro hc<;>(try rw[List.length_nil]at hc)<;>first|(exfalso;omega)|(exact absurd rfl hc)|conv=>whnf)|(refine CB ?_ ?_<;>intro hc<;>conv=>whnf))
    exact hQ _ _
theorem pqheap {ob0:Obj} {g c len:Nat} {nn cl:Bool} {d:Array GX} {a b:Nat} (hl:d.size=len) (hb:b≤len) (hs:len<2^61) (hab:a<b):
    H6 (Dx tab) 199 [.own 1 g 0 len,.int .i64 a,.int .i64 b,.fn 58 []] ⟨[ob0,.arr g 8 nn cl (vs GX.av d.toList)],c⟩ fun out s'=>∃c',out=.ok (.tup [])∧s'=⟨[ob0,.arr g 8 nn cl (vs GX.av (heapSort ltT d a b).toList)],c'⟩:=by
  refine FH rfl rfl ?_
  (conv=>whnf);repeat' (first|(refine AgJ (b-a-1) 2 (by omega) (by omega) ?_;conv=>whnf)|((with_reducible first|apply kN|apply kW|apply kX|apply kG|apply kQ);(· exact sd);conv=>whnf)|(refine DW.mk ?_ ?_<;>intro hc<;>(try rw[List.length_nil]at hc)<;>first|(exfalso;omega)|(exact absurd rfl hc)|conv=>whnf)|(refine CB ?_ ?_<;>intro hc<;>conv=>whnf))
  refine DK (fun m env s=>∃(k c:Nat) (z:Int) (D:Array GX),m=k∧z=k-1∧k≤len∧heapBuild ltT (b-a) a k D=heapBuild ltT (b-a) a ((b-a-1) / 2+1) d∧D.size=len∧env=[(0,.own 1 g 0 len),(3,.fn 58 []),(8,.int .i64 a),(9,.int .i64 0),(10,.int .i64 (b-a)),(11,.int .i64 z)]∧s=⟨[ob0,.arr g 8 nn cl (vs GX.av D.toList)],c⟩) ?_ _ _ _ ⟨(b-a-1) / 2+1,c,_,d,rfl,by omega,by omega,rfl,hl,rfl,rfl⟩
  rintro k _ _ ⟨_,c,z,D,rfl,hz,hk,hD,hDl,rfl,rfl⟩
  refine⟨rfl,?_⟩
  cases k with
  | succ k=>
    obtain rfl:z=(k:Nat):=by omega
    (conv=>whnf);repeat' (first  |((with_reducible first|apply kN|apply kW|apply kX|apply kG|apply kQ);(· exact sd);conv=>whnf)|(refine DW.mk ?_ ?_<;>intro hc<;>(try rw[List.length_nil]at hc)<;>first|(exfalso;omega)|(exact absurd rfl hc)|conv=>whnf)|(refine CB ?_ ?_<;>intro hc<;>conv=>whnf))
    rw[show ((b:Int)-a)=((b-a:Nat):Int) by omega]
    refine(pqsift hDl (by omega) hs (by omega)).mono ?_
    rintro _ _ ⟨c',rfl,rfl⟩
    (conv=>whnf);repeat' (first  |((with_reducible first|apply kN|apply kW|apply kX|apply kG|apply kQ);(· exact sd);conv=>whnf)|(refine DW.mk ?_ ?_<;>intro hc<;>(try rw[List.length_nil]at hc)<;>first|(exfalso;omega)|(exact absurd rfl hc)|conv=>whnf)|(refine CB ?_ ?_<;>intro hc<;>conv=>whnf))
    rw[heapBuild]at hD
    exact again.mk ⟨_,by omega,k,_,(k:Int)-1,_,rfl,by omega,by omega,hD,by simpa using hDl,rfl,rfl⟩
  | zero=>
    have hD:D=_:=hD
    (conv=>whnf);repeat' (first  |((with_reducible first|apply kN|apply kW|apply kX|apply kG|apply kQ);(· exact sd);conv=>whnf)|(refine DW.mk ?_ ?_<;>intro hc<;>(try rw[List.length_nil]at hc)<;>first|(exfalso;omega)|(exact absurd rfl hc)|conv=>whnf)|(refine CB ?_ ?_<;>intro hc<;>conv=>whnf))
    refine pqheapP hDl (n:=b-a) (by omega) hs (by omega) (fun c' e=>?_)
    (conv=>whnf);repeat' (first  |((with_reducible first|apply kN|apply kW|apply kX|apply kG|apply kQ);(· exact sd);conv=>whnf)|(refine DW.mk ?_ ?_<;>intro hc<;>(try rw[List.length_nil]at hc)<;>first|(exfalso;omega)|(exact absurd rfl hc)|conv=>whnf)|(refine CB ?_ ?_<;>intro hc<;>conv=>whnf))
    exact⟨_,rfl,by rw[hD];rfl⟩
end
section
open Go.Sort
theorem pqord {ob0:Obj} {g g2 c len:Nat} {nn cl:Bool} {d:Array GX} {a b n:Nat} (hl:d.size=len) (ha:a<len) (hb:b<len) (hs:len<2^61) (hn:n<100):
    H6 (Dx tab) 290 [.own 1 g 0 len,.int .i64 a,.int .i64 b,.ref 2 g2 0 0,.fn 58 []] ⟨[ob0,.arr g 8 nn cl (vs GX.av d.toList),.arr g2 1 true true [.int .i64 n]],c⟩ fun out s'=>∃(c' x y n':Nat),out=.ok (.tup [.int .i64 x,.int .i64 y])∧s'=⟨[ob0,.arr g 8 nn cl (vs GX.av d.toList),.arr g2 1 true true [.int .i64 n']],c'⟩∧n'≤n+1∧(x=a∧y=b∨x=b∧y=a):=by
  refine FH rfl rfl ?_
  (conv=>whnf);repeat' (first|((with_reducible show Iw _ _ _);refine nPK (a) ?_;conv=>whnf)|((with_reducible show Iw _ _ _);refine nPK (b) ?_;conv=>whnf)|(refine BM AUd ?_;rintro _ rfl;conv=>whnf)|(refine AWn (fun hc=>?_) (fun hc=>?_)<;>conv=>whnf)|((with_reducible first|apply kN|apply kW|apply kX|apply kG|apply kQ);(· exact sd);conv=>whnf)|(refine DW.mk ?_ ?_<;>intro hc<;>(try rw[List.length_nil]at hc)<;>first|(exfalso;omega)|(exact absurd rfl hc)|conv=>whnf)|(refine CB ?_ ?_<;>intro hc<;>conv=>whnf))
  · exact⟨_,b,a,n+1,rfl,rfl,by omega,Or.inr ⟨rfl,rfl⟩⟩
  · exact⟨_,a,b,n,rfl,rfl,by omega,Or.inl ⟨rfl,rfl⟩⟩
theorem pqmed {ob0:Obj} {g g2 c len:Nat} {nn cl:Bool} {d:Array GX} {a b e n:Nat} (hl:d.size=len) (ha:a<len) (hb:b<len) (he:e<len) (hs:len<2^61) (hn:n<90):
    H6 (Dx tab) 254 [.own 1 g 0 len,.int .i64 a,.int .i64 b,.int .i64 e,.ref 2 g2 0 0,.fn 58 []] ⟨[ob0,.arr g 8 nn cl (vs GX.av d.toList),.arr g2 1 true true [.int .i64 n]],c⟩ fun out s'=>∃(c' m n':Nat),out=.ok (.int .i64 m)∧s'=⟨[ob0,.arr g 8 nn cl (vs GX.av d.toList),.arr g2 1 true true [.int .i64 n']],c'⟩∧n'≤n+3∧(m=a∨m=b∨m=e):=by
  refine FH rfl rfl ?_
  (conv=>whnf);repeat' (first  |((with_reducible first|apply kN|apply kW|apply kX|apply kG|apply kQ);(· exact sd);conv=>whnf)|(refine DW.mk ?_ ?_<;>intro hc<;>(try rw[List.length_nil]at hc)<;>first|(exfalso;omega)|(exact absurd rfl hc)|conv=>whnf)|(refine CB ?_ ?_<;>intro hc<;>conv=>whnf))
  refine(pqord hl ha hb hs (by omega)).mono ?_
  rintro _ _ ⟨c1,x1,y1,n1,rfl,rfl,h1,e1⟩
  conv=>whnf
  apply Ez rfl
  (conv=>whnf);repeat' (first  |((with_reducible first|apply kN|apply kW|apply kX|apply kG|apply kQ);(· exact sd);conv=>whnf)|(refine DW.mk ?_ ?_<;>intro hc<;>(try rw[List.length_nil]at hc)<;>first|(exfalso;omega)|(exact absurd rfl hc)|conv=>whnf)|(refine CB ?_ ?_<;>intro hc<;>conv=>whnf))
  refine(pqord (a:=y1) (b:=e) hl (by omega) he hs (by omega)).mono ?_
  rintro _ _ ⟨c2,x2,y2,n2,rfl,rfl,h2,e2⟩
  conv=>whnf
  apply Ez rfl
  (conv=>whnf);repeat' (first  |((with_reducible first|apply kN|apply kW|apply kX|apply kG|apply kQ);(· exact sd);conv=>whnf)|(refine DW.mk ?_ ?_<;>intro hc<;>(try rw[List.length_nil]at hc)<;>first|(exfalso;omega)|(exact absurd rfl hc)|conv=>whnf)|(refine CB ?_ ?_<;>intro hc<;>conv=>whnf))
  refine(pqord (a:=x1) (b:=x2) hl (by omega) (by omega) hs (by omega)).mono ?_
  rintro _ _ ⟨c3,x3,y3,n3,rfl,rfl,h3,e3⟩
  conv=>whnf
  apply Ez rfl
  (conv=>whnf);repeat' (first  |((with_reducible first|apply kN|apply kW|apply kX|apply kG|apply kQ);(· exact sd);conv=>whnf)|(refine DW.mk ?_ ?_<;>intro hc<;>(try rw[List.length_nil]at hc)<;>first|(exfalso;omega)|(exact absurd rfl hc)|conv=>whnf)|(refine CB ?_ ?_<;>intro hc<;>conv=>whnf))
  exact⟨_,y3,n3,rfl,rfl,by omega,by omega⟩
theorem pqadj {ob0:Obj} {g g2 c len:Nat} {nn cl:Bool} {d:Array GX} {a n:Nat} (hl:d.size=len) (ha:a+1<len) (h0:0<a) (hs:len<2^61) (hn:n<90):
    H6 (Dx tab) 253 [.own 1 g 0 len,.int .i64 a,.ref 2 g2 0 0,.fn 58 []] ⟨[ob0,.arr g 8 nn cl (vs GX.av d.toList),.arr g2 1 true true [.int .i64 n]],c⟩ fun out s'=>∃(c' m n':Nat),out=.ok (.int .i64 m)∧s'=⟨[ob0,.arr g 8 nn cl (vs GX.av d.toList),.arr g2 1 true true [.int .i64 n']],c'⟩∧n'≤n+3∧a≤m+1∧m≤a+1:=by
  refine FH rfl rfl ?_
  (conv=>whnf);repeat' (first  |((with_reducible first|apply kN|apply kW|apply kX|apply kG|apply kQ);(· exact sd);conv=>whnf)|(refine DW.mk ?_ ?_<;>intro hc<;>(try rw[List.length_nil]at hc)<;>first|(exfalso;omega)|(exact absurd rfl hc)|conv=>whnf)|(refine CB ?_ ?_<;>intro hc<;>conv=>whnf))
  rw[show ((a:Int)-1)=((a-1:Nat):Int) by omega]
  refine(pqmed (a:=a-1) (b:=a) (e:=a+1) hl (by omega) (by omega) ha hs hn).mono ?_
  rintro _ _ ⟨c',m,n',rfl,rfl,h1,h2⟩
  conv=>whnf
  apply Ez rfl
  (conv=>whnf);repeat' (first  |((with_reducible first|apply kN|apply kW|apply kX|apply kG|apply kQ);(· exact sd);conv=>whnf)|(refine DW.mk ?_ ?_<;>intro hc<;>(try rw[List.length_nil]at hc)<;>first|(exfalso;omega)|(exact absurd rfl hc)|conv=>whnf)|(refine CB ?_ ?_<;>intro hc<;>conv=>whnf))
  exact⟨_,m,n',rfl,rfl,h1,by omega,by omega⟩
set_option maxHeartbeats 1000000 in
theorem pqpiv {ob0:Obj} {g c len:Nat} {nn cl:Bool} {d:Array GX} {a b:Nat} (hl:d.size=len) (hb:b≤len) (hab:a+12<b) (hs:len<2^61):
    H6 (Dx tab) 201 [.own 1 g 0 len,.int .i64 a,.int .i64 b,.fn 58 []] ⟨[ob0,.arr g 8 nn cl (vs GX.av d.toList)],c⟩ fun out s'=>∃(c' p:Nat) (h:Int) (ob:Obj),out=.ok (.tup [.int .i64 p,.int .i64 h])∧s'=⟨[ob0,.arr g 8 nn cl (vs GX.av d.toList),ob],c'⟩∧a≤p∧p<b:=by
  refine FH rfl rfl ?_
  have hq:(b-a) / 4*4≤b-a:=Nat.div_mul_le_self _ _
  have hq2:3≤(b-a) / 4:=by omega
  generalize hL:(b-a) / 4=L at hq hq2
  (conv=>whnf);repeat' (first|(refine AgJ (b-a) 4 (by omega) (by omega) ?_;rw[hL];conv=>whnf)|((with_reducible first|apply kN|apply kW|apply kX|apply kG|apply kQ);(· exact sd);conv=>whnf)|(refine DW.mk ?_ ?_<;>intro hc<;>(try rw[List.length_nil]at hc)<;>first|(exfalso;omega)|(exact absurd rfl hc)|conv=>whnf)|(refine CB ?_ ?_<;>intro hc<;>conv=>whnf))
  · refine(pqadj (g2:=c) (n:=0) (a:=a+L*1) hl (by omega) (by omega) hs (by omega)).mono ?_
    rintro _ _ ⟨c1,i,n1,rfl,rfl,h1,i1,i2⟩
    conv=>whnf
    apply Ez rfl
    (conv=>whnf);repeat' (first  |((with_reducible first|apply kN|apply kW|apply kX|apply kG|apply kQ);(· exact sd);conv=>whnf)|(refine DW.mk ?_ ?_<;>intro hc<;>(try rw[List.length_nil]at hc)<;>first|(exfalso;omega)|(exact absurd rfl hc)|conv=>whnf)|(refine CB ?_ ?_<;>intro hc<;>conv=>whnf))
    refine(pqadj (g2:=c) (a:=a+L*2) hl (by omega) (by omega) hs (by omega)).mono ?_
    rintro _ _ ⟨c2,j,n2,rfl,rfl,h2,j1,j2⟩
    conv=>whnf
    apply Ez rfl
    (conv=>whnf);repeat' (first  |((with_reducible first|apply kN|apply kW|apply kX|apply kG|apply kQ);(· exact sd);conv=>whnf)|(refine DW.mk ?_ ?_<;>intro hc<;>(try rw[List.length_nil]at hc)<;>first|(exfalso;omega)|(exact absurd rfl hc)|conv=>whnf)|(refine CB ?_ ?_<;>intro hc<;>conv=>whnf))
    refine(pqadj (g2:=c) (a:=a+L*3) hl (by omega) (by omega) hs (by omega)).mono ?_
    rintro _ _ ⟨c3,k,n3,rfl,rfl,h3,k1,k2⟩
    conv=>whnf
    apply Ez rfl
    (conv=>whnf);repeat' (first  |((with_reducible first|apply kN|apply kW|apply kX|apply kG|apply kQ);(· exact sd);conv=>whnf)|(refine DW.mk ?_ ?_<;>intro hc<;>(try rw[List.length_nil]at hc)<;>first|(exfalso;omega)|(exact absurd rfl hc)|conv=>whnf)|(refine CB ?_ ?_<;>intro hc<;>conv=>whnf))
    refine(pqmed (g2:=c) (a:=i) (b:=j) (e:=k) hl (by omega) (by omega) (by omega) hs (by omega)).mono ?_
    rintro _ _ ⟨c4,m,n4,rfl,rfl,h4,h5⟩
    conv=>whnf
    apply Ez rfl
    (conv=>whnf);repeat' (first  |((with_reducible first|apply kN|apply kW|apply kX|apply kG|apply kQ);(· exact sd);conv=>whnf)|(refine DW.mk ?_ ?_<;>intro hc<;>(try rw[List.length_nil]at hc)<;>first|(exfalso;omega)|(exact absurd rfl hc)|conv=>whnf)|(refine CB ?_ ?_<;>intro hc<;>conv=>whnf))
    all_goals exact⟨_,m,_,_,rfl,rfl,by omega,by omega⟩
  · refine(pqmed (g2:=c) (n:=0) (a:=a+L*1) (b:=a+L*2) (e:=a+L*3) hl (by omega) (by omega) (by omega) hs (by omega)).mono ?_
    rintro _ _ ⟨c4,m,n4,rfl,rfl,h4,h5⟩
    conv=>whnf
    apply Ez rfl
    (conv=>whnf);repeat' (first  |((with_reducible first|apply kN|apply kW|apply kX|apply kG|apply kQ);(· exact sd);conv=>whnf)|(refine DW.mk ?_ ?_<;>intro hc<;>(try rw[List.length_nil]at hc)<;>first|(exfalso;omega)|(exact absurd rfl hc)|conv=>whnf)|(refine CB ?_ ?_<;>intro hc<;>conv=>whnf))
    all_goals exact⟨_,m,_,_,rfl,rfl,by omega,by omega⟩
theorem pqrev {ob0:Obj} {g c len:Nat} {nn cl:Bool} {d:Array GX} {a b:Nat} (hl:d.size=len) (hb:b≤len) (hab:a<b) (hs:len<2^61):
    H6 (Dx tab) 202 [.own 1 g 0 len,.int .i64 a,.int .i64 b,.fn 58 []] ⟨[ob0,.arr g 8 nn cl (vs GX.av d.toList)],c⟩ fun out s'=>∃c' D,out=.ok (.tup [])∧s'=⟨[ob0,.arr g 8 nn cl (vs GX.av D.toList)],c'⟩∧PermIn a b d D:=by
  refine FH rfl rfl ?_
  (conv=>whnf);repeat' (first  |((with_reducible first|apply kN|apply kW|apply kX|apply kG|apply kQ);(· exact sd);conv=>whnf)|(refine DW.mk ?_ ?_<;>intro hc<;>(try rw[List.length_nil]at hc)<;>first|(exfalso;omega)|(exact absurd rfl hc)|conv=>whnf)|(refine CB ?_ ?_<;>intro hc<;>conv=>whnf))
  refine DK (fun m env s=>∃(i c:Nat) (z:Int) (D:Array GX),m=b-i∧a≤i∧i≤b∧z=(a:Int)+b-1-i∧PermIn a b d D∧env=[(0,.own 1 g 0 len),(8,.int .i64 i),(9,.int .i64 z)]∧s=⟨[ob0,.arr g 8 nn cl (vs GX.av D.toList)],c⟩) ?_ _ _ _ ⟨a,c,_,d,rfl,by omega,by omega,by omega,permIn_refl _ _ _,rfl,rfl⟩
  rintro _ _ _ ⟨i,c,z,D,rfl,hi,hib,hz,hD,rfl,rfl⟩
  refine⟨rfl,?_⟩
  have hDl:D.size=len:=by rw[hD.1,hl]
  (conv=>whnf);repeat' (first|((with_reducible show Iw _ _ _);refine nPK (i) ?_;conv=>whnf)|((with_reducible show Iw _ _ _);refine nPK (a+b-1-i) ?_;conv=>whnf)|((with_reducible show eqK _ _);refine tPK AyF (i) ?_;conv=>whnf)|((with_reducible show eqK _ _);refine tPK AyF (a+b-1-i) ?_;conv=>whnf)|((with_reducible first|apply kN|apply kW|apply kX|apply kG|apply kQ);(· exact sd);conv=>whnf)|(refine DW.mk ?_ ?_<;>intro hc<;>(try rw[List.length_nil]at hc)<;>first|(exfalso;omega)|(exact absurd rfl hc)|conv=>whnf)|(refine CB ?_ ?_<;>intro hc<;>conv=>whnf))
  · exact again.mk ⟨_,by omega,i+1,_,z-1,swp D i (a+b-1-i),rfl,by omega,by omega,by omega,permIn_trans _ _ _ _ _ hD (swp_permIn _ _ _ _ _ (by omega) (by omega) (by omega) (by omega) (by omega)),rfl,rfl⟩
  · exact⟨_,D,rfl,rfl,hD⟩
theorem pqnext {ob0:Obj} {obX:Obj} {g2 c:Nat} {r:Int}:
    H6 (Dx tab) 242 [.ref 2 g2 0 0] ⟨[ob0,  obX,.arr g2 1 true true [.int .u64 r]],c⟩ fun out s'=>∃c' r',out=.ok (.int .u64 r')∧s'=⟨[ob0,  obX,.arr g2 1 true true [.int .u64 r']],c'⟩:=by
  refine FH rfl rfl ?_
  (conv=>whnf);repeat' (first|(apply KJ rfl;conv=>whnf)|(apply ZH rfl;conv=>whnf)|((with_reducible first|apply kN|apply kW|apply kX|apply kG|apply kQ);(· exact sd);conv=>whnf)|(refine DW.mk ?_ ?_<;>intro hc<;>(try rw[List.length_nil]at hc)<;>first|(exfalso;omega)|(exact absurd rfl hc)|conv=>whnf)|(refine CB ?_ ?_<;>intro hc<;>conv=>whnf))
  exact⟨_,_,rfl,rfl⟩
theorem AJ8 {r:Int} {M:Nat} (h0:0<M) (h:M<2^63):∃n:Nat,IntKind.u64.wrap ((BitVec.ofInt IntKind.u64.bits r &&& BitVec.ofInt IntKind.u64.bits ((M-1:Nat):Int)).toNat:Int)=n∧n<M:=by
  have e:(BitVec.ofInt IntKind.u64.bits ((M-1:Nat):Int)).toNat=M-1:=by
    rw[BitVec.toNat_ofInt]
    show Int.toNat (((M-1:Nat):Int) % ((2 ^ 64:Nat):Int))=M-1
    omega
  refine⟨(BitVec.ofInt IntKind.u64.bits r &&& BitVec.ofInt IntKind.u64.bits ((M-1:Nat):Int)).toNat,AJ9 rfl (by omega) ?_,?_⟩
  · rw[BitVec.toNat_and,e]
    have:=@Nat.and_le_right (BitVec.ofInt IntKind.u64.bits r).toNat (M-1)
    show _<(2:Int) ^ 64
    omega
  · rw[BitVec.toNat_and,e]
    have:=@Nat.and_le_right (BitVec.ofInt IntKind.u64.bits r).toNat (M-1)
    omega
set_option maxHeartbeats 1000000 in
theorem pqbrk {ob0:Obj} {g c len:Nat} {nn cl:Bool} {d:Array GX} {a b:Nat} (hl:d.size=len) (hb:b≤len) (hab:a+12<b) (hs:len<2^61):
    H6 (Dx tab) 200 [.own 1 g 0 len,.int .i64 a,.int .i64 b,.fn 58 []] ⟨[ob0,.arr g 8 nn cl (vs GX.av d.toList)],c⟩ fun out s'=>∃c' D ob,out=.ok (.tup [])∧s'=⟨[ob0,.arr g 8 nn cl (vs GX.av D.toList),ob],c'⟩∧PermIn a b d D:=by
  refine FH rfl rfl ?_
  have hq:(b-a) / 4*4≤b-a:=Nat.div_mul_le_self _ _
  have hq2:3≤(b-a) / 4:=by omega
  generalize hL:(b-a) / 4=L at hq hq2
  (conv=>whnf);repeat' (first|(refine AgJ (b-a) 4 (by omega) (by omega) ?_;rw[hL];conv=>whnf)|(refine wrapN (b-a) rfl (by omega) (by show _<2^64;omega) ?_;conv=>whnf)|((with_reducible first|apply kN|apply kW|apply kX|apply kG|apply kQ);(· exact sd);conv=>whnf)|(refine DW.mk ?_ ?_<;>intro hc<;>(try rw[List.length_nil]at hc)<;>first|(exfalso;omega)|(exact absurd rfl hc)|conv=>whnf)|(refine CB ?_ ?_<;>intro hc<;>conv=>whnf))
  rw[show ((b:Int)-a)=((b-a:Nat):Int) by omega]
  refine BM (AyG (n:=b-a) (by omega) (by omega)) ?_
  rintro _ ⟨M,rfl,hM1,hM2⟩
  (conv=>whnf);repeat' (first|(refine AgJ (b-a) 4 (by omega) (by omega) ?_;rw[hL];conv=>whnf)|((with_reducible first|apply kN|apply kW|apply kX|apply kG|apply kQ);(· exact sd);conv=>whnf)|(refine DW.mk ?_ ?_<;>intro hc<;>(try rw[List.length_nil]at hc)<;>first|(exfalso;omega)|(exact absurd rfl hc)|conv=>whnf)|(refine CB ?_ ?_<;>intro hc<;>conv=>whnf))
  refine DK (fun m env s=>∃(k cc:Nat) (z r:Int) (D:Array GX),m=3-k∧k≤3∧z=(a:Int)+L*2-1+k∧PermIn a b d D∧env=[(0,.own 1 g 0 len),(1,.int .i64 a),(8,.int .i64 (b-a:Nat)),(9,.ref 2 c 0 0),(10,.int .u64 M),(11,.int .i64 z)]∧s=⟨[ob0,.arr g 8 nn cl (vs GX.av D.toList),.arr c 1 true true [.int .u64 r]],cc⟩) ?_ _ _ _ ⟨0,_,_,((b-a:Nat):Int),d,rfl,by omega,by omega,permIn_refl _ _ _,rfl,rfl⟩
  rintro _ _ _ ⟨k,c1,z,r,D,rfl,hk,hz,hD,rfl,rfl⟩
  refine⟨rfl,?_⟩
  have hDl:D.size=len:=by rw[hD.1,hl]
  (conv=>whnf);repeat' (first|(refine AgJ (b-a) 4 (by omega) (by omega) ?_;rw[hL];conv=>whnf)|((with_reducible first|apply kN|apply kW|apply kX|apply kG|apply kQ);(· exact sd);conv=>whnf)|(refine DW.mk ?_ ?_<;>intro hc<;>(try rw[List.length_nil]at hc)<;>first|(exfalso;omega)|(exact absurd rfl hc)|conv=>whnf)|(refine CB ?_ ?_<;>intro hc<;>conv=>whnf))
  · refine(pqnext).mono ?_
    rintro _ _ ⟨c2,r2,rfl,rfl⟩
    obtain⟨o,ho1,ho2⟩:=AJ8 (r:=r2) (M:=M) (by omega) (by omega)
    conv=>whnf
    apply Ez rfl
    (conv=>whnf);repeat' (first|(refine wrapN (M-1) rfl (by omega) (by show _<2^64;omega) ?_;conv=>whnf)|(apply KJ ho1;conv=>whnf)|(refine ZH (wrap_i64 (by omega) (by omega)) ?_;conv=>whnf)|((with_reducible show Iw _ _ _);refine nPK (a+(o-(b-a))) ?_;conv=>whnf)|((with_reducible show Iw _ _ _);refine nPK (a+o) ?_;conv=>whnf)|((with_reducible show Iw _ _ _);refine nPK (a+L*2-1+k) ?_;conv=>whnf)|((with_reducible show eqK _ _);refine tPK AyF (a+(o-(b-a))) ?_;conv=>whnf)|((with_reducible show eqK _ _);refine tPK AyF (a+o) ?_;conv=>whnf)|((with_reducible show eqK _ _);refine tPK AyF (a+L*2-1+k) ?_;conv=>whnf)|((with_reducible first|apply kN|apply kW|apply kX|apply kG|apply kQ);(· exact sd);conv=>whnf)|(refine DW.mk ?_ ?_<;>intro hc<;>(try rw[List.length_nil]at hc)<;>first|(exfalso;omega)|(exact absurd rfl hc)|conv=>whnf)|(refine CB ?_ ?_<;>intro hc<;>conv=>whnf))
    · exact again.mk ⟨_,by omega,k+1,_,_,_,swp D (a+L*2-1+k) (a+(o-(b-a))),rfl,by omega,by omega,permIn_trans _ _ _ _ _ hD (swp_permIn _ _ _ _ _ (by omega) (by omega) (by omega) (by omega) (by omega)),rfl,rfl⟩
    · exact again.mk ⟨_,by omega,k+1,_,_,_,swp D (a+L*2-1+k) (a+o),rfl,by omega,by omega,permIn_trans _ _ _ _ _ hD (swp_permIn _ _ _ _ _ (by omega) (by omega) (by omega) (by omega) (by omega)),rfl,rfl⟩
  · exact⟨_,D,_,rfl,rfl,hD⟩
end
end AI
end Go.Proofs.YtnbibfalljlmfaaGreatDoor
