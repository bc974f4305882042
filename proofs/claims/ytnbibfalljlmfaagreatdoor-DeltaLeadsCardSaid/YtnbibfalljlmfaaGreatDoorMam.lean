/- The reference's order of a value and null. The order of values: the program's walks. The order of values: the reference's walks. -/
import Derived.Test.YtnbibfalljlmfaaGreatDoorMai
import Derived.Test.YtnbibfalljlmfaaGreatDoorMaj
import Derived.Test.YtnbibfalljlmfaaGreatDoorMak
set_option linter.unusedVariables false
set_option maxRecDepth 4000
namespace Go.Proofs.YtnbibfalljlmfaaGreatDoor
namespace AI
def AK2 (k:Int):Int:=if k=0 then 0 else if k=1 then 1 else if k=2∨k=3 then 2 else if k=4 then 3 else if k=5 then 4 else if k=6 then 5 else if k=8 then 6 else 7
theorem clsR0 {k:Int}:AK2 k=0↔k=0:=by
  unfold AK2
  constructor
  · intro h
    repeat' split at h
    all_goals first|assumption|(exfalso;omega)
  · intro h;rw[if_pos h]
theorem AK3 {k:Int}:D8 (Dx tab) 168 [.int .i64 k] (· =.int .i64 (AK2 k)):=by
  refine Lu rfl rfl ?_
  (conv=>whnf);repeat' (first  |((with_reducible first|apply kN|apply kW|apply kX|apply kG|apply kQ);(· exact sd);conv=>whnf)|(refine DW.mk ?_ ?_<;>intro hc<;>(try rw[List.length_nil]at hc)<;>first|(exfalso;omega)|(exact absurd rfl hc)|conv=>whnf)|(refine CB ?_ ?_<;>intro hc<;>conv=>whnf))
  all_goals first
    |rfl
    | (unfold AK2;repeat' split
       all_goals first|rfl|(exfalso;omega))
theorem validK0 {v:GV} (hv:v.ok) (hk:v.k=0) {n:Int}:D8 (Dx tab) 228 [v.av,.int .i64 n] (· =.bool (decide (isNull v))):=by
  have hl:=hv.2.2.2.2.1
  unfold Ln at hl
  refine Lu rfl rfl ?_
  (conv=>whnf);repeat' (first|(refine KH (AgG (v:=v) (n:=false) (d:=false) (s:=false) (l:=false) hl) (fun hb=>?_) (fun hb=>?_)<;>conv=>whnf)|((with_reducible first|apply kN|apply kW|apply kX|apply kG|apply kQ);(· exact sd);conv=>whnf)|(refine DW.mk ?_ ?_<;>intro hc<;>(try rw[List.length_nil]at hc)<;>first|(exfalso;omega)|(exact absurd rfl hc)|conv=>whnf)|(refine CB ?_ ?_<;>intro hc<;>conv=>whnf))
  · unfold AG3 at hb
    exact Lp ⟨hk,hb.1.resolve_left (by decide),hb.2.1.resolve_left (by decide),hb.2.2.1.resolve_left (by decide),hb.2.2.2.resolve_left (by decide)⟩
  · unfold AG3 at hb
    exact Hf fun h=>hb ⟨.inr h.2.1,.inr h.2.2.1,.inr h.2.2.2.1,.inr h.2.2.2.2⟩
theorem validRN {v:GV} (hv:v.ok):D8 (Dx tab) 164 [v.av] (fun w=>∃b,w=.bool b∧(isNull v→b=true)∧(b=true→v.k=0→isNull v)):=by
  by_cases hk:v.k=0
  · refine Lu rfl rfl ?_
    (conv=>whnf);repeat' (first|(refine KH (validK0 hv hk) (fun hb=>?_) (fun hb=>?_)<;>conv=>whnf)|((with_reducible first|apply kN|apply kW|apply kX|apply kG|apply kQ);(· exact sd);conv=>whnf)|(refine DW.mk ?_ ?_<;>intro hc<;>(try rw[List.length_nil]at hc)<;>first|(exfalso;omega)|(exact absurd rfl hc)|conv=>whnf)|(refine CB ?_ ?_<;>intro hc<;>conv=>whnf))
    · exact⟨_,rfl,fun _=>rfl,fun _ _=>hb⟩
    · exact⟨_,rfl,fun h=>absurd h hb,fun h=>Bool.noConfusion h⟩
  · obtain⟨_,⟨b,rfl⟩,h⟩:=(Valid hv).det
    refine Lu rfl rfl ?_
    (conv=>whnf);repeat' (first|(refine BM (valid (n:=8) (by omega) hv) ?_;rintro _ ⟨b,rfl⟩;conv=>whnf)|((with_reducible first|apply kN|apply kW|apply kX|apply kG|apply kQ);(· exact sd);conv=>whnf)|(refine DW.mk ?_ ?_<;>intro hc<;>(try rw[List.length_nil]at hc)<;>first|(exfalso;omega)|(exact absurd rfl hc)|conv=>whnf)|(refine CB ?_ ?_<;>intro hc<;>conv=>whnf))
    all_goals exact⟨_,rfl,fun h=>absurd h.1 hk,fun _ h=>absurd h hk⟩
theorem intsR {a b:Int}:D8 (Dx tab) 167 [.int .i64 a,.int .i64 b] (fun v=>∃z,v=.int .i64 z∧(z=0↔a=b)):=by
  refine Lu rfl rfl ?_
  (conv=>whnf);repeat' (first  |((with_reducible first|apply kN|apply kW|apply kX|apply kG|apply kQ);(· exact sd);conv=>whnf)|(refine DW.mk ?_ ?_<;>intro hc<;>(try rw[List.length_nil]at hc)<;>first|(exfalso;omega)|(exact absurd rfl hc)|conv=>whnf)|(refine CB ?_ ?_<;>intro hc<;>conv=>whnf))
  all_goals exact⟨_,rfl,by omega⟩
theorem fieldsZ {v:GV} (h:isNull v):D8 (Dx tab) 166 [v.av,gv0.av] (· =.int .i64 0):=by
  obtain⟨k,n,d,s,nn,l⟩:=v
  obtain⟨h1,h2,h3,h4,h5⟩:=h
  dsimp only at h1 h2 h3 h4 h5
  subst h1 h2 h3 h4
  obtain rfl:l=[]:=List.eq_nil_of_length_eq_zero h5
  have hl:D8 (Dx tab) 230 [.sl nn [],.sl false []] (· =.int .i64 0):=by
    refine Lu rfl rfl ?_
    (conv=>whnf);repeat' (first  |((with_reducible first|apply kN|apply kW|apply kX|apply kG|apply kQ);(· exact sd);conv=>whnf)|(refine DW.mk ?_ ?_<;>intro hc<;>(try rw[List.length_nil]at hc)<;>first|(exfalso;omega)|(exact absurd rfl hc)|conv=>whnf)|(refine CB ?_ ?_<;>intro hc<;>conv=>whnf))
    refine DK (fun m env s=>m=0∧env=[(0,.sl nn []),(1,.sl false []),(5,.int .i64 0)]∧s=⟨[],0⟩) ?_ _ _ _ ⟨rfl,rfl,rfl⟩
    rintro _ _ _ ⟨rfl,rfl,rfl⟩
    refine⟨rfl,?_⟩
    (conv=>whnf);repeat' (first|(refine BM Az0 ?_;rintro _ rfl;conv=>whnf)|((with_reducible first|apply kN|apply kW|apply kX|apply kG|apply kQ);(· exact sd);conv=>whnf)|(refine DW.mk ?_ ?_<;>intro hc<;>(try rw[List.length_nil]at hc)<;>first|(exfalso;omega)|(exact absurd rfl hc)|conv=>whnf)|(refine CB ?_ ?_<;>intro hc<;>conv=>whnf))
    all_goals rfl
  refine Lu rfl rfl ?_
  (conv=>whnf);repeat' (first|(refine BM Az0 ?_;rintro _ rfl;conv=>whnf)|(refine BM Az1 ?_;rintro _ rfl;conv=>whnf)|(refine BM hl ?_;rintro _ rfl;conv=>whnf)|((with_reducible first|apply kN|apply kW|apply kX|apply kG|apply kQ);(· exact sd);conv=>whnf)|(refine DW.mk ?_ ?_<;>intro hc<;>(try rw[List.length_nil]at hc)<;>first|(exfalso;omega)|(exact absurd rfl hc)|conv=>whnf)|(refine CB ?_ ?_<;>intro hc<;>conv=>whnf))
  all_goals rfl
theorem numberR {g:GV} (hg:g.ok):D8 (Dx tab) 169 [g.av] (fun v=>∃n d b,v=.tup [.agg [.int .i64 n,.int .i64 d],.bool b]∧(b=true→g.k=2∨g.k=3)):=by
  refine Lu rfl rfl ?_
  (conv=>whnf);repeat' (first|(refine BM (Valid hg) ?_;rintro _ ⟨b,rfl⟩;conv=>whnf)|((with_reducible first|apply kN|apply kW|apply kX|apply kG|apply kQ);(· exact sd);conv=>whnf)|(refine DW.mk ?_ ?_<;>intro hc<;>(try rw[List.length_nil]at hc)<;>first|(exfalso;omega)|(exact absurd rfl hc)|conv=>whnf)|(refine CB ?_ ?_<;>intro hc<;>conv=>whnf))
  all_goals first|exact⟨_,_,_,rfl,fun h=>Bool.noConfusion h⟩|exact⟨_,_,_,rfl,fun _=>by omega⟩
theorem yesF:D8 (Dx tab) 165 [.bool false] (· =.int .i64 0):=by
  refine Lu rfl rfl ?_
  (conv=>whnf);repeat' (first  |((with_reducible first|apply kN|apply kW|apply kX|apply kG|apply kQ);(· exact sd);conv=>whnf)|(refine DW.mk ?_ ?_<;>intro hc<;>(try rw[List.length_nil]at hc)<;>first|(exfalso;omega)|(exact absurd rfl hc)|conv=>whnf)|(refine CB ?_ ?_<;>intro hc<;>conv=>whnf))
  rfl
theorem orderRN {v:GV} (hv:v.ok):D8 (Dx tab) 96 [v.av,gv0.av] (fun w=>∃z,w=.int .i64 z∧(z=0↔isNull v)):=by
  obtain⟨_,⟨b,rfl,v1,v2⟩,hV⟩:=(validRN hv).det
  obtain⟨_,⟨b0,rfl,w1,_⟩,hV0⟩:=(validRN ANo).det
  obtain rfl:=w1 ARH
  obtain⟨_,⟨n,d,b2,rfl,h2⟩,hN⟩:=(numberR hv).det
  obtain⟨_,⟨n0,d0,b3,rfl,h3⟩,hN0⟩:=(numberR ANo).det
  obtain⟨_,⟨z,rfl,hz⟩,hI⟩:=(intsR (a:=AK2 v.k) (b:=AK2 gv0.k)).det
  have h0:AK2 gv0.k=0:=rfl
  have hzk:z=0↔v.k=0:=by rw[hz,h0];exact clsR0
  cases b with
  | false=>
    have hnn:¬isNull v:=fun h=>by have:=v1 h;cases this
    refine Lu rfl rfl ?_
    (conv=>whnf);repeat' (first|(refine BM hV ?_;rintro _ rfl;conv=>whnf)|(refine BM hV0 ?_;rintro _ rfl;conv=>whnf)|(refine BM yesF ?_;rintro _ rfl;conv=>whnf)|((with_reducible first|apply kN|apply kW|apply kX|apply kG|apply kQ);(· exact sd);conv=>whnf)|(refine DW.mk ?_ ?_<;>intro hc<;>(try rw[List.length_nil]at hc)<;>first|(exfalso;omega)|(exact absurd rfl hc)|conv=>whnf)|(refine CB ?_ ?_<;>intro hc<;>conv=>whnf))
    all_goals exact⟨_,rfl,fun h=>absurd h (by decide),fun h=>absurd h hnn⟩
  | true=>
    by_cases hk:v.k=0
    · have hnl:=v2 rfl hk
      have hz0:=hzk.2 hk
      have hb2:b2=false:=by cases b2 with
        |false=>rfl
        |true=>have:=h2 rfl;omega
      subst hb2
      refine Lu rfl rfl ?_
      (conv=>whnf);repeat' (first|(refine BM hV ?_;rintro _ rfl;conv=>whnf)|(refine BM hV0 ?_;rintro _ rfl;conv=>whnf)|(refine BM (AK3 (k:=v.k)) ?_;rintro _ rfl;conv=>whnf)|(refine BM (AK3 (k:=gv0.k)) ?_;rintro _ rfl;conv=>whnf)|(refine BM hI ?_;rintro _ rfl;conv=>whnf)|(refine BM hN ?_;rintro _ rfl;conv=>whnf)|(refine BM hN0 ?_;rintro _ rfl;conv=>whnf)|(refine BM (fieldsZ hnl) ?_;rintro _ rfl;conv=>whnf)|((with_reducible first|apply kN|apply kW|apply kX|apply kG|apply kQ);(· exact sd);conv=>whnf)|(refine DW.mk ?_ ?_<;>intro hc<;>(try rw[List.length_nil]at hc)<;>first|(exfalso;omega)|(exact absurd rfl hc)|conv=>whnf)|(refine CB ?_ ?_<;>intro hc<;>conv=>whnf))
      all_goals exact⟨_,rfl,fun _=>hnl,fun _=>rfl⟩
    · have hz0:=mt hzk.1 hk
      refine Lu rfl rfl ?_
      (conv=>whnf);repeat' (first|(refine BM hV ?_;rintro _ rfl;conv=>whnf)|(refine BM hV0 ?_;rintro _ rfl;conv=>whnf)|(refine BM (AK3 (k:=v.k)) ?_;rintro _ rfl;conv=>whnf)|(refine BM (AK3 (k:=gv0.k)) ?_;rintro _ rfl;conv=>whnf)|(refine BM hI ?_;rintro _ rfl;conv=>whnf)|((with_reducible first|apply kN|apply kW|apply kX|apply kG|apply kQ);(· exact sd);conv=>whnf)|(refine DW.mk ?_ ?_<;>intro hc<;>(try rw[List.length_nil]at hc)<;>first|(exfalso;omega)|(exact absurd rfl hc)|conv=>whnf)|(refine CB ?_ ?_<;>intro hc<;>conv=>whnf))
      all_goals exact⟨_,rfl,fun h=>absurd h hz0,fun h=>absurd h.1 hk⟩
section
open Go.Sort
theorem AhJ {b:Int}:NH 0 b=b:=if_pos rfl
theorem Axu {a b:Int} (h:a≠0):NH a b=a:=if_neg h
def ElP (f:Nat) (c:AV→AV→Int) (x y:AV):Prop:=∃g h:GV,x=g.av∧y=h.av∧D8 (Dx tab) f [g.av,h.av] (· =.int .i64 (c x y))
theorem AmD {f:Nat} {c:AV→AV→Int} {l l':List AV} {nn nn':Bool} (hl:l.length<2^63) (hl':l'.length<2^63) (h0:∀i (h:i<l.length),∃g:GV,l[i]=g.av) (hel:∀i (h:i<l.length) (h':i<l'.length),ElP f c l[i] l'[i]):
    D8 (Dx tab) 196 [.sl nn l,.sl nn' l',.fn f []] (· =.int .i64 (Oz c l l')):=by
  refine Lu rfl rfl ?_
  (conv=>whnf);repeat' (first  |((with_reducible first|apply kN|apply kW|apply kX|apply kG|apply kQ);(· exact sd);conv=>whnf)|(refine DW.mk ?_ ?_<;>intro hc<;>(try rw[List.length_nil]at hc)<;>first|(exfalso;omega)|(exact absurd rfl hc)|conv=>whnf)|(refine CB ?_ ?_<;>intro hc<;>conv=>whnf))
  refine DK (fun m env s=>∃i k:Nat,m=l.length-i∧i≤l.length∧i≤l'.length∧Oz c (l.drop i) (l'.drop i)=Oz c l l'∧env=[(0,.sl nn l),(1,.sl nn' l'),(2,.fn f []),(11,.sl nn l),(12,.int .i64 l.length),(13,.int .i64 i)]∧s=⟨[],k⟩) ?_ _ _ _ ⟨0,_,rfl,by omega,by omega,by simp,rfl,rfl⟩
  rintro _ _ _ ⟨i,k,rfl,hi,hj,hc0,rfl,rfl⟩
  refine⟨rfl,?_⟩
  by_cases hlt:i<l.length
  · by_cases hly:i<l'.length
    · rw[Apx hlt hly]at hc0
      obtain⟨gx,gy,e1,e2,hp⟩:=hel i hlt hly
      have n1:nth l (Int.toNat (Nat.cast i))=some gx.av:=by rw[← e1];exact nRN hlt
      have n2:nth l' (Int.toNat (Nat.cast i))=some gy.av:=by rw[← e2];exact nRN hly
      generalize c l[i] l'[i]=z at*
      unfold NH at hc0
      (conv=>whnf);repeat' (first|(apply LX;(· exact n1);conv=>whnf)|(apply LX;(· exact n2);conv=>whnf)|(refine BM hp ?_;rintro _ rfl;conv=>whnf)|((with_reducible first|apply kN|apply kW|apply kX|apply kG|apply kQ);(· exact sd);conv=>whnf)|(refine DW.mk ?_ ?_<;>intro hc<;>(try rw[List.length_nil]at hc)<;>first|(exfalso;omega)|(exact absurd rfl hc)|conv=>whnf)|(refine CB ?_ ?_<;>intro hc<;>conv=>whnf))
      all_goals first
        |(rw [if_neg (by assumption)]at hc0;rw[← hc0];rfl)
        |(rw [if_pos (by assumption)]at hc0;exact again.mk ⟨_,by omega,i+1,_,rfl,by omega,by omega,hc0,rfl,rfl⟩)
        |(exfalso;omega)
        | (trace_state; fail "cmpF1")
    · have e2:l'.drop i=[]:=List.drop_eq_nil_of_le (by omega)
      obtain⟨gx,hx⟩:=h0 i hlt
      have n1:nth l (Int.toNat (Nat.cast i))=some gx.av:=by rw[← hx];exact nRN hlt
      rw[List.drop_eq_getElem_cons hlt,e2,Oz]at hc0
      (conv=>whnf);repeat' (first|(apply LX;(· exact n1);conv=>whnf)|((with_reducible first|apply kN|apply kW|apply kX|apply kG|apply kQ);(· exact sd);conv=>whnf)|(refine DW.mk ?_ ?_<;>intro hc<;>(try rw[List.length_nil]at hc)<;>first|(exfalso;omega)|(exact absurd rfl hc)|conv=>whnf)|(refine CB ?_ ?_<;>intro hc<;>conv=>whnf))
      all_goals first | (rw [← hc0]; rfl) | (exfalso; omega) | (trace_state; fail "cmpF2")
  · have e1:l.drop i=[]:=List.drop_eq_nil_of_le (by omega)
    rw[e1]at hc0
    by_cases hly:i<l'.length
    · rw[List.drop_eq_getElem_cons hly,Oz]at hc0
      (conv=>whnf);repeat' (first  |((with_reducible first|apply kN|apply kW|apply kX|apply kG|apply kQ);(· exact sd);conv=>whnf)|(refine DW.mk ?_ ?_<;>intro hc<;>(try rw[List.length_nil]at hc)<;>first|(exfalso;omega)|(exact absurd rfl hc)|conv=>whnf)|(refine CB ?_ ?_<;>intro hc<;>conv=>whnf))
      all_goals first | (rw [← hc0]; rfl) | (exfalso; omega) | (trace_state; fail "cmpF3")
    · have e2:l'.drop i=[]:=List.drop_eq_nil_of_le (by omega)
      rw[e2,Oz]at hc0
      (conv=>whnf);repeat' (first  |((with_reducible first|apply kN|apply kW|apply kX|apply kG|apply kQ);(· exact sd);conv=>whnf)|(refine DW.mk ?_ ?_<;>intro hc<;>(try rw[List.length_nil]at hc)<;>first|(exfalso;omega)|(exact absurd rfl hc)|conv=>whnf)|(refine CB ?_ ?_<;>intro hc<;>conv=>whnf))
      all_goals first | (rw [← hc0]; rfl) | (exfalso; omega) | (trace_state; fail "cmpF4")
theorem okN {v:GV} (hv:v.ok):v.l.length<2^63:=hv.2.2.2.2.1
theorem Apc {g:GV} (h:AyP g):pd g=dn g:=by
  have:=(Apb h).1
  unfold pd;rw[if_neg (by omega)]
theorem AwS {k:Int}:YH k=2↔k=2∨k=3:=by unfold YH;split<;>(try split)<;>omega
theorem elemV {a g:GV} {i:Nat} (h:VV 8 a) (hi:i<a.l.length) (e:a.l[i]=g.av):VV 8 g:=by
  by_cases h7:a.k=7
  · obtain⟨x,e1,_,x2⟩:=((AyL h7).1 h).2.2.2.2.2 i hi
    rw[e1]at e
    obtain rfl:=GV.AmG e
    exact ARp (m:=0) (by omega) (.inl x2)
  · by_cases h8:a.k=8
    · obtain⟨x,e1,x2⟩:=((ABQ (m:=7) h8).1 h).2.2.2.2 i hi
      rw[e1]at e
      obtain rfl:=GV.AmG e
      exact ARp (m:=7) (by omega) x2
    · rw[Axo h7 h8]at h
      have:=h.1
      omega
theorem AfQ {m:Nat} {v:GV} {i:Nat} (h:dep (m+1) v) (hi:i<v.l.length):∃g:GV,v.l[i]=g.av∧g.ok∧dep m g:=h _ (List.getElem_mem hi)
theorem AVW {a b c:Int}:fnz [a,b,c]=NH a (NH b c):=by
  simp only[fnz];congr 1;congr 1;unfold NH;split<;>omega
theorem AVX {a b c d:Int}:fnz [a,b,c,d]=NH a (NH b (NH c d)):=by
  simp only[fnz];congr 1;congr 1;congr 1;unfold NH;split<;>omega
theorem AVY {a b c d e:Int}:fnz [a,b,c,d,e]=NH a (NH b (NH c (NH d e))):=by
  simp only[fnz];congr 1;congr 1;congr 1;congr 1;unfold NH;split<;>omega
theorem AVZ {a b c:Int}:D8 (Dx tab) 112 [.sl true [.int .i64 a,.int .i64 b,.int .i64 c]] (· =.int .i64 (NH a (NH b c))):=by
  have h:=orV (l:=[a,b,c]) (nn:=true) (by simp)
  rw[AVW]at h
  exact h
theorem AX0 {a b c d:Int}:D8 (Dx tab) 112 [.sl true [.int .i64 a,.int .i64 b,.int .i64 c,.int .i64 d]] (· =.int .i64 (NH a (NH b (NH c d)))):=by
  have h:=orV (l:=[a,b,c,d]) (nn:=true) (by simp)
  rw[AVX]at h
  exact h
theorem AV0 {a b c d e:Int}:D8 (Dx tab) 112 [.sl true [.int .i64 a,.int .i64 b,.int .i64 c,.int .i64 d,.int .i64 e]] (· =.int .i64 (NH a (NH b (NH c (NH d e))))):=by
  have h:=orV (l:=[a,b,c,d,e]) (nn:=true) (by simp)
  rw[AVY]at h
  exact h
theorem AV1 {k k':Int}:D8 (Dx tab) 115 [.int .i64 (YH k),.int .i64 (YH k')] (· =.int .i64 (Qr (YH k) (YH k'))):=compare
theorem Ayv:∀(m:Nat) {a b:GV},a.ok→b.ok→dep m a→dep m b→VV 8 a→VV 8 b→D8 (Dx tab) 195 [a.av,b.av] (· =.int .i64 (Ajx m a b))
  |0,a,b,ha,hb,da,db,va,vb=>absurd da id
  | m + 1,a,b,ha,hb,da,db,va,vb=>by
    have k1:=AzM (v:=a)
    have k2:=AzM (v:=b)
    have k3:=AV1 (k:=a.k) (k':=b.k)
    unfold Ajx
    by_cases h0:Qr (YH a.k) (YH b.k)=0
    · rw[h0,AhJ]
      rw[h0]at k3
      have he:=Ym.1 h0
      by_cases h2:YH a.k=2
      · rw[if_pos h2]
        have na:AyP a:=⟨va,AwS.1 h2⟩
        have nb:AyP b:=⟨vb,AwS.1 (by omega)⟩
        have p1:=nP1 ha na
        have p2:=nP1 hb nb
        have p3:=ARq (Apb na) (Apb nb)
        unfold Aol
        rw[Apc na,Apc nb]
        refine Lu rfl rfl ?_
        (conv=>whnf);repeat' (first|(refine BM k1 ?_;rintro _ rfl;conv=>whnf)|(refine BM k2 ?_;rintro _ rfl;conv=>whnf)|(refine BM k3 ?_;rintro _ rfl;conv=>whnf)|(refine BM p1 ?_;rintro _ rfl;conv=>whnf)|(refine BM p2 ?_;rintro _ rfl;conv=>whnf)|(refine BM p3 ?_;rintro _ rfl;conv=>whnf)|((with_reducible first|apply kN|apply kW|apply kX|apply kG|apply kQ);(· exact sd);conv=>whnf)|(refine DW.mk ?_ ?_<;>intro hc<;>(try rw[List.length_nil]at hc)<;>first|(exfalso;omega)|(exact absurd rfl hc)|conv=>whnf)|(refine CB ?_ ?_<;>intro hc<;>conv=>whnf))
        all_goals first | rfl | (exfalso; omega) | (trace_state; fail "orderS1")
      · rw[if_neg h2]
        have p1:=AwA (x:=a.s) (y:=b.s)
        have p2:D8 (Dx tab) 115 [.int .i64 a.n,.int .i64 b.n] (· =.int .i64 (Qr a.n b.n)):=compare
        have p3:=AmD (f:=195) (c:=fun x y=>Ajx m (AdW x) (AdW y)) (nn:=a.nn) (nn':=b.nn) (okN ha) (okN hb) (fun i hi=>by
          obtain⟨g,e,_⟩:=AfQ da hi
          exact⟨g,e⟩) (fun i hi hi'=>by
          obtain⟨g,e1,g1,g2⟩:=AfQ da hi
          obtain⟨h,e2,h1,h2⟩:=AfQ db hi'
          refine⟨g,h,e1,e2,?_⟩
          rw[e1,e2]
          exact Ayv m g1 h1 g2 h2 (elemV va hi e1) (elemV vb hi' e2))
        have p4:=AVZ (a:=cS a.s b.s) (b:=Qr a.n b.n) (c:=Oz (fun x y=>Ajx m (AdW x) (AdW y)) a.l b.l)
        refine Lu rfl rfl ?_
        (conv=>whnf);repeat' (first|(refine BM k1 ?_;rintro _ rfl;conv=>whnf)|(refine BM k2 ?_;rintro _ rfl;conv=>whnf)|(refine BM k3 ?_;rintro _ rfl;conv=>whnf)|(refine BM p1 ?_;rintro _ rfl;conv=>whnf)|(refine BM p2 ?_;rintro _ rfl;conv=>whnf)|(refine BM p3 ?_;rintro _ rfl;conv=>whnf)|(refine BM p4 ?_;rintro _ rfl;conv=>whnf)|((with_reducible first|apply kN|apply kW|apply kX|apply kG|apply kQ);(· exact sd);conv=>whnf)|(refine DW.mk ?_ ?_<;>intro hc<;>(try rw[List.length_nil]at hc)<;>first|(exfalso;omega)|(exact absurd rfl hc)|conv=>whnf)|(refine CB ?_ ?_<;>intro hc<;>conv=>whnf))
        all_goals first | rfl | (exfalso; omega) | (trace_state; fail "orderS2")
    · rw[Axu h0]
      refine Lu rfl rfl ?_
      (conv=>whnf);repeat' (first|(refine BM k1 ?_;rintro _ rfl;conv=>whnf)|(refine BM k2 ?_;rintro _ rfl;conv=>whnf)|(refine BM k3 ?_;rintro _ rfl;conv=>whnf)|((with_reducible first|apply kN|apply kW|apply kX|apply kG|apply kQ);(· exact sd);conv=>whnf)|(refine DW.mk ?_ ?_<;>intro hc<;>(try rw[List.length_nil]at hc)<;>first|(exfalso;omega)|(exact absurd rfl hc)|conv=>whnf)|(refine CB ?_ ?_<;>intro hc<;>conv=>whnf))
      all_goals first | rfl | (exfalso; omega) | (trace_state; fail "orderS3")
theorem Ape:∀(m:Nat) {a b:GV},a.ok→b.ok→dep m a→dep m b→D8 (Dx tab) 114 [a.av,b.av] (· =.int .i64 (QK m a b))
  |0,a,b,ha,hb,da,db=>absurd da id
  | m + 1,a,b,ha,hb,da,db=>by
    unfold QK
    by_cases va:VV 8 a
    · have p1:=vP ha va
      rw[if_pos va]
      by_cases vb:VV 8 b
      · have p2:=vP hb vb
        have p3:=Ayv (m+1) ha hb da db va vb
        rw[if_pos vb]
        refine Lu rfl rfl ?_
        (conv=>whnf);repeat' (first|(refine BM p1 ?_;rintro _ rfl;conv=>whnf)|(refine BM p2 ?_;rintro _ rfl;conv=>whnf)|(refine BM p3 ?_;rintro _ rfl;conv=>whnf)|((with_reducible first|apply kN|apply kW|apply kX|apply kG|apply kQ);(· exact sd);conv=>whnf)|(refine DW.mk ?_ ?_<;>intro hc<;>(try rw[List.length_nil]at hc)<;>first|(exfalso;omega)|(exact absurd rfl hc)|conv=>whnf)|(refine CB ?_ ?_<;>intro hc<;>conv=>whnf))
        all_goals first | rfl | (trace_state; fail "orderV1")
      · have p2:=vPn hb vb
        rw[if_neg vb]
        refine Lu rfl rfl ?_
        (conv=>whnf);repeat' (first|(refine BM p1 ?_;rintro _ rfl;conv=>whnf)|(refine BM p2 ?_;rintro _ rfl;conv=>whnf)|((with_reducible first|apply kN|apply kW|apply kX|apply kG|apply kQ);(· exact sd);conv=>whnf)|(refine DW.mk ?_ ?_<;>intro hc<;>(try rw[List.length_nil]at hc)<;>first|(exfalso;omega)|(exact absurd rfl hc)|conv=>whnf)|(refine CB ?_ ?_<;>intro hc<;>conv=>whnf))
        all_goals first | rfl | (trace_state; fail "orderV2")
    · have p1:=vPn ha va
      rw[if_neg va]
      by_cases vb:VV 8 b
      · have p2:=vP hb vb
        rw[if_pos vb]
        refine Lu rfl rfl ?_
        (conv=>whnf);repeat' (first|(refine BM p1 ?_;rintro _ rfl;conv=>whnf)|(refine BM p2 ?_;rintro _ rfl;conv=>whnf)|((with_reducible first|apply kN|apply kW|apply kX|apply kG|apply kQ);(· exact sd);conv=>whnf)|(refine DW.mk ?_ ?_<;>intro hc<;>(try rw[List.length_nil]at hc)<;>first|(exfalso;omega)|(exact absurd rfl hc)|conv=>whnf)|(refine CB ?_ ?_<;>intro hc<;>conv=>whnf))
        all_goals first | rfl | (trace_state; fail "orderV3")
      · have p2:=vPn hb vb
        rw[if_neg vb]
        have q1:D8 (Dx tab) 115 [.int .i64 a.k,.int .i64 b.k] (· =.int .i64 (Qr a.k b.k)):=compare
        have q2:D8 (Dx tab) 115 [.int .i64 a.n,.int .i64 b.n] (· =.int .i64 (Qr a.n b.n)):=compare
        have q3:D8 (Dx tab) 115 [.int .i64 a.d,.int .i64 b.d] (· =.int .i64 (Qr a.d b.d)):=compare
        have q4:=AwA (x:=a.s) (y:=b.s)
        have q5:=AmD (f:=114) (c:=fun x y=>QK m (AdW x) (AdW y)) (nn:=a.nn) (nn':=b.nn) (okN ha) (okN hb) (fun i hi=>by
          obtain⟨g,e,_⟩:=AfQ da hi
          exact⟨g,e⟩) (fun i hi hi'=>by
          obtain⟨g,e1,g1,g2⟩:=AfQ da hi
          obtain⟨h,e2,h1,h2⟩:=AfQ db hi'
          refine⟨g,h,e1,e2,?_⟩
          rw[e1,e2]
          exact Ape m g1 h1 g2 h2)
        have q6:=AV0 (a:=Qr a.k b.k) (b:=Qr a.n b.n) (c:=Qr a.d b.d) (d:=cS a.s b.s) (e:=Oz (fun x y=>QK m (AdW x) (AdW y)) a.l b.l)
        refine Lu rfl rfl ?_
        (conv=>whnf);repeat' (first|(refine BM p1 ?_;rintro _ rfl;conv=>whnf)|(refine BM p2 ?_;rintro _ rfl;conv=>whnf)|(refine BM q1 ?_;rintro _ rfl;conv=>whnf)|(refine BM q2 ?_;rintro _ rfl;conv=>whnf)|(refine BM q3 ?_;rintro _ rfl;conv=>whnf)|(refine BM q4 ?_;rintro _ rfl;conv=>whnf)|(refine BM q5 ?_;rintro _ rfl;conv=>whnf)|(refine BM q6 ?_;rintro _ rfl;conv=>whnf)|((with_reducible first|apply kN|apply kW|apply kX|apply kG|apply kQ);(· exact sd);conv=>whnf)|(refine DW.mk ?_ ?_<;>intro hc<;>(try rw[List.length_nil]at hc)<;>first|(exfalso;omega)|(exact absurd rfl hc)|conv=>whnf)|(refine CB ?_ ?_<;>intro hc<;>conv=>whnf))
        all_goals first | rfl | (trace_state; fail "orderV4")
end
section
open Go.Sort
theorem Ap1 {a b:Int}:D8 (Dx tab) 167 [.int .i64 a,.int .i64 b] (· =.int .i64 (Qr a b)):=by
  refine Lu rfl rfl ?_
  (conv=>whnf);repeat' (first  |((with_reducible first|apply kN|apply kW|apply kX|apply kG|apply kQ);(· exact sd);conv=>whnf)|(refine DW.mk ?_ ?_<;>intro hc<;>(try rw[List.length_nil]at hc)<;>first|(exfalso;omega)|(exact absurd rfl hc)|conv=>whnf)|(refine CB ?_ ?_<;>intro hc<;>conv=>whnf))
  all_goals exact congrArg (AV.int .i64) (by unfold Qr;repeat' split
                                             all_goals omega)
theorem AAc {x y:List UInt8}:D8 (Dx tab) 229 [.str x,.str y] (· =.int .i64 (cS x y)):=by
  refine Lu rfl rfl ?_
  (conv=>whnf);repeat' (first  |((with_reducible first|apply kN|apply kW|apply kX|apply kG|apply kQ);(· exact sd);conv=>whnf)|(refine DW.mk ?_ ?_<;>intro hc<;>(try rw[List.length_nil]at hc)<;>first|(exfalso;omega)|(exact absurd rfl hc)|conv=>whnf)|(refine CB ?_ ?_<;>intro hc<;>conv=>whnf))
  all_goals first | exact AWL hc | exact AWM (by assumption) hc | exact AWN hc | (trace_state; fail "strsRc")
theorem Ayf {c:AV→AV→Int} {l l':List AV} {nn nn':Bool} (hl:l.length<2^63) (hl':l'.length<2^63) (hel:∀i (h:i<l.length) (h':i<l'.length),ElP 96 c l[i] l'[i]):
    D8 (Dx tab) 230 [.sl nn l,.sl nn' l'] (· =.int .i64 (Oz c l l')):=by
  refine Lu rfl rfl ?_
  (conv=>whnf);repeat' (first  |((with_reducible first|apply kN|apply kW|apply kX|apply kG|apply kQ);(· exact sd);conv=>whnf)|(refine DW.mk ?_ ?_<;>intro hc<;>(try rw[List.length_nil]at hc)<;>first|(exfalso;omega)|(exact absurd rfl hc)|conv=>whnf)|(refine CB ?_ ?_<;>intro hc<;>conv=>whnf))
  refine DK (fun m env s=>∃i k:Nat,m=l.length-i∧i≤l.length∧i≤l'.length∧Oz c (l.drop i) (l'.drop i)=Oz c l l'∧env=[(0,.sl nn l),(1,.sl nn' l'),(5,.int .i64 i)]∧s=⟨[],k⟩) ?_ _ _ _ ⟨0,_,rfl,by omega,by omega,by simp,rfl,rfl⟩
  rintro _ _ _ ⟨i,k,rfl,hi,hj,hc0,rfl,rfl⟩
  refine⟨rfl,?_⟩
  have hfin:(¬ i<l.length∨¬i<l'.length)→Qr l.length l'.length=Oz c l l':=fun h=>by
    rw[← hc0]
    by_cases h1:i<l.length
    · have e2:l'.drop i=[]:=List.drop_eq_nil_of_le (by omega)
      rw[List.drop_eq_getElem_cons h1,e2,Oz]
      unfold Qr;repeat' split
      all_goals omega
    · have e1:l.drop i=[]:=List.drop_eq_nil_of_le (by omega)
      rw[e1]
      by_cases h2:i<l'.length
      · rw[List.drop_eq_getElem_cons h2,Oz]
        unfold Qr;repeat' split
        all_goals omega
      · have e2:l'.drop i=[]:=List.drop_eq_nil_of_le (by omega)
        rw[e2,Oz]
        unfold Qr;repeat' split
        all_goals omega
  have hin:D8 (Dx tab) 167 [.int .i64 l.length,.int .i64 l'.length] (· =.int .i64 (Qr l.length l'.length)):=Ap1
  by_cases hlt:i<l.length
  · by_cases hly:i<l'.length
    · rw[Apx hlt hly]at hc0
      obtain⟨gx,gy,e1,e2,hp⟩:=hel i hlt hly
      have n1:nth l (Int.toNat (Nat.cast i))=some gx.av:=by rw[← e1];exact nRN hlt
      have n2:nth l' (Int.toNat (Nat.cast i))=some gy.av:=by rw[← e2];exact nRN hly
      generalize c l[i] l'[i]=z at*
      unfold NH at hc0
      clear hfin hin
      (conv=>whnf);repeat' (first|(apply LX;(· exact n1);conv=>whnf)|(apply LX;(· exact n2);conv=>whnf)|(refine BM hp ?_;rintro _ rfl;conv=>whnf)|((with_reducible first|apply kN|apply kW|apply kX|apply kG|apply kQ);(· exact sd);conv=>whnf)|(refine DW.mk ?_ ?_<;>intro hc<;>(try rw[List.length_nil]at hc)<;>first|(exfalso;omega)|(exact absurd rfl hc)|conv=>whnf)|(refine CB ?_ ?_<;>intro hc<;>conv=>whnf))
      all_goals first
        |(rw [if_neg (by assumption)]at hc0;rw[← hc0];rfl)
        |(rw [if_pos (by assumption)]at hc0;exact again.mk ⟨_,by omega,i+1,_,rfl,by omega,by omega,hc0,rfl,rfl⟩)
        |(exfalso;omega)
        | (trace_state; fail "listsR1")
    · rw[hfin (.inr hly)]at hin
      (conv=>whnf);repeat' (first|(refine BM hin ?_;rintro _ rfl;conv=>whnf)|((with_reducible first|apply kN|apply kW|apply kX|apply kG|apply kQ);(· exact sd);conv=>whnf)|(refine DW.mk ?_ ?_<;>intro hc<;>(try rw[List.length_nil]at hc)<;>first|(exfalso;omega)|(exact absurd rfl hc)|conv=>whnf)|(refine CB ?_ ?_<;>intro hc<;>conv=>whnf))
      all_goals first | rfl | (exfalso; omega) | (trace_state; fail "listsR2")
  · rw[hfin (.inl hlt)]at hin
    (conv=>whnf);repeat' (first|(refine BM hin ?_;rintro _ rfl;conv=>whnf)|((with_reducible first|apply kN|apply kW|apply kX|apply kG|apply kQ);(· exact sd);conv=>whnf)|(refine DW.mk ?_ ?_<;>intro hc<;>(try rw[List.length_nil]at hc)<;>first|(exfalso;omega)|(exact absurd rfl hc)|conv=>whnf)|(refine CB ?_ ?_<;>intro hc<;>conv=>whnf))
    all_goals first | rfl | (exfalso; omega) | (trace_state; fail "listsR3")
theorem Ap2 {a b :GV} {L:Int} (hL:D8 (Dx tab) 230 [.sl a.nn a.l,.sl b.nn b.l] (· =.int .i64 L)):
    D8 (Dx tab) 166 [a.av,b.av] (· =.int .i64 (NH (Qr a.k b.k) (NH (Qr a.n b.n) (NH (Qr a.d b.d) (NH (cS a.s b.s) L))))):=by
  have q1:D8 (Dx tab) 167 [.int .i64 a.k,.int .i64 b.k] (· =.int .i64 (Qr a.k b.k)):=Ap1
  have q2:D8 (Dx tab) 167 [.int .i64 a.n,.int .i64 b.n] (· =.int .i64 (Qr a.n b.n)):=Ap1
  have q3:D8 (Dx tab) 167 [.int .i64 a.d,.int .i64 b.d] (· =.int .i64 (Qr a.d b.d)):=Ap1
  have q4:=AAc (x:=a.s) (y:=b.s)
  generalize Qr a.k b.k=z1 at*
  generalize Qr a.n b.n=z2 at*
  generalize Qr a.d b.d=z3 at*
  generalize cS a.s b.s=z4 at*
  have e:∀x y:Int,x=y→AV.int .i64 x=.int .i64 y:=fun x y h=>by rw[h]
  refine Lu rfl rfl ?_
  (conv=>whnf);repeat' (first|(refine BM q1 ?_;rintro _ rfl;conv=>whnf)|(refine BM q2 ?_;rintro _ rfl;conv=>whnf)|(refine BM q3 ?_;rintro _ rfl;conv=>whnf)|(refine BM q4 ?_;rintro _ rfl;conv=>whnf)|(refine BM hL ?_;rintro _ rfl;conv=>whnf)|((with_reducible first|apply kN|apply kW|apply kX|apply kG|apply kQ);(· exact sd);conv=>whnf)|(refine DW.mk ?_ ?_<;>intro hc<;>(try rw[List.length_nil]at hc)<;>first|(exfalso;omega)|(exact absurd rfl hc)|conv=>whnf)|(refine CB ?_ ?_<;>intro hc<;>conv=>whnf))
  all_goals first
    |exact e _ _ (by rw[Axu (by assumption)])
    | exact e _ _ (by unfold NH;repeat' split
                      all_goals omega)
    | (trace_state; fail "fieldsRc")
theorem Amm {a:GV} (h:VV 8 a):0≤a.k∧a.k≤8:=by
  by_cases h7:a.k=7
  · omega
  · by_cases h8:a.k=8
    · omega
    · rw[Axo h7 h8]at h
      obtain⟨_,h⟩:=h
      omega
theorem ABW {k k':Int} (h:0≤k∧k≤8) (h':0≤k'∧k'≤8):Qr (AK2 k) (AK2 k')=Qr (YH k) (YH k'):=by
  have h1:k=0∨k=1∨k=2∨k=3∨k=4∨k=5∨k=6∨k=7∨k=8:=by omega
  have h2:k'=0∨k'=1∨k'=2∨k'=3∨k'=4∨k'=5∨k'=6∨k'=7∨k'=8:=by omega
  rcases h1 with rfl|rfl|rfl|rfl|rfl|rfl|rfl|rfl|rfl<;>rcases h2 with rfl|rfl|rfl|rfl|rfl|rfl|rfl|rfl|rfl<;>decide
theorem AAd {a:GV} (h:VV 8 a) (h2:¬YH a.k=2):a.d=0∧(a.k=4→a.n=0)∧(a.k≠4→a.s=[]):=by
  rw[AwS]at h2
  by_cases h7:a.k=7
  · have:=(AyL h7).1 h
    exact⟨this.2.1,fun h=>by omega,fun _=>this.2.2.1⟩
  · by_cases h8:a.k=8
    · have:=(ABQ (m:=7) h8).1 h
      exact⟨this.2.1,fun h=>by omega,fun _=>this.2.2.1⟩
    · obtain⟨k1,k2⟩:=AWO h h7 h8
      rw[Axo h7 h8]at h
      obtain⟨_,h⟩:=h
      refine⟨?_,k1,k2⟩
      rcases h with h|h|h|h|h|h<;>first|exact h.2.2.1|exact h.2.2.2.1|(exfalso;omega)
set_option maxHeartbeats 1000000 in
theorem Apa :∀(m:Nat) {a b:GV},a.ok→b.ok→dep m a→dep m b→D8 (Dx tab) 96 [a.av,b.av] (· =.int .i64 (QK m a b))
  |0,a,b,ha,hb,da,db=>absurd da id
  | m + 1, a, b,ha,hb,da,db=>by
    unfold QK
    by_cases va:VV 8 a
    · have p1 :=vR ha va
      rw[if_pos va]
      by_cases vb:VV 8 b
      · have p2 :=vR hb vb
        rw[if_pos vb]
        have k1:=AK3 (k:=a.k)
        have k2:=AK3 (k:=b.k)
        have k3:D8 (Dx tab) 167 [.int .i64 (AK2 a.k),.int .i64 (AK2 b.k)] (· =.int .i64 (Qr (YH a.k) (YH b.k))):=by
          rw[← ABW (Amm va) (Amm vb)];exact Ap1
        unfold Ajx
        by_cases h0:Qr (YH a.k) (YH b.k)=0
        · rw[h0,AhJ]
          rw[h0]at k3
          have he:=Ym.1 h0
          by_cases h2:YH a.k=2
          · rw[if_pos h2]
            have na:AyP a:=⟨va,AwS.1 h2⟩
            have nb:AyP b:=⟨vb,AwS.1 (by omega)⟩
            have q1:=nR1 ha na
            have q2:=nR1 hb nb
            have q3:=AG7 (Apb na) (Apb nb)
            unfold Aol
            rw[Apc na,Apc nb]
            refine Lu rfl rfl ?_
            (conv=>whnf);repeat' (first|(refine BM p1 ?_;rintro _ rfl;conv=>whnf)|(refine BM p2 ?_;rintro _ rfl;conv=>whnf)|(refine BM k1 ?_;rintro _ rfl;conv=>whnf)|(refine BM k2 ?_;rintro _ rfl;conv=>whnf)|(refine BM k3 ?_;rintro _ rfl;conv=>whnf)|(refine BM q1 ?_;rintro _ rfl;conv=>whnf)|(refine BM q2 ?_;rintro _ rfl;conv=>whnf)|(refine BM q3 ?_;rintro _ rfl;conv=>whnf)|((with_reducible first|apply kN|apply kW|apply kX|apply kG|apply kQ);(· exact sd);conv=>whnf)|(refine DW.mk ?_ ?_<;>intro hc<;>(try rw[List.length_nil]at hc)<;>first|(exfalso;omega)|(exact absurd rfl hc)|conv=>whnf)|(refine CB ?_ ?_<;>intro hc<;>conv=>whnf))
            all_goals first | rfl | (exfalso; omega) | (trace_state; fail "orderR1")
          · rw[if_neg h2]
            have na:¬AyP a:=fun h=>h2 (AwS.2 h.2)
            have nb:¬AyP b:=fun h=>h2 (by rw[he];exact AwS.2 h.2)
            have q1:=nR0 ha na
            have q2:=nR0 hb nb
            have hkk:a.k=b.k:=by
              have:=Amm va
              have:=Amm vb
              rw[AwS]at h2
              unfold YH at he
              repeat' split at he
              all_goals omega
            obtain⟨f1,f2,f3⟩:=AAd va h2
            obtain⟨g1,g2,g3⟩:=AAd vb (by rw[← he];exact h2)
            have q3:=Ap2 (a:=a) (b:=b) (Ayf (c:=fun x y=>Ajx m (AdW x) (AdW y)) (nn:=a.nn) (nn':=b.nn) (okN ha) (okN hb) (fun i hi hi'=>by
              obtain⟨g,e1,g1,g2⟩:=AfQ da hi
              obtain⟨h,e2,h1,h2⟩:=AfQ db hi'
              refine⟨g,h,e1,e2,?_⟩
              rw[e1,e2]
              have:=Apa m g1 h1 g2 h2
              have e:QK m g h=Ajx m g h:=by
                cases m with
                |zero=>exact absurd g2 id
                |succ m=>unfold QK;rw[if_pos (elemV va hi e1),if_pos (elemV vb hi' e2)]
              rw[e]at this
              exact this))
            have e:NH (Qr a.k b.k) (NH (Qr a.n b.n) (NH (Qr a.d b.d) (NH (cS a.s b.s) (Oz (fun x y=>Ajx m (AdW x) (AdW y)) a.l b.l))))=NH (cS a.s b.s) (NH (Qr a.n b.n) (Oz (fun x y=>Ajx m (AdW x) (AdW y)) a.l b.l)):=by
              rw[Ym.2 hkk,AhJ,f1,g1,Ym.2 rfl,AhJ]
              by_cases h4:a.k=4
              · rw[f2 h4,g2 (by omega),Ym.2 rfl,AhJ,AhJ]
              · rw[f3 h4,g3 (by omega),ABX.2 rfl,AhJ,AhJ]
            rw[e]at q3
            refine Lu rfl rfl ?_
            (conv=>whnf);repeat' (first|(refine BM p1 ?_;rintro _ rfl;conv=>whnf)|(refine BM p2 ?_;rintro _ rfl;conv=>whnf)|(refine BM k1 ?_;rintro _ rfl;conv=>whnf)|(refine BM k2 ?_;rintro _ rfl;conv=>whnf)|(refine BM k3 ?_;rintro _ rfl;conv=>whnf)|(refine BM q1 ?_;rintro _ rfl;conv=>whnf)|(refine BM q2 ?_;rintro _ rfl;conv=>whnf)|(refine BM q3 ?_;rintro _ rfl;conv=>whnf)|((with_reducible first|apply kN|apply kW|apply kX|apply kG|apply kQ);(· exact sd);conv=>whnf)|(refine DW.mk ?_ ?_<;>intro hc<;>(try rw[List.length_nil]at hc)<;>first|(exfalso;omega)|(exact absurd rfl hc)|conv=>whnf)|(refine CB ?_ ?_<;>intro hc<;>conv=>whnf))
            all_goals first | rfl | (exfalso; omega) | (trace_state; fail "orderR2")
        · rw[Axu h0]
          refine Lu rfl rfl ?_
          (conv=>whnf);repeat' (first|(refine BM p1 ?_;rintro _ rfl;conv=>whnf)|(refine BM p2 ?_;rintro _ rfl;conv=>whnf)|(refine BM k1 ?_;rintro _ rfl;conv=>whnf)|(refine BM k2 ?_;rintro _ rfl;conv=>whnf)|(refine BM k3 ?_;rintro _ rfl;conv=>whnf)|((with_reducible first|apply kN|apply kW|apply kX|apply kG|apply kQ);(· exact sd);conv=>whnf)|(refine DW.mk ?_ ?_<;>intro hc<;>(try rw[List.length_nil]at hc)<;>first|(exfalso;omega)|(exact absurd rfl hc)|conv=>whnf)|(refine CB ?_ ?_<;>intro hc<;>conv=>whnf))
          all_goals first | rfl | (exfalso; omega) | (trace_state; fail "orderR3")
      · have p2:=vRn hb vb
        rw[if_neg vb]
        refine Lu rfl rfl ?_
        (conv=>whnf);repeat' (first|(refine BM p1 ?_;rintro _ rfl;conv=>whnf)|(refine BM p2 ?_;rintro _ rfl;conv=>whnf)|(refine BM AVt ?_;rintro _ rfl;conv=>whnf)|(refine BM AQN ?_;rintro _ rfl;conv=>whnf)|((with_reducible first|apply kN|apply kW|apply kX|apply kG|apply kQ);(· exact sd);conv=>whnf)|(refine DW.mk ?_ ?_<;>intro hc<;>(try rw[List.length_nil]at hc)<;>first|(exfalso;omega)|(exact absurd rfl hc)|conv=>whnf)|(refine CB ?_ ?_<;>intro hc<;>conv=>whnf))
        all_goals first | rfl | (exfalso; simp_all; done) | (trace_state; fail "orderR4")
    · have p1:=vRn ha va
      rw[if_neg va]
      by_cases vb:VV 8 b
      · have p2:=vR hb vb
        rw[if_pos vb]
        refine Lu rfl rfl ?_
        (conv=>whnf);repeat' (first|(refine BM p1 ?_;rintro _ rfl;conv=>whnf)|(refine BM p2 ?_;rintro _ rfl;conv=>whnf)|(refine BM AVt ?_;rintro _ rfl;conv=>whnf)|(refine BM AQN ?_;rintro _ rfl;conv=>whnf)|((with_reducible first|apply kN|apply kW|apply kX|apply kG|apply kQ);(· exact sd);conv=>whnf)|(refine DW.mk ?_ ?_<;>intro hc<;>(try rw[List.length_nil]at hc)<;>first|(exfalso;omega)|(exact absurd rfl hc)|conv=>whnf)|(refine CB ?_ ?_<;>intro hc<;>conv=>whnf))
        all_goals first | rfl | (exfalso; simp_all; done) | (trace_state; fail "orderR5")
      · have p2:=vRn hb vb
        rw[if_neg vb]
        have q3:=Ap2 (a:=a) (b:=b) (Ayf (c:=fun x y=>QK m (AdW x) (AdW y)) (nn:=a.nn) (nn':=b.nn) (okN ha) (okN hb) (fun i hi hi'=>by
          obtain⟨g,e1,g1,g2⟩:=AfQ da hi
          obtain⟨h,e2,h1,h2⟩:=AfQ db hi'
          refine⟨g,h,e1,e2,?_⟩
          rw[e1,e2]
          exact Apa m g1 h1 g2 h2))
        refine Lu rfl rfl ?_
        (conv=>whnf);repeat' (first|(refine BM p1 ?_;rintro _ rfl;conv=>whnf)|(refine BM p2 ?_;rintro _ rfl;conv=>whnf)|(refine BM q3 ?_;rintro _ rfl;conv=>whnf)|((with_reducible first|apply kN|apply kW|apply kX|apply kG|apply kQ);(· exact sd);conv=>whnf)|(refine DW.mk ?_ ?_<;>intro hc<;>(try rw[List.length_nil]at hc)<;>first|(exfalso;omega)|(exact absurd rfl hc)|conv=>whnf)|(refine CB ?_ ?_<;>intro hc<;>conv=>whnf))
        all_goals first | rfl | (exfalso; simp_all; done) | (trace_state; fail "orderR6")
end
end AI
end Go.Proofs.YtnbibfalljlmfaaGreatDoor
