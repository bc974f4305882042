/- The null value. The program's order of a value and null. The order of values: plain. Names in a list, increasing strings, labels and properties. What is wrong with labels and properties. Looking for a node among increasing ids. -/
import Derived.Test.YtnbibfalljlmfaaGreatDoorMaf
import Derived.Test.YtnbibfalljlmfaaGreatDoorMaj
import Derived.Test.YtnbibfalljlmfaaGreatDoorMag
set_option linter.unusedVariables false
set_option maxRecDepth 4000
namespace Go.Proofs.YtnbibfalljlmfaaGreatDoor
namespace AI
def gv0:GV:=⟨0,0,0,[],false,[]⟩
theorem ANo:gv0.ok:=⟨by unfold I64 gv0;dsimp only;omega,by unfold I64 gv0;dsimp only;omega,by unfold I64 gv0;dsimp only;omega,by simp[Ln,gv0],by simp[Ln,gv0],fun _=>rfl,by simp[gv0]⟩
def isNull (v:GV):Prop:=v.k=0∧v.n=0∧v.d=0∧v.s=[]∧v.l.length=0
instance (v:GV):Decidable (isNull v):=by unfold isNull;infer_instance
theorem ARH:isNull gv0:=⟨rfl,rfl,rfl,rfl,rfl⟩
theorem vv_null {v:GV} (hk:v.k=0):VV 8 v↔isNull v:=by
  rw[Axo (by omega) (by omega)]
  unfold VB isNull
  constructor
  · rintro⟨h1,h⟩
    rcases h with h|h|h|h|h|h<;>first|exact⟨hk,h.2.1,h.2.2.1,h.2.2.2,h1⟩|(exfalso;omega)
  · rintro⟨_,h1,h2,h3,h4⟩
    exact⟨h4,.inl ⟨hk,h1,h2,h3⟩⟩
def YH (k:Int):Int:=if k=3 then 2 else if k=7 then 9 else k
theorem AzM {v:GV}:D8 (Dx tab) 251 [v.av] (· =.int .i64 (YH v.k)):=by
  refine Lu rfl rfl ?_
  (conv=>whnf);repeat' (first  |((with_reducible first|apply kN|apply kW|apply kX|apply kG|apply kQ);(· exact sd);conv=>whnf)|(refine DW.mk ?_ ?_<;>intro hc<;>(try rw[List.length_nil]at hc)<;>first|(exfalso;omega)|(exact absurd rfl hc)|conv=>whnf)|(refine CB ?_ ?_<;>intro hc<;>conv=>whnf))
  all_goals first | (unfold YH; rw [if_pos (by assumption)]; rfl) | (unfold YH; rw [if_neg (by assumption), if_pos (by assumption)]; rfl) | (unfold YH; rw [if_neg (by assumption), if_neg (by assumption)]; rfl) | (trace_state; fail "classP")
theorem clsP0 {k:Int}:YH k=0↔k=0:=by unfold YH;split<;>(try split)<;>omega
theorem AWG {x:List UInt8}:D8 (Dx tab) 194 [.str x] (· =.bool false):=by
  refine Lu rfl rfl ?_
  (conv=>whnf);repeat' (first  |((with_reducible first|apply kN|apply kW|apply kX|apply kG|apply kQ);(· exact sd);conv=>whnf)|(refine DW.mk ?_ ?_<;>intro hc<;>(try rw[List.length_nil]at hc)<;>first|(exfalso;omega)|(exact absurd rfl hc)|conv=>whnf)|(refine CB ?_ ?_<;>intro hc<;>conv=>whnf))
  all_goals first | rfl | (exfalso; simp_all) | (trace_state; fail "nanSC")
theorem cmpS0:D8 (Dx tab) 113 [.str [],.str []] (· =.int .i64 0):=⟨_,⟨20,by kernel_rfl⟩,rfl⟩
theorem or3 {nn:Bool}:D8 (Dx tab) 112 [.sl nn [.int .i64 0,.int .i64 0,.int .i64 0]] (· =.int .i64 0):=by
  cases nn
  · exact⟨_,⟨20,by kernel_rfl⟩,rfl⟩
  · exact⟨_,⟨20,by kernel_rfl⟩,rfl⟩
theorem AWH {nn:Bool} {f:Nat}:D8 (Dx tab) 196 [.sl nn [],.sl false [],.fn f []] (· =.int .i64 0):=by
  refine Lu rfl rfl ?_
  (conv=>whnf);repeat' (first  |((with_reducible first|apply kN|apply kW|apply kX|apply kG|apply kQ);(· exact sd);conv=>whnf)|(refine DW.mk ?_ ?_<;>intro hc<;>(try rw[List.length_nil]at hc)<;>first|(exfalso;omega)|(exact absurd rfl hc)|conv=>whnf)|(refine CB ?_ ?_<;>intro hc<;>conv=>whnf))
  refine DK (fun m env s=>m=0∧env=[(0,.sl nn []),(1,.sl false []),(2,.fn f []),(11,.sl nn []),(12,.int .i64 0),(13,.int .i64 0)]∧s=⟨[],0⟩) ?_ _ _ _ ⟨rfl,rfl,rfl⟩
  rintro _ _ _ ⟨rfl,rfl,rfl⟩
  refine⟨rfl,?_⟩
  (conv=>whnf);repeat' (first  |((with_reducible first|apply kN|apply kW|apply kX|apply kG|apply kQ);(· exact sd);conv=>whnf)|(refine DW.mk ?_ ?_<;>intro hc<;>(try rw[List.length_nil]at hc)<;>first|(exfalso;omega)|(exact absurd rfl hc)|conv=>whnf)|(refine CB ?_ ?_<;>intro hc<;>conv=>whnf))
  all_goals first | rfl | (exfalso; simp_all) | (trace_state; fail "cmpF0")
theorem AVc {v:GV} (h:isNull v):D8 (Dx tab) 195 [v.av,gv0.av] (· =.int .i64 0):=by
  obtain⟨k,n,d,s,nn,l⟩:=v
  obtain⟨h1,h2,h3,h4,h5⟩:=h
  dsimp only at h1 h2 h3 h4 h5
  subst h1 h2 h3 h4
  obtain rfl:l=[]:=List.eq_nil_of_length_eq_zero h5
  have hc1:D8 (Dx tab) 251 [GV.av ⟨0,0,0,[],nn,[]⟩] (· =.int .i64 0):=AzM (v:=⟨0,0,0,[],nn,[]⟩)
  have hc2:D8 (Dx tab) 251 [gv0.av] (· =.int .i64 0):=AzM (v:=gv0)
  have hc3:D8 (Dx tab) 115 [.int .i64 0,.int .i64 0] (· =.int .i64 0):=compare
  refine Lu rfl rfl ?_
  (conv=>whnf);repeat' (first|(refine BM hc1 ?_;rintro _ rfl;conv=>whnf)|(refine BM hc2 ?_;rintro _ rfl;conv=>whnf)|(refine BM hc3 ?_;rintro _ rfl;conv=>whnf)|(refine BM cmpS0 ?_;rintro _ rfl;conv=>whnf)|(refine BM AWH ?_;rintro _ rfl;conv=>whnf)|(refine BM or3 ?_;rintro _ rfl;conv=>whnf)|((with_reducible first|apply kN|apply kW|apply kX|apply kG|apply kQ);(· exact sd);conv=>whnf)|(refine DW.mk ?_ ?_<;>intro hc<;>(try rw[List.length_nil]at hc)<;>first|(exfalso;omega)|(exact absurd rfl hc)|conv=>whnf)|(refine CB ?_ ?_<;>intro hc<;>conv=>whnf))
  all_goals first | rfl | (exfalso; simp_all) | (trace_state; fail "orderZ")
theorem ATJ {v:GV} (h:v.k≠0):D8 (Dx tab) 195 [v.av,gv0.av] (fun w=>∃z,w=.int .i64 z∧z≠0):=by
  have hc2:D8 (Dx tab) 251 [gv0.av] (· =.int .i64 0):=AzM (v:=gv0)
  obtain⟨z,hz,hz0⟩:∃z,Qr (YH v.k) 0=z∧z≠0:=⟨_,rfl,fun h0=>h (clsP0.1 (Ym.1 h0))⟩
  have hc3:D8 (Dx tab) 115 [.int .i64 (YH v.k),.int .i64 0] (· =.int .i64 z):=hz▸compare
  refine Lu rfl rfl ?_
  (conv=>whnf);repeat' (first|(refine BM (AzM (v:=v)) ?_;rintro _ rfl;conv=>whnf)|(refine BM hc2 ?_;rintro _ rfl;conv=>whnf)|(refine BM hc3 ?_;rintro _ rfl;conv=>whnf)|((with_reducible first|apply kN|apply kW|apply kX|apply kG|apply kQ);(· exact sd);conv=>whnf)|(refine DW.mk ?_ ?_<;>intro hc<;>(try rw[List.length_nil]at hc)<;>first|(exfalso;omega)|(exact absurd rfl hc)|conv=>whnf)|(refine CB ?_ ?_<;>intro hc<;>conv=>whnf))
  all_goals first | exact ⟨_, rfl, hz0⟩ | (exfalso; omega) | (trace_state; fail "orderNZ")
theorem AEc {v:GV} (hv:v.ok):D8 (Dx tab) 114 [v.av,gv0.av] (fun w=>∃z,w=.int .i64 z∧(z=0↔isNull v)):=by
  have hq:D8 (Dx tab) 192 [gv0.av] (· =.bool true):=by
    have:=AVA ANo;rwa [decide_eq_true ((vv_null rfl).2 ARH)]at this
  have hp:=AVA hv
  by_cases hVV:VV 8 v
  · rw[decide_eq_true hVV]at hp
    by_cases hk:v.k=0
    · have hn:=(vv_null hk).1 hVV
      refine Lu rfl rfl ?_
      (conv=>whnf);repeat' (first|(refine BM hp ?_;rintro _ rfl;conv=>whnf)|(refine BM hq ?_;rintro _ rfl;conv=>whnf)|(refine BM (AVc hn) ?_;rintro _ rfl;conv=>whnf)|((with_reducible first|apply kN|apply kW|apply kX|apply kG|apply kQ);(· exact sd);conv=>whnf)|(refine DW.mk ?_ ?_<;>intro hc<;>(try rw[List.length_nil]at hc)<;>first|(exfalso;omega)|(exact absurd rfl hc)|conv=>whnf)|(refine CB ?_ ?_<;>intro hc<;>conv=>whnf))
      all_goals first | exact ⟨_, rfl, fun _ => hn, fun _ => rfl⟩ | (trace_state; fail "orderPN1")
    · refine Lu rfl rfl ?_
      (conv=>whnf);repeat' (first|(refine BM hp ?_;rintro _ rfl;conv=>whnf)|(refine BM hq ?_;rintro _ rfl;conv=>whnf)|(refine BM (ATJ hk) ?_;rintro _ ⟨z,rfl,hz⟩;conv=>whnf)|((with_reducible first|apply kN|apply kW|apply kX|apply kG|apply kQ);(· exact sd);conv=>whnf)|(refine DW.mk ?_ ?_<;>intro hc<;>(try rw[List.length_nil]at hc)<;>first|(exfalso;omega)|(exact absurd rfl hc)|conv=>whnf)|(refine CB ?_ ?_<;>intro hc<;>conv=>whnf))
      all_goals first | exact ⟨_, rfl, fun h => absurd h hz, fun h => absurd h.1 hk⟩ | (trace_state; fail "orderPN2")
  · rw[decide_eq_false hVV]at hp
    have hn:¬isNull v:=fun h=>hVV ((vv_null h.1).2 h)
    refine Lu rfl rfl ?_
    (conv=>whnf);repeat' (first|(refine BM hp ?_;rintro _ rfl;conv=>whnf)|(refine BM hq ?_;rintro _ rfl;conv=>whnf)|((with_reducible first|apply kN|apply kW|apply kX|apply kG|apply kQ);(· exact sd);conv=>whnf)|(refine DW.mk ?_ ?_<;>intro hc<;>(try rw[List.length_nil]at hc)<;>first|(exfalso;omega)|(exact absurd rfl hc)|conv=>whnf)|(refine CB ?_ ?_<;>intro hc<;>conv=>whnf))
    all_goals first | exact ⟨_, rfl, fun h => absurd h (by decide), fun h => absurd h hn⟩ | (trace_state; fail "orderPN3")
section
open Go.Sort
def AdW:AV→GV
  | .agg [.int _ k,.int _ n,.int _ d,.str s,.sl nn l]=>⟨k,n,d,s,nn,l⟩
  |_=>⟨0,0,0,[],false,[]⟩
theorem Ax6 (g:GV):AdW g.av=g:=rfl
def dep:Nat→GV→Prop
  |0,_=>False
  |m+1,v=>∀x∈v.l,∃g:GV,x=g.av∧g.ok∧dep m g
theorem Auy:∀{m k:Nat} {v:GV},m≤k→dep m v→dep k v
  |0,_,_,_,h=>absurd h id
  |m+1,0,_,h,_=>by omega
  | m+1,k+1,v,h,hd=>fun x hx=>by
    obtain⟨g,e,h1,h2⟩:=hd x hx
    exact⟨g,e,h1,Auy (by omega) h2⟩
def Oz (c:AV→AV→Int):List AV→List AV→Int
  |[],[]=>0
  |[],_::_=>-1
  |_::_,[]=>1
  |a::x,b::y=>NH (c a b) (Oz c x y)
theorem Apw {c:AV→AV→Int} (hc:PC c):∀x y,Oz c y x=-Oz c x y
  |[],[]=>rfl
  |[],_::_=>rfl
  |_::_,[]=>rfl
  | a::x,b::y=>by
    have h1:=hc.anti a b
    have h2:=Apw hc x y
    simp only[Oz,NH]
    split<;>split<;>omega
theorem Aog {c:AV→AV→Int} (hc:PC c):∀x y z,Oz c x y≤0→Oz c y z≤0→Oz c x z≤0
  |[],_,[],_,_=>Int.le_refl 0
  |[],_,_::_,_,_=>by show(-1:Int)≤0;omega
  |_::_,[],_,h,_=>absurd h (by show¬(1:Int)≤0;omega)
  |_::_,_::_,[],_,h=>absurd h (by show¬(1:Int)≤0;omega)
  | a::x,b::y,d::z,h1,h2=>by
    have ih:=Aog hc x y z
    have a1:=hc.trans a b d
    have a2:=hc.trans b d a
    have a3:=hc.trans d a b
    have b1:=hc.anti a b
    have b2:=hc.anti b d
    have b3:=hc.anti a d
    simp only[Oz,NH]at*
    split at h1<;>split at h2<;>split<;>omega
theorem PC.lists {c:AV→AV→Int} (hc:PC c):PC (Oz c):=⟨Apw hc,Aog hc⟩
theorem Apx {c:AV→AV→Int} {x y:List AV} {i:Nat} (hx:i<x.length) (hy:i<y.length):Oz c (x.drop i) (y.drop i)=NH (c x[i] y[i]) (Oz c (x.drop (i+1)) (y.drop (i+1))):=by
  rw[List.drop_eq_getElem_cons hx,List.drop_eq_getElem_cons hy,Oz]
theorem PC.AQF {α:Type} {c d e:α→α→Int} {p:α→Prop} [DecidablePred p] (hc:PC c) (hd:PC d) (he:PC e) (hp:∀x y,c x y=0→(p x↔p y)):PC fun x y=>NH (c x y) (if p x then d x y else e x y) where
  anti x y:=by
    have h1:=hc.anti x y
    have h2:=hd.anti x y
    have h3:=he.anti x y
    have h4:=hp x y
    unfold NH
    by_cases h0:c x y=0
    · rw[if_pos (by omega),if_pos h0]
      by_cases hx:p x
      · rw[if_pos hx,if_pos ((h4 h0).1 hx)];exact h2
      · rw[if_neg hx,if_neg (fun h=>hx ((h4 h0).2 h))];exact h3
    · rw[if_neg (by omega),if_neg h0];exact h1
  trans x y z h1 h2:=by
    have a0:=hc.trans z y x
    have a1:=hc.trans x y z
    have a2:=hc.trans y z x
    have a3:=hc.trans z x y
    have b1:=hc.anti x y
    have b2:=hc.anti y z
    have b3:=hc.anti x z
    have d1:=hd.trans x y z
    have e1:=he.trans x y z
    have p1:=hp x y
    have p2:=hp y z
    unfold NH at*
    by_cases h0:c x y=0
    · rw[if_pos h0]at h1
      by_cases h00:c y z=0
      · rw[if_pos h00]at h2
        rw[if_pos (by omega)]
        by_cases hx:p x
        · rw[if_pos hx]at h1 ⊢
          rw[if_pos ((p1 h0).1 hx)]at h2
          exact d1 h1 h2
        · rw[if_neg hx]at h1 ⊢
          rw[if_neg (fun h=>hx ((p1 h0).2 h))]at h2
          exact e1 h1 h2
      · rw[if_neg h00]at h2
        rw[if_neg (by omega)]
        omega
    · rw[if_neg h0]at h1
      by_cases h00:c y z=0
      · rw[if_neg (by omega)]
        omega
      · rw[if_neg h00]at h2
        rw[if_neg (by omega)]
        omega
def pd (g:GV):Int:=if dn g≤0 then 1 else dn g
theorem Axn (g:GV):0<pd g:=by unfold pd;split<;>omega
def Aol (a b:GV):Int:=sgn (a.n*pd b-b.n*pd a)
theorem Az2 {a b:GV}:Aol a b≤0↔a.n*pd b≤b.n*pd a:=by
  unfold Aol sgn;split
  · omega
  · split<;>omega
theorem ABO:PC Aol where
  anti x y := by unfold Aol sgn;repeat' split
                 all_goals omega
  trans x y z h1 h2:=by
    rw[Az2]at*
    have p1:=Axn x
    have p2:=Axn y
    have p3:=Axn z
    have e1:x.n*pd y*pd z≤y.n*pd x*pd z:=Int.mul_le_mul_of_nonneg_right h1 (by omega)
    have e2:y.n*pd z*pd x≤z.n*pd y*pd x:=Int.mul_le_mul_of_nonneg_right h2 (by omega)
    have e3:x.n*pd z*pd y≤z.n*pd x*pd y:=by
      rw[Int.mul_right_comm x.n,Int.mul_right_comm z.n]
      rw[Int.mul_right_comm y.n]at e2
      omega
    exact Int.le_of_mul_le_mul_right e3 p2
def Ajx:Nat→GV→GV→Int
  |0,_,_=>0
  |m+1,a,b=>NH (Qr (YH a.k) (YH b.k)) (if YH a.k=2 then Aol a b else NH (cS a.s b.s) (NH (Qr a.n b.n) (Oz (fun x y=>Ajx m (AdW x) (AdW y)) a.l b.l)))
theorem Ax7 {α:Type}:PC fun _ _:α=>0:=⟨fun _ _=>rfl,fun _ _ _ _ _=>Int.le_refl 0⟩
theorem Ax8:∀m,PC (Ajx m)
  |0=>Ax7
  | m+1=>PC.AQF (p:=fun a:GV=>YH a.k=2) (Auz.on fun a:GV=>YH a.k) ABO ((AKL.on GV.s).lex ((Auz.on GV.n).lex (((Ax8 m).on AdW).lists.on GV.l))) fun x y h=>by
    have h:Qr (YH x.k) (YH y.k)=0:=h
    rw[Ym]at h
    show YH x.k=2↔YH y.k=2
    rw[h]
theorem PC.two {α:Type} {d e:α→α→Int} {p:α→Prop} [DecidablePred p] (hd:PC d) (he:PC e):PC fun x y=>if p x then if p y then d x y else -1 else if p y then 1 else e x y where
  anti x y:=by
    have h2:=hd.anti x y
    have h3:=he.anti x y
    by_cases hx:p x<;>by_cases hy:p y<;>simp only[hx,hy,if_true,if_false]<;>first|assumption|rfl
  trans x y z h1 h2:=by
    have d1:=hd.trans x y z
    have e1:=he.trans x y z
    by_cases hx:p x<;>by_cases hy:p y<;>by_cases hz:p z<;>simp only[hx,hy,hz,if_true,if_false]at* <;>first|exact d1 h1 h2|exact e1 h1 h2|omega
noncomputable def QK:Nat→GV→GV→Int
  |0,_,_=>0
  | m +1,a,b=>if VV 8 a then if VV 8 b then Ajx (m+1) a b else -1 else if VV 8 b then 1 else
      NH (Qr a.k b.k) (NH (Qr a.n b.n) (NH (Qr a.d b.d) (NH (cS a.s b.s) (Oz (fun x y=>QK m (AdW x) (AdW y)) a.l b.l))))
theorem Ao5:∀m,PC (QK m)
  |0=>Ax7
  |m+1=>PC.two (p:=fun a=>VV 8 a) (Ax8 (m+1)) ((Auz.on GV.k).lex ((Auz.on GV.n).lex ((Auz.on GV.d).lex ((AKL.on GV.s).lex (((Ao5 m).on AdW).lists.on GV.l)))))
end
def allNames (l:List (List UInt8)):Prop:=∀s∈l,isName s
noncomputable instance (l:List (List UInt8)):Decidable (allNames l):=Classical.propDecidable _
def rises (l:List (List UInt8)):Prop:=∀j (h:j+1<l.length),(Op.bytesLess l[j+1] l[j]||l[j+1]==l[j])=false
noncomputable instance (l:List (List UInt8)):Decidable (rises l):=Classical.propDecidable _
theorem unn {s:List UInt8} (hl:s.length<2^63):D8 (Dx tab) 130 [.str s] (· =.bool (decide (¬ isName s))):=by
  refine Lu rfl rfl ?_
  (conv=>whnf);repeat' (first|((with_reducible first|apply kN|apply kW|apply kX|apply kG|apply kQ);(· exact sd);conv=>whnf)|(refine DW.mk ?_ ?_<;>intro hc<;>(try rw[List.length_nil]at hc)<;>first|(exfalso;omega)|(exact absurd rfl hc)|conv=>whnf)|(refine KH (name1 hl) (fun hr=>?_) (fun hr=>?_)<;>conv=>whnf)|(refine CB ?_ ?_<;>intro hc<;>conv=>whnf))
  · exact Hf (fun h=>h hr)
  · exact Lp hr
theorem idxUn {l:List (List UInt8)} {nn:Bool} (hl:l.length<2^63) (hs:∀s∈l,s.length<2^63):D8 (Dx tab) 208 [.sl nn (vs .str l),.fn 130 []] (fun v=>∃z,v=.int .i64 z∧(0≤z↔¬allNames l)):=by
  refine Lu rfl rfl ?_
  (conv=>whnf);repeat' (first|((with_reducible first|apply kN|apply kW|apply kX|apply kG|apply kQ);(· exact sd);conv=>whnf)|(refine DW.mk ?_ ?_<;>intro hc<;>(try rw[List.length_nil]at hc)<;>first|(exfalso;omega)|(exact absurd rfl hc)|conv=>whnf)  |(refine CB ?_ ?_<;>intro hc<;>conv=>whnf))
  refine DK (fun m env s=>∃i:Nat,m=l.length-i∧env=[(0,.sl nn (vs .str l)),(1,.fn 130 []),(7,.int .i64 l.length),(8,.int .i64 i)]∧s=⟨[],0⟩∧∀s∈l.take i,isName s) ?_ _ _ _ ⟨0,rfl,by simp,rfl,by simp⟩
  rintro _ _ _ ⟨i,rfl,rfl,rfl,hx⟩
  refine⟨rfl,?_⟩
  (conv=>whnf);repeat' (first|((with_reducible first|apply kN|apply kW|apply kX|apply kG|apply kQ);(· exact sd);conv=>whnf)|(refine DW.mk ?_ ?_<;>intro hc<;>(try rw[List.length_nil]at hc)<;>first|(exfalso;omega)|(exact absurd rfl hc)|conv=>whnf)|(refine KH (unn (hs _ (List.getElem_mem (by omega)))) (fun hr=>?_) (fun hr=>?_)<;>conv=>whnf)|(refine CB ?_ ?_<;>intro hc<;>conv=>whnf))
  · exact⟨_,rfl,fun _ h=>hr (h _ (List.getElem_mem _)),fun _=>by omega⟩
  · exact again.mk ⟨_,by omega,i+1,rfl,rfl,rfl,AfD (by omega) hx (Decidable.of_not_not hr)⟩
  · rw[TP hc]at hx;exact⟨_,rfl,fun h=>absurd h (by omega),fun h=>absurd hx h⟩
theorem contUn {l:List (List UInt8)} {nn:Bool} (hl:l.length<2^63) (hs:∀s∈l,s.length<2^63):D8 (Dx tab) 129 [.sl nn (vs .str l),.fn 130 []] (· =.bool (decide (¬ allNames l))):=by
  refine Lu rfl rfl ?_
  (conv=>whnf);repeat' (first|((with_reducible first|apply kN|apply kW|apply kX|apply kG|apply kQ);(· exact sd);conv=>whnf)|(refine DW.mk ?_ ?_<;>intro hc<;>(try rw[List.length_nil]at hc)<;>first|(exfalso;omega)|(exact absurd rfl hc)|conv=>whnf)  |(refine CB ?_ ?_<;>intro hc<;>conv=>whnf))
  refine BM (idxUn hl hs) ?_
  rintro _ ⟨z,rfl,hz⟩
  (conv=>whnf);repeat' (first|((with_reducible first|apply kN|apply kW|apply kX|apply kG|apply kQ);(· exact sd);conv=>whnf)|(refine DW.mk ?_ ?_<;>intro hc<;>(try rw[List.length_nil]at hc)<;>first|(exfalso;omega)|(exact absurd rfl hc)|conv=>whnf)  |(refine CB ?_ ?_<;>intro hc<;>conv=>whnf))
  · exact Lp (hz.1 hc)
  · exact Hf (mt hz.2 hc)
theorem namesR {l:List (List UInt8)} {nn:Bool} (hl:l.length<2^63) (hs:∀s∈l,s.length<2^63):D8 (Dx tab) 119 [.sl nn (vs .str l)] (· =.bool (decide (allNames l))):=by
  refine Lu rfl rfl ?_
  (conv=>whnf);repeat' (first|((with_reducible first|apply kN|apply kW|apply kX|apply kG|apply kQ);(· exact sd);conv=>whnf)|(refine DW.mk ?_ ?_<;>intro hc<;>(try rw[List.length_nil]at hc)<;>first|(exfalso;omega)|(exact absurd rfl hc)|conv=>whnf)  |(refine CB ?_ ?_<;>intro hc<;>conv=>whnf))
  refine DK (fun m env s=>∃i:Nat,m=l.length-i∧env=[(0,.sl nn (vs .str l)),(3,.int .i64 i)]∧s=⟨[],0⟩∧∀s∈l.take i,isName s) ?_ _ _ _ ⟨0,rfl,rfl,rfl,by simp⟩
  rintro _ _ _ ⟨i,rfl,rfl,rfl,hx⟩
  refine⟨rfl,?_⟩
  (conv=>whnf);repeat' (first|((with_reducible first|apply kN|apply kW|apply kX|apply kG|apply kQ);(· exact sd);conv=>whnf)|(refine DW.mk ?_ ?_<;>intro hc<;>(try rw[List.length_nil]at hc)<;>first|(exfalso;omega)|(exact absurd rfl hc)|conv=>whnf)|(refine KH (name2 (hs _ (List.getElem_mem (by omega)))) (fun hr=>?_) (fun hr=>?_)<;>conv=>whnf)|(refine CB ?_ ?_<;>intro hc<;>conv=>whnf))
  · exact again.mk ⟨_,by omega,i+1,rfl,rfl,rfl,AfD (by omega) hx hr⟩
  · exact Hf fun h=>hr (h _ (List.getElem_mem _))
  · rw[TP hc]at hx;exact Lp hx
theorem rises1 {l:List (List UInt8)} {nn:Bool} (hl:l.length<2^63):D8 (Dx tab) 131 [.sl nn (vs .str l)] (· =.bool (decide (rises l))):=by
  refine Lu rfl rfl ?_
  (conv=>whnf);repeat' (first|((with_reducible first|apply kN|apply kW|apply kX|apply kG|apply kQ);(· exact sd);conv=>whnf)|(refine DW.mk ?_ ?_<;>intro hc<;>(try rw[List.length_nil]at hc)<;>first|(exfalso;omega)|(exact absurd rfl hc)|conv=>whnf)  |(refine CB ?_ ?_<;>intro hc<;>conv=>whnf))
  refine DK (fun m env s=>∃i:Nat,m=l.length-i∧env=[(0,.sl nn (vs .str l)),(3,.int .i64 (i+1:Nat))]∧s=⟨[],0⟩∧∀j (h:j+1<l.length),j<i→(Op.bytesLess l[j+1] l[j]||l[j+1]==l[j])=false) ?_ _ _ _ ⟨0,rfl,rfl,rfl,fun j _ h=>absurd h (by omega)⟩
  rintro _ _ _ ⟨i,rfl,rfl,rfl,hx⟩
  refine⟨rfl,?_⟩
  (conv=>whnf);repeat' (first|((with_reducible first|apply kN|apply kW|apply kX|apply kG|apply kQ);(· exact sd);conv=>whnf)|(refine DW.mk ?_ ?_<;>intro hc<;>(try rw[List.length_nil]at hc)<;>first|(exfalso;omega)|(exact absurd rfl hc)|conv=>whnf)|(apply LX;(· exact nVz i (by omega) (by omega));conv=>whnf)|(refine CB ?_ ?_<;>intro hc<;>conv=>whnf))
  · exact Hf fun h=>by simp only[show (((i+1:Nat):Int)-1).toNat=i by omega]at hc;rw[h i (by omega)]at hc;cases hc
  · simp only[show (((i+1:Nat):Int)-1).toNat=i by omega]at hc
    exact again.mk ⟨_,by omega,i+1,rfl,rfl,rfl,fun j h hj=>by
      by_cases e:j=i
      · subst e;simpa using hc
      · exact hx j h (by omega)⟩
  · exact Lp fun j h=>hx j h (by omega)
theorem rises2 {l:List (List UInt8)} {nn:Bool} (hl:l.length<2^63):D8 (Dx tab) 120 [.sl nn (vs .str l)] (· =.bool (decide (rises l))):=by
  refine Lu rfl rfl ?_
  (conv=>whnf);repeat' (first|((with_reducible first|apply kN|apply kW|apply kX|apply kG|apply kQ);(· exact sd);conv=>whnf)|(refine DW.mk ?_ ?_<;>intro hc<;>(try rw[List.length_nil]at hc)<;>first|(exfalso;omega)|(exact absurd rfl hc)|conv=>whnf)  |(refine CB ?_ ?_<;>intro hc<;>conv=>whnf))
  refine DK (fun m env s=>∃i:Nat,m=l.length-i∧env=[(0,.sl nn (vs .str l)),(3,.int .i64 (i+1:Nat))]∧s=⟨[],0⟩∧∀j (h:j+1<l.length),j<i→(Op.bytesLess l[j+1] l[j]||l[j+1]==l[j])=false) ?_ _ _ _ ⟨0,rfl,rfl,rfl,fun j _ h=>absurd h (by omega)⟩
  rintro _ _ _ ⟨i,rfl,rfl,rfl,hx⟩
  refine⟨rfl,?_⟩
  (conv=>whnf);repeat' (first|((with_reducible first|apply kN|apply kW|apply kX|apply kG|apply kQ);(· exact sd);conv=>whnf)|(refine DW.mk ?_ ?_<;>intro hc<;>(try rw[List.length_nil]at hc)<;>first|(exfalso;omega)|(exact absurd rfl hc)|conv=>whnf)|(apply LX;(· exact nVz i (by omega) (by omega));conv=>whnf)|(refine CB ?_ ?_<;>intro hc<;>conv=>whnf))
  · exact Hf fun h=>by simp only[show (((i+1:Nat):Int)-1).toNat=i by omega]at hc;rw[h i (by omega)]at hc;cases hc
  · simp only[show (((i+1:Nat):Int)-1).toNat=i by omega]at hc
    exact again.mk ⟨_,by omega,i+1,rfl,rfl,rfl,fun j h hj=>by
      by_cases e:j=i
      · subst e;simpa using hc
      · exact hx j h (by omega)⟩
  · exact Lp fun j h=>hx j h (by omega)
theorem apVS {g len:Nat} {nn cl:Bool} {l:List (List UInt8)} {x:List UInt8} {bytes:Nat} {K:Nat→Bool→Bool→List AV→Prop} (hl:len=l.length) (hr:(l.length+1)*bytes≤2 ^ 46) (h:K (len+1) true cl (vs .str (l++[x]))):
    Aya g g 1 1 len nn cl true (vs .str l) [.str x] bytes K:=by
  subst hl
  refine⟨⟨rfl,rfl,by simp,allSize_one rfl,hr⟩,?_⟩
  rw[snoc_vs,Bool.and_true]
  simpa using h
def keysOf (P:List GP):List (List UInt8):=P.map GP.key
@[simp] theorem PO (P:List GP):(keysOf P).length=P.length:=by simp[keysOf]
theorem keysOf_ln {P:List GP} (hp:∀p∈P,p.ok):∀s∈keysOf P,s.length<2^63:=by
  intro s h
  obtain⟨p,h1,rfl⟩:=List.mem_map.1 h
  exact(hp p h1).1
theorem keysOf_snoc {P:List GP} {i:Nat} (h:i<P.length):keysOf (P.take i)++[(P[i]).key]=keysOf (P.take (i+1)):=by
  rw[List.take_succ_eq_append_getElem h];unfold keysOf;rw[List.map_append];rfl
def allPlain (P:List GP):Prop:=∀p∈P,AjD p.v
noncomputable instance (P:List GP):Decidable (allPlain P):=Classical.propDecidable _
noncomputable def Ap6 (L:List (List UInt8)) (P:List GP):Int:=
  if 8<L.length∨16<P.length then 4 else if¬(allNames L∧allNames (keysOf P))then 6 else if¬(rises L∧rises (keysOf P))then 26 else if¬allPlain P then 8 else 0
theorem AT7 {L:List (List UInt8)} {P:List GP} (h:8<L.length∨16<P.length):AV.int .i64 4=AV.int .i64 (Ap6 L P):=by rw[Ap6,if_pos h]
theorem AT8 {L:List (List UInt8)} {P:List GP} (h:¬(8<L.length∨16<P.length)) (h1:¬(allNames L∧allNames (keysOf P))):AV.int .i64 6=AV.int .i64 (Ap6 L P):=by rw[Ap6,if_neg h,if_pos h1]
theorem AQW {L:List (List UInt8)} {P:List GP} (h:¬(8<L.length∨16<P.length)) (h1:allNames L∧allNames (keysOf P)) (h2:¬(rises L∧rises (keysOf P))):AV.int .i64 26=AV.int .i64 (Ap6 L P):=by rw[Ap6,if_neg h,if_neg (not_not_intro h1),if_pos h2]
theorem AT9 {L:List (List UInt8)} {P:List GP} (h:¬(8<L.length∨16<P.length)) (h1:allNames L∧allNames (keysOf P)) (h2:rises L∧rises (keysOf P)) (h3:¬allPlain P):AV.int .i64 8=AV.int .i64 (Ap6 L P):=by rw[Ap6,if_neg h,if_neg (not_not_intro h1),if_neg (not_not_intro h2),if_pos h3]
theorem parts_0 {L:List (List UInt8)} {P:List GP} (h:¬(8<L.length∨16<P.length)) (h1:allNames L∧allNames (keysOf P)) (h2:rises L∧rises (keysOf P)) (h3:allPlain P):AV.int .i64 0=AV.int .i64 (Ap6 L P):=by rw[Ap6,if_neg h,if_neg (not_not_intro h1),if_neg (not_not_intro h2),if_neg (not_not_intro h3)]
theorem AVQ {L:List (List UInt8)} {P:List GP} {ln pn:Bool} (hL:L.length<2^63) (hs:∀s∈L,s.length<2^63) (hP:P.length<2^63) (hp:∀p∈P,p.ok):D8 (Dx tab) 71 [.sl ln (vs .str L),.sl pn (vs GP.av P)] (· =.int .i64 (Ap6 L P)):=by
  have hk:=keysOf_ln hp
  refine Lu rfl rfl ?_
  (conv=>whnf);repeat' (first|((with_reducible first|apply kN|apply kW|apply kX|apply kG|apply kQ);(· exact sd);conv=>whnf)|(refine DW.mk ?_ ?_<;>intro hc<;>(try rw[List.length_nil]at hc)<;>first|(exfalso;omega)|(exact absurd rfl hc)|conv=>whnf)  |(refine CB ?_ ?_<;>intro hc<;>conv=>whnf))
  · exact AT7 (by omega)
  · exact AT7 (by omega)
  have h16:¬(8<L.length∨16<P.length):=by omega
  refine DK (fun m env s=>∃(i g:Nat),m=P.length-i∧i≤P.length∧env=[(0,.sl ln (vs .str L)),(1,.sl pn (vs GP.av P)),(5,.own 0 g 0 i),(18,.sl pn (vs GP.av P)),(19,.int .i64 P.length),(20,.int .i64 i)]∧∃nn c,s=⟨[.arr g 1 nn true (vs .str (keysOf (P.take i)))],c⟩) ?_ _ _ _ ⟨0,0,rfl,by omega,rfl,_,_,rfl⟩
  rintro _ _ _ ⟨i,g,rfl,hi,rfl,nn,c,rfl⟩
  refine⟨rfl,?_⟩
  (conv=>whnf);repeat' (first|((with_reducible first|apply kN|apply kW|apply kX|apply kG|apply kQ);(· exact sd);conv=>whnf)|(refine DW.mk ?_ ?_<;>intro hc<;>(try rw[List.length_nil]at hc)<;>first|(exfalso;omega)|(exact absurd rfl hc)|conv=>whnf)  |(refine CB ?_ ?_<;>intro hc<;>conv=>whnf))
  · refine apVS (by simp;omega) (by simp;omega) ?_
    (conv=>whnf);repeat' (first|((with_reducible first|apply kN|apply kW|apply kX|apply kG|apply kQ);(· exact sd);conv=>whnf)|(refine DW.mk ?_ ?_<;>intro hc<;>(try rw[List.length_nil]at hc)<;>first|(exfalso;omega)|(exact absurd rfl hc)|conv=>whnf)  |(refine CB ?_ ?_<;>intro hc<;>conv=>whnf))
    rw[keysOf_snoc (by omega)]
    exact again.mk ⟨_,by omega,i+1,_,rfl,by omega,rfl,_,_,rfl⟩
  · rw[TP hc]
    obtain rfl:i=P.length:=by omega
    have hu:sub (vs AV.str (keysOf P)) 0 P.length=vs .str (keysOf P):=by rw[← PO P];exact uV
    have hkl:(keysOf P).length<2^63:=by rw[PO];exact hP
    (conv=>whnf);repeat' (first|(refine KH (contUn hL hs) (fun h1=>?_) (fun h1=>?_)<;>conv=>whnf)|(rw [hu];refine KH (contUn hkl hk) (fun h2=>?_) (fun h2=>?_)<;>conv=>whnf)|(refine KH (rises1 hL) (fun h3=>?_) (fun h3=>?_)<;>conv=>whnf)|(rw [hu];refine KH (rises1 hkl) (fun h4=>?_) (fun h4=>?_)<;>conv=>whnf)|((with_reducible first|apply kN|apply kW|apply kX|apply kG|apply kQ);(· exact sd);conv=>whnf)|(refine DW.mk ?_ ?_<;>intro hc<;>(try rw[List.length_nil]at hc)<;>first|(exfalso;omega)|(exact absurd rfl hc)|conv=>whnf)|(refine CB ?_ ?_<;>intro hc<;>conv=>whnf))
    · exact AT8 h16 fun h=>h1 h.1
    · exact AT8 h16 fun h=>h2 h.2
    · refine DK (fun m env s=>∃(i:Nat),m=P.length-i∧env=[(44,.sl pn (vs GP.av P)),(45,.int .i64 P.length),(46,.int .i64 i)]∧(∃ c,s=⟨[.arr g 1 nn true (vs .str (keysOf P))],c⟩)∧∀p∈P.take i,AjD p.v) ?_ _ _ _ ⟨0,rfl,rfl,⟨_,rfl⟩,by simp⟩
      clear hc hi
      rintro _ _ _ ⟨i,rfl,rfl,⟨c,rfl⟩,hx⟩
      refine⟨rfl,?_⟩
      (conv=>whnf);repeat' (first|(refine KH (plain1 (v:=(P[i]).v) (hp _ (List.getElem_mem (by omega))).2) (fun h5=>?_) (fun h5=>?_)<;>conv=>whnf)|((with_reducible first|apply kN|apply kW|apply kX|apply kG|apply kQ);(· exact sd);conv=>whnf)|(refine DW.mk ?_ ?_<;>intro hc<;>(try rw[List.length_nil]at hc)<;>first|(exfalso;omega)|(exact absurd rfl hc)|conv=>whnf)|(refine CB ?_ ?_<;>intro hc<;>conv=>whnf))
      · exact again.mk ⟨_,by omega,i+1,rfl,rfl,⟨_,rfl⟩,AfD (by omega) hx h5⟩
      · exact AT9 h16 ⟨Classical.not_not.1 h1,Classical.not_not.1 h2⟩ ⟨h3,h4⟩ fun h=>h5 (h _ (List.getElem_mem _))
      · rw[TP hc]at hx
        exact parts_0 h16 ⟨Classical.not_not.1 h1,Classical.not_not.1 h2⟩ ⟨h3,h4⟩ hx
    · exact AQW h16 ⟨Classical.not_not.1 h1,Classical.not_not.1 h2⟩ fun h=>h4 h.2
    · exact AQW h16 ⟨Classical.not_not.1 h1,Classical.not_not.1 h2⟩ fun h=>h3 h.1
attribute [irreducible] Ap6
def incr (l:List Int):Prop:=∀j (h:j+1<l.length),l[j]<l[j+1]
noncomputable instance (l:List Int):Decidable (incr l):=Classical.propDecidable _
theorem incr_lt {l:List Int} (h:incr l) {i:Nat}:∀d (hd:i+d+1<l.length),l[i]<l[i+d+1]
  |0,hd=>h i hd
  |d+1,hd=>Int.lt_trans (incr_lt h d (by omega)) (h (i+d+1) hd)
theorem incr_mono {l:List Int} (h:incr l) {i j:Nat} (hij:i<j) (hj:j<l.length):l[i]<l[j]:=by
  obtain⟨d,rfl⟩:∃d,j=i+d+1:=⟨j-i-1,by omega⟩
  exact incr_lt h d hj
def nids (N:List GN):List Int:=N.map GN.id
def eids (E:List GE):List Int:=E.map GE.id
@[simp] theorem nids_len (N:List GN):(nids N).length=N.length:=by simp[nids]
@[simp] theorem eids_len (N:List GE):(eids N).length=N.length:=by simp[eids]
theorem nids_at {N:List GN} {i:Nat} (h:i<N.length):(nids N)[i]'(by simpa using h)=(N[i]).id:=by simp[nids]
theorem eids_at {N:List GE} {i:Nat} (h:i<N.length):(eids N)[i]'(by simpa using h)=(N[i]).id:=by simp[eids]
theorem nid_lt {N:List GN} (h:incr (nids N)) {i j:Nat} (hij:i<j) (hj:j<N.length):(N[i]).id<(N[j]).id:=by
  have:=incr_mono h hij (by simpa using hj)
  rwa [nids_at (by omega),nids_at hj]at this
theorem has1 {n:GN} {x:Int}:D8 (Dx tab) 134 [n.av,.int .i64 x] (· =.int .i64 (Qr n.id x)):=by
  refine Lu rfl rfl ?_
  (conv=>whnf);repeat' (first|((with_reducible first|apply kN|apply kW|apply kX|apply kG|apply kQ);(· exact sd);conv=>whnf)|(refine DW.mk ?_ ?_<;>intro hc<;>(try rw[List.length_nil]at hc)<;>first|(exfalso;omega)|(exact absurd rfl hc)|conv=>whnf)|(refine BM compare ?_;rintro _ rfl;conv=>whnf)|(refine CB ?_ ?_<;>intro hc<;>conv=>whnf))
  rfl
theorem bsearch {N:List GN} {nn:Bool} {x:Int} (hN:N.length<2^62) (hi:incr (nids N)):D8 (Dx tab) 133 [.sl nn (vs GN.av N),.int .i64 x,.fn 134 []] (fun v=>∃z b,v=.tup [.int .i64 z,.bool b]∧(b=true↔x∈nids N)):=by
  have fin:∀i:Nat,i≤N.length→(∀ k (h:k<N.length),k<i→(N[k]).id<x)→(∀ k (h:k<N.length),i≤k→x≤(N[k]).id)→(x∈nids N↔∃h:i<N.length,(N[i]).id=x):=by
    intro i h0 h1 h2
    constructor
    · intro h
      obtain⟨k,hk,e⟩:=List.getElem_of_mem h
      have hk':k<N.length:=by simpa using hk
      rw[nids_at hk']at e
      have a1:=h1 k hk'
      have:i≤k:=by
        rcases Nat.lt_or_ge k i with h|h
        · have:=a1 h;omega
        · exact h
      rcases Nat.lt_or_ge i k with h|h
      · have:=nid_lt hi h hk'
        have:=h2 i (by omega) (Nat.le_refl _)
        omega
      · obtain rfl:i=k:=by omega
        exact⟨hk',e⟩
    · rintro⟨h,e⟩
      rw[← e,←nids_at h]
      exact List.getElem_mem _
  refine Lu rfl rfl ?_
  (conv=>whnf);repeat' (first|((with_reducible first|apply kN|apply kW|apply kX|apply kG|apply kQ);(· exact sd);conv=>whnf)|(refine DW.mk ?_ ?_<;>intro hc<;>(try rw[List.length_nil]at hc)<;>first|(exfalso;omega)|(exact absurd rfl hc)|conv=>whnf)  |(refine CB ?_ ?_<;>intro hc<;>conv=>whnf))
  refine DK (fun m env s=>∃(i j:Nat),m=j-i∧i≤j∧j≤N.length∧env=[(0,.sl nn (vs GN.av N)),(1,.int .i64 x),(2,.fn 134 []),(8,.int .i64 N.length),(9,.int .i64 i),(10,.int .i64 j)]∧s=⟨[],0⟩∧
    (∀ k (h:k<N.length),k<i→(N[k]).id<x)∧(∀ k (h:k<N.length),j≤k→x≤(N[k]).id)) ?_ _ _ _ ⟨0,N.length,rfl,by omega,by omega,by simp,rfl,fun k _ h=>absurd h (by omega),fun k h1 h=>absurd h (by omega)⟩
  rintro _ _ _ ⟨i,j,rfl,hij,hj,rfl,rfl,h1,h2⟩
  refine⟨rfl,?_⟩
  (conv=>whnf);repeat' (first|(refine wrapU (i+j) (by omega) (by omega) ?_;conv=>whnf)|(apply KJ;(· exact shrE _);conv=>whnf)|(refine BM has1 ?_;rintro _ rfl;conv=>whnf)|((with_reducible first|apply kN|apply kW|apply kX|apply kG|apply kQ);(· exact sd);conv=>whnf)|(refine DW.mk ?_ ?_<;>intro hc<;>(try rw[List.length_nil]at hc)<;>first|(exfalso;omega)|(exact absurd rfl hc)|conv=>whnf)|(refine CB ?_ ?_<;>intro hc<;>conv=>whnf))
  · have hm:=AwJ.1 hc
    exact again.mk ⟨_,by omega,(i+j) / 2+1,j,rfl,by omega,hj,rfl,rfl,fun k hk hlt=>by
      rcases Nat.lt_or_ge k ((i+j) / 2)with h|h
      · exact Int.lt_trans (nid_lt hi h (by omega)) hm
      · obtain rfl:k=(i+j) / 2:=by omega
        exact hm,h2⟩
  · have hm:=mt AwJ.2 hc
    exact again.mk ⟨_,by omega,i,(i+j) / 2,rfl,by omega,by omega,rfl,rfl,h1,fun k hk hle=>by
      rcases Nat.lt_or_ge ((i+j) / 2) k with h|h
      · have:=nid_lt hi h hk;omega
      · obtain rfl:k=(i+j) / 2:=by omega
        omega⟩
  all_goals have hf:=fin i (by omega) h1 (fun k hk h=>h2 k hk (by omega))
  · exact⟨_,_,rfl,fun _=>hf.2 ⟨by omega,Ym.1 hc⟩,fun _=>rfl⟩
  · exact⟨_,_,rfl,fun h=>(Bool.noConfusion h),fun h=>absurd (Ym.2 (hf.1 h).2) hc⟩
  · exact⟨_,_,rfl,fun h=>(Bool.noConfusion h),fun h=>absurd (hf.1 h).1 (by omega)⟩
theorem hasP {N:List GN} {nn:Bool} {x:Int} (hN:N.length<2^62) (hi:incr (nids N)):D8 (Dx tab) 72 [.sl nn (vs GN.av N),.int .i64 x] (· =.bool (decide (x∈nids N))):=by
  refine Lu rfl rfl ?_
  (conv=>whnf);repeat' (first|((with_reducible first|apply kN|apply kW|apply kX|apply kG|apply kQ);(· exact sd);conv=>whnf)|(refine DW.mk ?_ ?_<;>intro hc<;>(try rw[List.length_nil]at hc)<;>first|(exfalso;omega)|(exact absurd rfl hc)|conv=>whnf)  |(refine CB ?_ ?_<;>intro hc<;>conv=>whnf))
  refine BM (bsearch hN hi) ?_
  rintro _ ⟨z,b,rfl,hb⟩
  (conv=>whnf);repeat' (first|((with_reducible first|apply kN|apply kW|apply kX|apply kG|apply kQ);(· exact sd);conv=>whnf)|(refine DW.mk ?_ ?_<;>intro hc<;>(try rw[List.length_nil]at hc)<;>first|(exfalso;omega)|(exact absurd rfl hc)|conv=>whnf)  |(refine CB ?_ ?_<;>intro hc<;>conv=>whnf))
  · exact Lp (hb.1 hc)
  · exact Hf fun h=>by rw[hb.2 h]at hc;cases hc
end AI
end Go.Proofs.YtnbibfalljlmfaaGreatDoor
