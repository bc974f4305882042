/- Setting a property of a node or an edge that an editor edits. What a change leaves alone: plain. Changes as arguments. change.Check. What becomes of an edited graph when its store changes. -/
import Derived.Test.YtnbibfalljlmfaaGreatDoorMbg
import Derived.Test.YtnbibfalljlmfaaGreatDoorMbb
import Derived.Test.YtnbibfalljlmfaaGreatDoorMba
set_option linter.unusedVariables false
set_option maxRecDepth 4000
namespace Go.Proofs.YtnbibfalljlmfaaGreatDoor
namespace AI
structure Fr (σ σ':List Obj) (F:List Nat):Prop where
  len:σ.length≤σ'.length
  eq:∀o,o<σ.length→o∉F→nth σ' o=nth σ o
theorem Fr.refl {σ:List Obj} {F:List Nat}:Fr σ σ F:=⟨Nat.le_refl _,fun _ _ _=>rfl⟩
theorem Fr.trans {σ σ1 σ2:List Obj} {F:List Nat} (h:Fr σ σ1 F) (k:Fr σ1 σ2 F):Fr σ σ2 F:=
  ⟨Nat.le_trans h.len k.len,fun o ho hf=>(k.eq o (Nat.lt_of_lt_of_le ho h.len) hf).trans (h.eq o ho hf)⟩
theorem Fr.mono {σ σ':List Obj} {F F':List Nat} (h:Fr σ σ' F) (hf:∀o∈F,o∈F'∨σ.length≤o):Fr σ σ' F':=
  ⟨h.len,fun o ho hn=>h.eq o ho fun hm=>(hf o hm).elim hn fun h=>by omega⟩
theorem Fr.get {σ σ':List Obj} {F:List Nat} {o:Nat} {x:Obj} (h:Fr σ σ' F) (hx:nth σ o=some x) (hf:o∉F):nth σ' o=some x:=(h.eq o (nth_lt hx) hf).trans hx
theorem snocG {σ:List Obj} {y:Obj} {K:List Obj→Prop} (h:∀σ',Fr σ σ' []→nth σ' σ.length=some y→σ'.length=σ.length+1→K σ'):snocK σ y K:=
  (snocK_iff _ _ _).2 (h _ ⟨by simp,fun o ho _=>nth_app ho⟩ nth_last (by simp))
theorem setG {σ:List Obj} {o:Nat} {x y:Obj} {K:List Obj→Prop} (hx:nth σ o=some x) (h:∀σ',Fr σ σ' [o]→nth σ' o=some y→σ'.length=σ.length→K σ'):setK σ o y K:=
  (setK_iff _ _ _ _).2 (h _ ⟨by simp,fun p hp hn=>nth_set_ne (by simpa using fun e=>hn (by simp[e]))⟩ (nth_set_self hx) (by simp))
theorem insNil {AP:Nat→Option AFn} {f es bytes:Nat} {x:AV} {s:Sto} {K:AX5→Sto→Prop} (hf:AP f=some (.ext (insSpec es bytes))) (hx:x.cells.length=es) (hb:bytes≤2 ^ 46)
    (h:∀σ',Fr s.σ σ' []→nth σ' s.σ.length=some (.arr s.ctr es true true [x])→K (.ok (.own s.σ.length s.ctr 0 1)) ⟨σ',s.ctr+1⟩):H6 AP f [.sl false [],.int .i64 0,.sl true [x]] s K:=
  calls_ext hf (by simp only[insSpec,hx,if_true];rw[if_pos ⟨trivial,hb⟩];rfl) (h _ ⟨by simp,fun o ho _=>nth_app ho⟩ nth_last)
theorem insNilO {AP:Nat→Option AFn} {f es bytes es' o g:Nat} {x:AV} {s:Sto} {K:AX5→Sto→Prop} (hf:AP f=some (.ext (insSpec es bytes))) (hx:x.cells.length=es) (hb:bytes≤2 ^ 46) (ho:nth s.σ o=some (.arr g es' false true []))
    (h:∀σ',Fr s.σ σ' []→nth σ' s.σ.length=some (.arr s.ctr es true true [x])→K (.ok (.own s.σ.length s.ctr 0 1)) ⟨σ',s.ctr+1⟩):H6 AP f [.own o g 0 0,.int .i64 0,.sl true [x]] s K:=
  calls_ext hf (by simp only[insSpec,hx,ho,if_true];rw[if_pos ⟨trivial,trivial,trivial,hb⟩];rfl) (h _ ⟨by simp,fun o ho _=>nth_app ho⟩ nth_last)
theorem insOwn {α:Type} {fv:α→AV} {AP:Nat→Option AFn} {f es bytes o g i n:Nat} {c:Bool} {l:List α} {x:α} {s:Sto} {K:AX5→Sto→Prop} (hf:AP f=some (.ext (insSpec es bytes))) (hx:(fv x).cells.length=es) (hb:(n+1)*bytes≤2 ^ 46) (hn:n=l.length) (hi:i≤n) (ho:nth s.σ o=some (.arr g es true c (vs fv l)))
    (h:∀σ',Fr s.σ σ' [o]→nth σ' o=some (.arr s.ctr es true c (vs fv (l.take i++[x]++l.drop i)))→K (.ok (.own o s.ctr 0 (n+1))) ⟨σ',s.ctr+1⟩):H6 AP f [.own o g 0 n,.int .i64 i,.sl true [fv x]] s K:=by
  subst hn
  have e1:((vs fv l).take l.length)=vs fv l:=List.take_of_length_le (by simp)
  refine calls_ext hf (by simp only[insSpec,hx,ho,if_true,Bool.true_eq_false,if_false];rw[if_pos ⟨trivial,trivial,by omega,by simpa using hi,by simp,hb⟩]) (h _ ⟨by simp,fun p hp hn=>nth_set_ne (by simpa using fun e=>hn (by simp[e]))⟩ ?_)
  rw[nth_set_self ho]
  simp only[Int.toNat_natCast,e1]
  simp[vs,List.map_take,List.map_drop]
theorem delOwn {α:Type} {fv:α→AV} {AP:Nat→Option AFn} {f es o g i n:Nat} {c:Bool} {z:Int} {l:List α} {s:Sto} {K:AX5→Sto→Prop} (hf:AP f=some (.ext (delSpec es))) (hn:n=l.length) (hi:i<n) (hz:z=(i:Int)+1) (ho:nth s.σ o=some (.arr g es true c (vs fv l)))
    (h:∀σ',Fr s.σ σ' [o]→nth σ' o=some (.arr s.ctr es true c (vs fv (l.take i++l.drop (i+1))))→K (.ok (.own o s.ctr 0 (i+(n-(i+1))))) ⟨σ',s.ctr+1⟩):H6 AP f [.own o g 0 n,.int .i64 i,.int .i64 z] s K:=by
  subst hn hz
  have e1:((vs fv l).take l.length)=vs fv l:=List.take_of_length_le (by simp)
  have e2:((i:Int)+1).toNat=i+1:=by omega
  refine calls_ext hf (by simp only[delSpec,ho];rw[if_pos ⟨trivial,trivial,by omega,by omega,by omega,by simp⟩]) ?_
  simp only[Int.toNat_natCast,e1,e2]
  refine h _ ⟨by simp,fun p hp hn=>nth_set_ne (by simpa using fun e=>hn (by simp[e]))⟩ ?_
  rw[nth_set_self ho]
  simp[vs,List.map_take,List.map_drop]
theorem AWB {v:GV} (hv:v.ok) (h:isNull v):D8 (Dx tab) 141 [v.av] (· =.bool true):=by
  refine Lu rfl rfl ?_
  (conv=>whnf);repeat' (first|(refine BM (AEc hv) ?_;rintro _ ⟨z,rfl,hz⟩;conv=>whnf)|((with_reducible first|apply kN|apply kW|apply kX|apply kG|apply kQ);(· exact sd);conv=>whnf)|(refine DW.mk ?_ ?_<;>intro hc<;>(try rw[List.length_nil]at hc)<;>first|(exfalso;omega)|(exact absurd rfl hc)|conv=>whnf)|(refine CB ?_ ?_<;>intro hc<;>conv=>whnf))
  all_goals first | rfl | exact absurd (hz.2 h) hc | (trace_state; fail "nullT")
theorem AWC {v:GV} (hv:v.ok) (h:¬isNull v):D8 (Dx tab) 141 [v.av] (· =.bool false):=by
  refine Lu rfl rfl ?_
  (conv=>whnf);repeat' (first|(refine BM (AEc hv) ?_;rintro _ ⟨z,rfl,hz⟩;conv=>whnf)|((with_reducible first|apply kN|apply kW|apply kX|apply kG|apply kQ);(· exact sd);conv=>whnf)|(refine DW.mk ?_ ?_<;>intro hc<;>(try rw[List.length_nil]at hc)<;>first|(exfalso;omega)|(exact absurd rfl hc)|conv=>whnf)|(refine CB ?_ ?_<;>intro hc<;>conv=>whnf))
  all_goals first | rfl | exact absurd (hz.1 hc) h | (trace_state; fail "nullF")
theorem putL_nil {α κ:Type} {lt:κ→κ→Bool} {key:α→κ} {x:α}:Tc lt key x []=[x]:=rfl
set_option maxHeartbeats 1000000 in
theorem setT {σ:List Obj} {c:Nat} {lv:AV} {b:Bool} {l:List GP} {k:List UInt8} {v:GV} {K:AX5→Sto→Prop} (h:Hd GP.av 6 σ lv b l true) (hi:Inc Op.bytesLess GP.key l) (hl:l.length≤100) (hv:v.ok)
    (hA:isNull v→∀σ' c' lv',Hd GP.av 6 σ' lv' b (AhH Op.bytesLess GP.key k l) true→Fr σ σ' lv.obj→(∀ o∈lv'.obj,o∈lv.obj∨σ.length≤o)→K (.ok lv') ⟨σ',c'⟩)
    (hB:¬isNull v→((∃ y∈l,GP.key y=k)∨l.length<16)→∀σ' c' lv',Hd GP.av 6 σ' lv' true (Tc Op.bytesLess GP.key ⟨k,v⟩ l) true→Fr σ σ' lv.obj→(∀ o∈lv'.obj,o∈lv.obj∨σ.length≤o)→K (.ok lv') ⟨σ',c'⟩)
    (hC:¬isNull v→(¬ ∃y∈l,GP.key y=k)→¬l.length<16→∀σ' c',Fr σ σ' []→K (.pan (.iface 115 (.int .i64 20))) ⟨σ',c'⟩):
    H6 (Dx tab) 149 [lv,.str k,v.av] ⟨σ,c⟩ K:=by
  rcases h with⟨rfl,rfl,h⟩|⟨rfl,o,g,rfl,ho⟩
  · have hbs:∀{nn:Bool},D8 (Dx tab) 218 [.sl nn (vs GP.av []),.str k,.fn 219 []] (· =.tup [.int .i64 (0:Nat),.bool false]):=fun{nn}=>by
      refine(bsP (l:=[]) (nn:=nn) (x:=k) (by simp) List.Pairwise.nil).mono ?_
      rintro _ ⟨i,fb,rfl,q1,q2⟩
      obtain rfl:i=0:=by have:=q1.le;simpa using this
      cases fb
      · rfl
      · exact absurd (q2.1 rfl) (by simp)
    have fin:∀σ1 σ2 c',Fr σ σ1 []→Fr σ1 σ2 []→nth σ2 σ1.length=some (.arr c' 6 true true [GP.av ⟨k,v⟩])→¬isNull v→lv.obj=[]∨True→K (.ok (.own σ1.length c' 0 1)) ⟨σ2,c'+1⟩:=fun σ1 σ2 c' f1 f2 h2 hn _=>
      hB hn (.inr (by simp)) _ _ _ (.inr ⟨rfl,_,_,rfl,h2⟩) ((f1.trans f2).mono (by simp)) (fun o ho=>by simp only[AV.obj,List.mem_singleton]at ho;subst ho;exact .inr f1.len)
    rcases h with rfl|⟨o,g,es',rfl,ho⟩
    · by_cases hn:isNull v
      · refine FH rfl rfl ?_
        (conv=>whnf);repeat' (first|(refine snocG fun σ1 f1 h1 l1=>?_;conv=>whnf)|(refine BM hbs ?_;rintro _ rfl;conv=>whnf)|(refine BM (AWB hv hn) ?_;rintro _ rfl;conv=>whnf)|(rw [h1];conv=>whnf)|((with_reducible first|apply kN|apply kW|apply kX|apply kG|apply kQ);(· exact sd);conv=>whnf)|(refine DW.mk ?_ ?_<;>intro hc<;>(try rw[List.length_nil]at hc)<;>first|(exfalso;omega)|(exact absurd rfl hc)|conv=>whnf)|(refine CB ?_ ?_<;>intro hc<;>conv=>whnf))
        exact hA hn _ _ (.sl false []) (.inl ⟨rfl,rfl,.inl rfl⟩) (f1.mono (by simp)) (fun o ho=>by simp[AV.obj]at ho)
      · refine FH rfl rfl ?_
        (conv=>whnf);repeat' (first|(refine snocG fun σ1 f1 h1 l1=>?_;conv=>whnf)|(refine BM hbs ?_;rintro _ rfl;conv=>whnf)|(refine BM (AWC hv hn) ?_;rintro _ rfl;conv=>whnf)|(rw [h1];conv=>whnf)|(refine mustT ?_;conv=>whnf)|(refine insNil (x:=GP.av ⟨k,v⟩) rfl rfl (by omega) fun σ2 f2 h2=>?_;conv=>whnf)|((with_reducible first|apply kN|apply kW|apply kX|apply kG|apply kQ);(· exact sd);conv=>whnf)|(refine DW.mk ?_ ?_<;>intro hc<;>(try rw[List.length_nil]at hc)<;>first|(exfalso;omega)|(exact absurd rfl hc)|conv=>whnf)|(refine CB ?_ ?_<;>intro hc<;>conv=>whnf))
        all_goals first | exact fin _ _ _ f1 f2 h2 hn (.inr trivial) | (trace_state; fail "set1")
    · by_cases hn:isNull v
      · refine FH rfl rfl ?_
        (conv=>whnf);repeat' (first|(refine snocG fun σ1 f1 h1 l1=>?_;have ho1:=f1.get ho (by simp);conv=>whnf)|(refine BM hbs ?_;rintro _ rfl;conv=>whnf)|(refine BM (AWB hv hn) ?_;rintro _ rfl;conv=>whnf)|(rw [h1];conv=>whnf)|(rw [ho1];conv=>whnf)|((with_reducible first|apply kN|apply kW|apply kX|apply kG|apply kQ);(· exact sd);conv=>whnf)|(refine DW.mk ?_ ?_<;>intro hc<;>(try rw[List.length_nil]at hc)<;>first|(exfalso;omega)|(exact absurd rfl hc)|conv=>whnf)|(refine CB ?_ ?_<;>intro hc<;>conv=>whnf))
        all_goals first | exact hA hn _ _ _ (.inl ⟨rfl, rfl, .inr ⟨_, _, _, rfl, ho1⟩⟩) (f1.mono (by simp)) (fun o ho => .inl ho) | (trace_state; fail "set2")
      · refine FH rfl rfl ?_
        (conv=>whnf);repeat' (first|(refine snocG fun σ1 f1 h1 l1=>?_;have ho1:=f1.get ho (by simp);conv=>whnf)|(refine BM hbs ?_;rintro _ rfl;conv=>whnf)|(refine BM (AWC hv hn) ?_;rintro _ rfl;conv=>whnf)|(rw [h1];conv=>whnf)|(rw [ho1];conv=>whnf)|(refine mustT ?_;conv=>whnf)|(refine insNilO (x:=GP.av ⟨k,v⟩) rfl rfl (by omega) ho1 fun σ2 f2 h2=>?_;conv=>whnf)|((with_reducible first|apply kN|apply kW|apply kX|apply kG|apply kQ);(· exact sd);conv=>whnf)|(refine DW.mk ?_ ?_<;>intro hc<;>(try rw[List.length_nil]at hc)<;>first|(exfalso;omega)|(exact absurd rfl hc)|conv=>whnf)|(refine CB ?_ ?_<;>intro hc<;>conv=>whnf))
        all_goals first | exact fin _ _ _ f1 f2 h2 hn (.inr trivial) | (trace_state; fail "set3")
  · have hlen:l.length<2 ^ 62:=by omega
    have hbs:=fun(nn:Bool)=>(bsP (nn:=nn) (x:=k) hlen hi)
    by_cases hf:∃y∈l,GP.key y=k
    · have hbt:∃i,AtK Op.bytesLess GP.key k l i∧D8 (Dx tab) 218 [.sl true (vs GP.av l),.str k,.fn 219 []] (· =.tup [.int .i64 (i:Nat),.bool true]):=by
        obtain⟨_,⟨i,fb,rfl,q1,q2⟩,hd⟩:=(hbs true).det
        rw[q2.2 hf]at hd
        exact⟨i,q1,hd⟩
      obtain⟨i,q1,hbt⟩:=hbt
      obtain⟨hil,hik,_⟩:=q1.found G7 hi hf
      by_cases hn:isNull v
      · refine FH rfl rfl ?_
        (conv=>whnf);repeat' (first|(refine snocG fun σ1 f1 h1 l1=>?_;have ho1:=f1.get ho (by simp);conv=>whnf)|(refine BM hbt ?_;rintro _ rfl;conv=>whnf)|(refine BM (AWB hv hn) ?_;rintro _ rfl;conv=>whnf)|(rw [h1];conv=>whnf)|(rw [ho1];conv=>whnf)|(refine delOwn rfl rfl hil rfl ho1 fun σ2 f2 h2=>?_;conv=>whnf)|((with_reducible first|apply kN|apply kW|apply kX|apply kG|apply kQ);(· exact sd);conv=>whnf)|(refine DW.mk ?_ ?_<;>intro hc<;>(try rw[List.length_nil]at hc)<;>first|(exfalso;omega)|(exact absurd rfl hc)|conv=>whnf)|(refine CB ?_ ?_<;>intro hc<;>conv=>whnf))
        all_goals first
          | (rw[q1.del G7 hi hf]at h2
             have hlen2:i+(l.length-(i+1))=(AhH Op.bytesLess GP.key k l).length:=by rw[← q1.del G7 hi hf,List.length_append,List.length_take,List.length_drop];omega
             exact hA hn _ _ _ (.inr ⟨rfl,_,_,by rw[← hlen2];rfl,h2⟩) ((f1.mono (by simp)).trans f2) (fun o ho=>.inl ho))
          | (trace_state; fail "set4")
      · refine FH rfl rfl ?_
        (conv=>whnf);repeat' (first|(refine snocG fun σ1 f1 h1 l1=>?_;have ho1:=f1.get ho (by simp);conv=>whnf)|(refine BM hbt ?_;rintro _ rfl;conv=>whnf)|(refine BM (AWC hv hn) ?_;rintro _ rfl;conv=>whnf)|(rw [h1];conv=>whnf)|(rw [ho1];conv=>whnf)|(refine setG ho1 fun σ2 f2 h2 l2=>?_;conv=>whnf)|((with_reducible first|apply kN|apply kW|apply kX|apply kG|apply kQ);(· exact sd);conv=>whnf)|(refine DW.mk ?_ ?_<;>intro hc<;>(try rw[List.length_nil]at hc)<;>first|(exfalso;omega)|(exact absurd rfl hc)|conv=>whnf)|(refine CB ?_ ?_<;>intro hc<;>conv=>whnf))
        have e:(vs GP.av l).set (Int.toNat (i:Int)) (writeCells (l[i]).av (0+1) (AV.agg (List.take 5 (List.drop 0 v.av.cells))))=vs GP.av (Tc Op.bytesLess GP.key ⟨k,v⟩ l):=by
          have e0:writeCells (l[i]).av (0+1) (AV.agg (List.take 5 (List.drop 0 v.av.cells)))=GP.av ⟨(l[i]).key,v⟩:=rfl
          rw[e0,hik,←q1.set (x:=⟨k,v⟩) G7 hi hf]
          simp[vs,List.map_set]
        replace h2:nth σ2 o=some (.arr g 6 true true (vs GP.av (Tc Op.bytesLess GP.key ⟨k,v⟩ l))):=by rw[← e];exact h2
        have hlen2:l.length=(Tc Op.bytesLess GP.key ⟨k,v⟩ l).length:=by rw[← q1.set (x:=⟨k,v⟩) G7 hi hf,List.length_set]
        exact hB hn (.inl hf) _ _ _ (.inr ⟨rfl,_,_,by rw[← hlen2];rfl,h2⟩) ((f1.mono (by simp)).trans f2) (fun o ho=>.inl ho)
    · have hbt :∃i,AtK Op.bytesLess GP.key k l i∧D8 (Dx tab) 218 [.sl true (vs GP.av l),.str k,.fn 219 []] (· =.tup [.int .i64 (i:Nat),.bool false]):=by
        obtain⟨_,⟨i,fb,rfl,q1,q2⟩,hd⟩:=(hbs true).det
        cases fb
        · exact⟨i,q1,hd⟩
        · exact absurd (q2.1 rfl) hf
      obtain⟨i,q1,hbt⟩:=hbt
      have hil:=q1.le
      by_cases hn:isNull v
      · refine FH rfl rfl ?_
        (conv=>whnf);repeat' (first|(refine snocG fun σ1 f1 h1 l1=>?_;have ho1:=f1.get ho (by simp);conv=>whnf)|(refine BM hbt ?_;rintro _ rfl;conv=>whnf)|(refine BM (AWB hv hn) ?_;rintro _ rfl;conv=>whnf)|(rw [h1];conv=>whnf)|(rw [ho1];conv=>whnf)|((with_reducible first|apply kN|apply kW|apply kX|apply kG|apply kQ);(· exact sd);conv=>whnf)|(refine DW.mk ?_ ?_<;>intro hc<;>(try rw[List.length_nil]at hc)<;>first|(exfalso;omega)|(exact absurd rfl hc)|conv=>whnf)|(refine CB ?_ ?_<;>intro hc<;>conv=>whnf))
        all_goals first
          | (have e:AhH Op.bytesLess GP.key k l=l:=by
               rw[AhH,←q1.take,←q1.drop_none G7 (fun x hx e=>hf ⟨x,hx,e⟩),List.take_append_drop]
             exact hA hn _ _ _ (by rw[e];exact .inr ⟨rfl,_,_,rfl,ho1⟩) (f1.mono (by simp)) (fun o ho=>.inl ho))
          | (trace_state; fail "set5")
      · refine FH rfl rfl ?_
        (conv=>whnf);repeat' (first|(refine snocG fun σ1 f1 h1 l1=>?_;have ho1:=f1.get ho (by simp);conv=>whnf)|(refine BM hbt ?_;rintro _ rfl;conv=>whnf)|(refine BM (AWC hv hn) ?_;rintro _ rfl;conv=>whnf)|(rw [h1];conv=>whnf)|(rw [ho1];conv=>whnf)|(refine mustT ?_;conv=>whnf)|(refine mustF ?_;conv=>whnf)|(refine insOwn (fv:=GP.av) (x:=⟨k,v⟩) rfl rfl (by omega) rfl hil ho1 fun σ2 f2 h2=>?_;conv=>whnf)|((with_reducible first|apply kN|apply kW|apply kX|apply kG|apply kQ);(· exact sd);conv=>whnf)|(refine DW.mk ?_ ?_<;>intro hc<;>(try rw[List.length_nil]at hc)<;>first|(exfalso;omega)|(exact absurd rfl hc)|conv=>whnf)|(refine CB ?_ ?_<;>intro hc<;>conv=>whnf))
        all_goals first
          |exact hC hn hf (by omega) _ _ f1
          | (rw[q1.ins (x:=⟨k,v⟩) G7 (fun x hx e=>hf ⟨x,hx,e⟩)]at h2
             have hlen2:l.length+1=(Tc Op.bytesLess GP.key ⟨k,v⟩ l).length:=by rw[← q1.ins (x:=⟨k,v⟩) G7 (fun x hx e=>hf ⟨x,hx,e⟩),List.length_append,List.length_append,List.length_take,List.length_drop,List.length_singleton];omega
             exact hB hn (.inr (by omega)) _ _ _ (.inr ⟨rfl,_,_,by rw[← hlen2];rfl,h2⟩) ((f1.mono (by simp)).trans f2) (fun o ho=>.inl ho))
          | (trace_state; fail "set6")
structure GC where
  op:Int
  id:Int
  fr:Int
  to:Int
  name:List UInt8
  v:GV
def GC.av (c:GC):AV:=.agg [.int .i64 c.op,.int .i64 c.id,.int .i64 c.fr,.int .i64 c.to,.str c.name,.int .i64 c.v.k,.int .i64 c.v.n,.int .i64 c.v.d,.str c.v.s,.sl c.v.nn c.v.l]
def GC.ok (c:GC):Prop:=I64 c.op∧I64 c.id∧I64 c.fr∧I64 c.to∧Ln c.name∧c.v.ok
def keepN (ns:List Int) (N:List GN):List GN:=N.filter fun n=>decide (n.id∉ns)
def keepE (es:List Int) (E:List GE):List GE:=E.filter fun e=>decide (e.id∉es)
theorem keepN_app {ns:List Int} {A B:List GN}:keepN ns (A++B)=keepN ns A++keepN ns B:=List.filter_append ..
theorem keepE_app {ns:List Int} {A B:List GE}:keepE ns (A++B)=keepE ns A++keepE ns B:=List.filter_append ..
theorem keepN_in {ns:List Int} {n:GN} (h:n.id∈ns):keepN ns [n]=[]:=by simp[keepN,h]
theorem keepE_in {ns:List Int} {n:GE} (h:n.id∈ns):keepE ns [n]=[]:=by simp[keepE,h]
theorem keepN_succ {ns:List Int} {N:List GN} {i:Nat} (h:i<N.length):keepN ns (N.take (i+1))=keepN ns (N.take i)++keepN ns [N[i]]:=by
  rw[List.take_succ_eq_append_getElem h,keepN_app]
theorem keepE_succ {ns:List Int} {N:List GE} {i:Nat} (h:i<N.length):keepE ns (N.take (i+1))=keepE ns (N.take i)++keepE ns [N[i]]:=by
  rw[List.take_succ_eq_append_getElem h,keepE_app]
theorem keepN_no {ns:List Int} {L N:List GN} {n:GN} (h:keepN ns L=keepN ns N) (hn:n.id∈ns):keepN ns (L++[n])=keepN ns N:=by
  rw[keepN_app,keepN_in hn,List.append_nil,h]
theorem keepE_no {ns:List Int} {L N:List GE} {n:GE} (h:keepE ns L=keepE ns N) (hn:n.id∈ns):keepE ns (L++[n])=keepE ns N:=by
  rw[keepE_app,keepE_in hn,List.append_nil,h]
theorem keepN_yes {ns:List Int} {L N:List GN} {i:Nat} (hi:i<N.length) (h:keepN ns L=keepN ns (N.take i)):keepN ns (L++[N[i]])=keepN ns (N.take (i+1)):=by
  rw[keepN_app,keepN_succ hi,h]
theorem keepE_yes {ns:List Int} {L N:List GE} {i:Nat} (hi:i<N.length) (h:keepE ns L=keepE ns (N.take i)):keepE ns (L++[N[i]])=keepE ns (N.take (i+1)):=by
  rw[keepE_app,keepE_succ hi,h]
theorem keepN_out {ns:List Int} {L N:List GN} {i:Nat} (hi:i<N.length) (h:keepN ns L=keepN ns (N.take i)) (hn:(N[i]).id∈ns):keepN ns L=keepN ns (N.take (i+1)):=by
  rw[keepN_succ hi,keepN_in hn,List.append_nil,h]
theorem keepE_out {ns:List Int} {L N:List GE} {i:Nat} (hi:i<N.length) (h:keepE ns L=keepE ns (N.take i)) (hn:(N[i]).id∈ns):keepE ns L=keepE ns (N.take (i+1)):=by
  rw[keepE_succ hi,keepE_in hn,List.append_nil,h]
theorem Az6:∀n:GN,n.av.cells.length=3:=fun _=>rfl
theorem cellsE:∀n:GE,n.av.cells.length=5:=fun _=>rfl
theorem cellsP:∀n:GP,n.av.cells.length=6:=fun _=>rfl
def FewN (n:GN):Prop:=n.ok∧n.labels.length≤2000∧n.props.length≤2000
def FewE (n:GE):Prop:=n.ok∧n.props.length≤2000
def FewG (a b:Nat) (g:GG):Prop:=g.ok∧g.nodes.length≤a∧g.edges.length≤b∧(∀ n∈g.nodes,FewN n)∧∀e∈g.edges,FewE e
def Spares (ns es:List Int) (g h:GG):Prop:=keepN ns h.nodes=keepN ns g.nodes∧keepE es h.edges=keepE es g.edges
theorem Spares.refl (ns es:List Int) (g:GG):Spares ns es g g:=⟨rfl,rfl⟩
theorem Spares.trans {ns es:List Int} {g h k:GG} (h1:Spares ns es g h) (h2:Spares ns es h k):Spares ns es g k:=⟨h2.1.trans h1.1,h2.2.trans h1.2⟩
def nmd (op:Int):Prop:=op=3∨op=4∨op=5∨op=6∨op=8
instance (op:Int):Decidable (nmd op):=by unfold nmd;infer_instance
def vlu (op:Int):Prop:=op=5∨op=8
instance (op:Int):Decidable (vlu op):=by unfold vlu;infer_instance
def idG (z:Int):Prop:=1≤z∧z≤1000000
instance (z:Int):Decidable (idG z):=by unfold idG;infer_instance
def AB3 (c:GC):Prop:=¬(1≤c.op∧c.op≤8)∨¬idG c.id∨(¬ nmd c.op∧c.name≠[])∨(¬ vlu c.op∧¬isNull c.v)∨(c.op=6∧(¬ idG c.fr∨¬idG c.to))∨(c.op≠6∧(c.fr≠0∨c.to≠0))
instance (c:GC):Decidable (AB3 c):=by unfold AB3;infer_instance
def ckC (c:GC):Int:=if AB3 c then 1 else if nmd c.op∧¬isName c.name then 6 else if vlu c.op∧¬isNull c.v∧¬AjD c.v then 8 else 0
theorem AX4 {c:GC} (h:ckC c=0):(1≤c.op∧c.op≤8)∧idG c.id∧(nmd c.op→isName c.name)∧(c.op=6→idG c.fr∧idG c.to)∧(vlu c.op→isNull c.v∨AjD c.v):=by
  unfold ckC at h
  split at h
  · cases h
  rename_i h1
  split at h
  · cases h
  rename_i h2
  split at h
  · cases h
  rename_i h3
  simp only[AB3,not_or,Classical.not_not,not_and]at h1 h2 h3
  refine⟨by omega,h1.2.1,fun hn=>h2 hn,fun h6=>?_,fun hv=>?_⟩
  · have:=h1.2.2.2.2.1 h6;exact this
  · by_cases hn:isNull c.v
    · exact .inl hn
    · exact .inr (h3 hv hn)
theorem idP {z:Int}:D8 (Dx tab) 140 [.int .i64 z] (· =.bool (decide (idG z))):=by
  refine Lu rfl rfl ?_
  (conv=>whnf);repeat' (first  |((with_reducible first|apply kN|apply kW|apply kX|apply kG|apply kQ);(· exact sd);conv=>whnf)|(refine DW.mk ?_ ?_<;>intro hc<;>(try rw[List.length_nil]at hc)<;>first|(exfalso;omega)|(exact absurd rfl hc)|conv=>whnf)|(refine CB ?_ ?_<;>intro hc<;>conv=>whnf))
  all_goals first|exact Lp (by unfold idG;omega)|exact Hf (by unfold idG;omega)
theorem fieldsP {op:Int}:D8 (Dx tab) 139 [.int .i64 op] (· =.tup [.agg [.bool (decide (op=6)),.bool (decide (nmd op)),.bool (decide (vlu op))],.bool (decide (1≤op∧op≤8))]):=by
  refine Lu rfl rfl ?_
  (conv=>whnf);repeat' (first  |((with_reducible first|apply kN|apply kW|apply kX|apply kG|apply kQ);(· exact sd);conv=>whnf)|(refine DW.mk ?_ ?_<;>intro hc<;>(try rw[List.length_nil]at hc)<;>first|(exfalso;omega)|(exact absurd rfl hc)|conv=>whnf)|(refine CB ?_ ?_<;>intro hc<;>conv=>whnf))
  all_goals first
    |(subst_vars;rfl)
    | (have e1:decide (op=6)=false:=decide_eq_false (by omega)
       have e2:decide (nmd op)=false:=decide_eq_false (by unfold nmd;omega)
       have e3:decide (vlu op)=false:=decide_eq_false (by unfold vlu;omega)
       have e4:decide (1≤op∧op≤8)=false:=decide_eq_false (by omega)
       rw[e1,e2,e3,e4];rfl)
    | (trace_state; fail "fields")
theorem AHl {v:GV} (hv:v.ok):D8 (Dx tab) 141 [v.av] (· =.bool (decide (isNull v))):=by
  by_cases h:isNull v
  · rw[decide_eq_true h];exact AWB hv h
  · rw[decide_eq_false h];exact AWC hv h
set_option maxHeartbeats 8000000 in
theorem chgCk {c:GC} (h:c.ok):D8 (Dx tab) 85 [c.av] (· =.int .i64 (ckC c)):=by
  obtain⟨op,z,fr,to,nm,v⟩:=c
  obtain⟨h1,h2,h3,h4,h5,h6⟩:=h
  have hn:=name1 (s:=nm) (by have:=h5;simp only[Ln]at this;omega)
  have hp:=plain1 (v:=v) h6
  have hu:=AHl (v:=v) h6
  have hf:=fieldsP (op:=op)
  have e1:=ckC
  have hd:op=1∨op=2∨op=3∨op=4∨op=5∨op=6∨op=7∨op=8∨¬(1≤op∧op≤8):=by omega
  rcases hd with rfl|rfl|rfl|rfl|rfl|rfl|rfl|rfl|hd
  all_goals
    clear e1
    refine Lu rfl rfl ?_
    show vC _ _ [(0,.agg [.int .i64 _,.int .i64 z,.int .i64 fr,.int .i64 to,.str nm,.int .i64 v.k,.int .i64 v.n,.int .i64 v.d,.str v.s,.sl v.nn v.l])] _ _
    (conv=>whnf);repeat' (first|(refine BM hf ?_;rintro _ rfl;conv=>whnf)|(refine KH idP (fun hi=>?_) (fun hi=>?_)<;>conv=>whnf)|(refine KH hu (fun hz=>?_) (fun hz=>?_)<;>conv=>whnf)|(refine KH hn (fun hx=>?_) (fun hx=>?_)<;>conv=>whnf)|(refine KH hp (fun hy=>?_) (fun hy=>?_)<;>conv=>whnf)|((with_reducible first|apply kN|apply kW|apply kX|apply kG|apply kQ);(· exact sd);conv=>whnf)|(refine DW.mk ?_ ?_<;>intro hc<;>(try rw[List.length_nil]at hc)<;>first|(exfalso;omega)|(exact absurd rfl hc)|conv=>whnf)|(refine CB ?_ ?_<;>intro hc<;>conv=>whnf))
  all_goals first
    |(exfalso;omega)
    |exact absurd (of_decide_eq_true (by assumption)) hd
    |(refine congrArg (AV.int .i64) ?_;simp_all [ckC,AB3,nmd,vlu];done)
    | (trace_state; fail "ck")
theorem Hd.diff {α:Type} {f:α→AV} {es:Nat} {σ:List Obj} {v:AV} {b c:Bool} {l:List α} (h:Hd f es σ v b l c) {o g es':Nat} {c':Bool} {xs:List AV} (ho:nth σ o=some (.arr g es' true c' xs)) (hne:es'≠es):o∉v.obj:=by
  intro hm
  obtain⟨g1,e1,nn,c1,x1,h1,h2⟩:=h.obj hm
  rw[ho]at h1
  simp only[Option.some.injEq,Obj.arr.injEq]at h1
  obtain⟨_,rfl,rfl,_,_⟩:=h1
  exact hne (h2 rfl)
theorem Hd.nodup {α:Type} {f:α→AV} {es:Nat} {σ:List Obj} {v:AV} {b c:Bool} {l:List α} (h:Hd f es σ v b l c):v.obj.Nodup:=by
  rcases h with⟨_,_,rfl|⟨o',g,es',rfl,h⟩⟩|⟨_,o',g,rfl,h⟩<;>simp[AV.obj]
theorem nodup_repl {A B B' C:List Nat} {n:Nat} (h:(A++B++C).Nodup) (hb:B'.Nodup) (hB:∀o∈B',o∈B∨n≤o) (hlt:∀o,o∈A∨o∈C→o<n):(A++B'++C).Nodup:=by
  rw[List.nodup_append,List.nodup_append]at h ⊢
  obtain⟨⟨h1,h2,h3⟩,h4,h5⟩:=h
  refine⟨⟨h1,hb,fun a ha b hb'=>?_⟩,h4,fun a ha b hb'=>?_⟩
  · rcases hB b hb' with h|h
    · exact h3 a ha b h
    · have:=hlt a (.inl ha);omega
  · rcases List.mem_append.1 ha with ha|ha
    · exact h5 a (List.mem_append_left _ ha) b hb'
    · rcases hB a ha with h|h
      · exact h5 a (List.mem_append_right _ h) b hb'
      · have:=hlt b (.inr hb');omega
theorem EN.Ok.lt {σ:List Obj} {e:EN} (h:e.Ok σ):∀o∈e.objs,o<σ.length:=fun o ho=>by
  rcases List.mem_append.1 ho with ho|ho
  · exact h.1.lt o ho
  · exact h.2.lt o ho
theorem EE.Ok.lt {σ:List Obj} {e:EE} (h:e.Ok σ):∀o∈e.objs,o<σ.length:=fun o ho=>Hd.lt h o ho
theorem EN.Ok.keep {σ σ':List Obj} {e:EN} (h:e.Ok σ) (hk:∀o∈e.objs,nth σ' o=nth σ o):e.Ok σ':=
  ⟨h.1.keep fun o ho=>hk o (List.mem_append_left _ ho),h.2.keep fun o ho=>hk o (List.mem_append_right _ ho)⟩
theorem EE.Ok.keep {σ σ':List Obj} {e:EE} (h:e.Ok σ) (hk:∀o∈e.objs,nth σ' o=nth σ o):e.Ok σ':=Hd.keep h hk
section
variable {σ σ':List Obj} {d gd:Nat} {vN vE:AV} {nb eb:Bool} {N:List EN} {E:List EE} {x y:Int}
theorem flat_split {α:Type} {f:α→List Nat} {l:List α} {i:Nat} (hi:i<l.length):l.flatMap f=(l.take i).flatMap f++(f l[i]++(l.drop (i+1)).flatMap f):=by
  have e:l.take i++l[i]::l.drop (i+1)=l:=by rw[← List.drop_eq_getElem_cons hi,List.take_append_drop]
  rw[← List.flatMap_cons,←List.flatMap_append,e]
theorem objs_split {N:List EN} {E:List EE} {i:Nat} (hi:i<N.length):objsE N E=(N.take i).flatMap EN.objs++(N[i]).objs++((N.drop (i+1)).flatMap EN.objs++E.flatMap EE.objs):=by
  rw[objsE,flat_split hi]
  simp only[List.append_assoc]
theorem objs_splitE {N:List EN} {E:List EE} {i:Nat} (hi:i<E.length):objsE N E=(N.flatMap EN.objs++(E.take i).flatMap EE.objs)++(E[i]).objs++(E.drop (i+1)).flatMap EE.objs:=by
  rw[objsE,flat_split hi]
  simp only[List.append_assoc]
theorem mem_objsN {N:List EN} {E:List EE} {e:EN} (he:e∈N) {o:Nat} (ho:o∈e.objs):o∈objsE N E:=List.mem_append_left _ (List.mem_flatMap.2 ⟨e,he,ho⟩)
theorem mem_objsE {N:List EN} {E:List EE} {e:EE} (he:e∈E) {o:Nat} (ho:o∈e.objs):o∈objsE N E:=List.mem_append_right _ (List.mem_flatMap.2 ⟨e,he,ho⟩)
theorem Ed.fr (h:Ed σ d gd vN vE nb eb N E x y) {F:List Nat} (hF:Fr σ σ' F) (ho:∀o∈d::(vN.obj++(vE.obj++objsE N E)),o∉F):Ed σ' d gd vN vE nb eb N E x y:=by
  obtain⟨cn,hn1,hn2⟩:=h.hn
  obtain⟨ce,he1,he2⟩:=h.he
  exact⟨hF.get h.box (ho _ (by simp)),⟨cn,hn1.keep fun o hm=>hF.eq o (hn1.lt o hm) (ho o (by simp[hm])),hn2⟩,⟨ce,he1.keep fun o hm=>hF.eq o (he1.lt o hm) (ho o (by simp[hm])),he2⟩,
    fun e he=>(h.hN e he).keep fun o hm=>hF.eq o ((h.hN e he).lt o hm) (ho o (by simp[mem_objsN (E:=E) he hm])),
    fun e he=>(h.hE e he).keep fun o hm=>hF.eq o ((h.hE e he).lt o hm) (ho o (by simp[mem_objsE (N:=N) he hm])),h.nd,h.oN,h.oE⟩
theorem Ed.fr0 (h:Ed σ d gd vN vE nb eb N E x y) (hF:Fr σ σ' []):Ed σ' d gd vN vE nb eb N E x y:=h.fr hF (by simp)
theorem Ed.all_lt (h:Ed σ d gd vN vE nb eb N E x y):∀o∈d::(vN.obj++(vE.obj++objsE N E)),o<σ.length:=by
  intro o ho
  obtain⟨cn,hn1,_⟩:=h.hn
  obtain⟨ce,he1,_⟩:=h.he
  rcases List.mem_cons.1 ho with rfl|ho
  · exact nth_lt h.box
  rcases List.mem_append.1 ho with ho|ho
  · exact hn1.lt o ho
  rcases List.mem_append.1 ho with ho|ho
  · exact he1.lt o ho
  rcases List.mem_append.1 ho with ho|ho<;>obtain⟨e,he,hm⟩:=List.mem_flatMap.1 ho
  · exact(h.hN e he).lt o hm
  · exact(h.hE e he).lt o hm
theorem Ed.nodes (h:Ed σ d gd vN vE nb eb N E x y) {F:List Nat} (hF:Fr σ σ' F) (hFE:∀o∈F,o∉vE.obj∧o∉E.flatMap EE.objs) {vN':AV} {nb':Bool} {N':List EN} {x':Int} {c':Bool}
    (hb:nth σ' d=some (.arr gd 4 true false [.agg [vN',vE,.int .i64 x',.int .i64 y]]))
    (hn:Hd EN.av 3 σ' vN' nb' N' c') (hc:c'=true→∀e∈N',e.av.closed=true) (hm:∀e∈N',e.Ok σ') (hnd:(d::(vN'.obj++(vE.obj++objsE N' E))).Nodup) (hv:vN'≠.sl false []):Ed σ' d gd vN' vE nb' eb N' E x' y:=by
  obtain⟨ce,he1,he2⟩:=h.he
  exact⟨hb,⟨c',hn,hc⟩,⟨ce,he1.keep fun o hm=>hF.eq o (he1.lt o hm) (fun hf=>(hFE o hf).1 hm),he2⟩,hm,
    fun e he=>(h.hE e he).keep fun o hm=>hF.eq o ((h.hE e he).lt o hm) (fun hf=>(hFE o hf).2 (List.mem_flatMap.2 ⟨e,he,hm⟩)),hnd,hv,h.oE⟩
theorem Ed.edges (h:Ed σ d gd vN vE nb eb N E x y) {F:List Nat} (hF:Fr σ σ' F) (hFE:∀o∈F,o∉vN.obj∧o∉N.flatMap EN.objs) {vE':AV} {eb':Bool} {E':List EE} {y':Int} {c':Bool}
    (hb:nth σ' d=some (.arr gd 4 true false [.agg [vN,vE',.int .i64 x,.int .i64 y']]))
    (hn:Hd EE.av 5 σ' vE' eb' E' c') (hc:c'=true→∀e∈E',e.av.closed=true) (hm:∀e∈E',e.Ok σ') (hnd:(d::(vN.obj++(vE'.obj++objsE N E'))).Nodup) (hv:vE'≠.sl false []):Ed σ' d gd vN vE' nb eb' N E' x y':=by
  obtain⟨cn,he1,he2⟩:=h.hn
  exact⟨hb,⟨cn,he1.keep fun o hm=>hF.eq o (he1.lt o hm) (fun hf=>(hFE o hf).1 hm),he2⟩,⟨c',hn,hc⟩,
    fun e he=>(h.hN e he).keep fun o hm=>hF.eq o ((h.hN e he).lt o hm) (fun hf=>(hFE o hf).2 (List.mem_flatMap.2 ⟨e,he,hm⟩)),hm,hnd,h.oN,hv⟩
theorem Ed.apartN (h:Ed σ d gd vN vE nb eb N E x y) {i:Nat} (hi:i<N.length):∀o,o∈vN.obj∨o∈(N[i]).objs→o≠d∧o∉vE.obj∧o∉E.flatMap EE.objs∧(o∈vN.obj→o∉objsE N E)∧(o∈(N[i]).objs→o∉vN.obj∧∀j (hj:j<N.length),j≠i→o∉(N[j]).objs):=by
  have hnd:=h.nd
  have hsp:=objs_split (E:=E) hi
  rw[List.nodup_cons,List.nodup_append,List.nodup_append]at hnd
  obtain⟨h1,h2,⟨h3,h4,h5⟩,h6⟩:=hnd
  have hmem:∀o∈(N[i]).objs,o∈objsE N E:=fun o ho=>mem_objsN (List.getElem_mem hi) ho
  intro o ho
  refine⟨?_,?_,?_,?_,?_⟩
  · rintro rfl
    rcases ho with ho|ho
    · exact h1 (by simp[ho])
    · exact h1 (by simp[hmem _ ho])
  · intro hm
    rcases ho with ho|ho
    · exact h6 o ho o (by simp[hm]) rfl
    · exact h5 o hm o (hmem _ ho) rfl
  · intro hm
    rcases ho with ho|ho
    · exact h6 o ho o (by simp[objsE];exact .inr (.inr (by simpa using hm))) rfl
    · rw[hsp,List.nodup_append]at h4
      exact h4.2.2 o (List.mem_append_right _ ho) o (List.mem_append_right _ hm) rfl
  · exact fun hv hm=>h6 o hv o (by simp[hm]) rfl
  · intro hoi
    refine⟨fun hv=>h6 o hv o (by simp[hmem _ hoi]) rfl,fun j hj hji hm=>?_⟩
    rw[hsp,List.nodup_append,List.nodup_append]at h4
    obtain⟨⟨_,_,k1⟩,_,k2⟩:=h4
    rcases Nat.lt_or_ge j i with hlt|hge
    · exact k1 o (List.mem_flatMap.2 ⟨N[j],List.mem_take_iff_getElem.2 ⟨j,by omega,rfl⟩,hm⟩) o hoi rfl
    · exact k2 o (List.mem_append_right _ hoi) o (List.mem_append_left _ (List.mem_flatMap.2 ⟨N[j],List.mem_drop_iff_getElem.2 ⟨j-(i+1),by omega,by congr 1;omega⟩,hm⟩)) rfl
theorem Ed.apartE (h:Ed σ d gd vN vE nb eb N E x y) {i:Nat} (hi:i<E.length):∀o,o∈vE.obj∨o∈(E[i]).objs→o≠d∧o∉vN.obj∧o∉N.flatMap EN.objs∧(o∈vE.obj→o∉objsE N E)∧(o∈(E[i]).objs→o∉vE.obj∧∀j (hj:j<E.length),j≠i→o∉(E[j]).objs):=by
  have hnd:=h.nd
  have hsp:=objs_splitE (N:=N) hi
  rw[List.nodup_cons,List.nodup_append,List.nodup_append]at hnd
  obtain⟨h1,h2,⟨h3,h4,h5⟩,h6⟩:=hnd
  have hmem:∀o∈(E[i]).objs,o∈objsE N E:=fun o ho=>mem_objsE (List.getElem_mem hi) ho
  intro o ho
  refine⟨?_,?_,?_,?_,?_⟩
  · rintro rfl
    rcases ho with ho|ho
    · exact h1 (by simp[ho])
    · exact h1 (by simp[hmem _ ho])
  · intro hm
    rcases ho with ho|ho
    · exact h6 o hm o (by simp[ho]) rfl
    · exact h6 o hm o (by simp[hmem _ ho]) rfl
  · intro hm
    rcases ho with ho|ho
    · exact h5 o ho o (List.mem_append_left _ hm) rfl
    · rw[hsp,List.nodup_append,List.nodup_append]at h4
      exact h4.1.2.2 o (List.mem_append_left _ hm) o ho rfl
  · exact fun hv hm=>h5 o hv o hm rfl
  · intro hoi
    refine⟨fun hv=>h5 o hv o (hmem _ hoi) rfl,fun j hj hji hm=>?_⟩
    rw[hsp,List.nodup_append,List.nodup_append]at h4
    obtain⟨⟨_,_,k1⟩,_,k2⟩:=h4
    rcases Nat.lt_or_ge j i with hlt|hge
    · exact k1 o (List.mem_append_right _ (List.mem_flatMap.2 ⟨E[j],List.mem_take_iff_getElem.2 ⟨j,by omega,rfl⟩,hm⟩)) o hoi rfl
    · exact k2 o (List.mem_append_right _ hoi) o (List.mem_flatMap.2 ⟨E[j],List.mem_drop_iff_getElem.2 ⟨j-(i+1),by omega,by congr 1;omega⟩,hm⟩) rfl
theorem mem_set_iff {α:Type} {l:List α} {i:Nat} {a e:α} (he:e∈l.set i a):e=a∨∃j,∃hj:j<l.length,j≠i∧e=l[j]:=by
  obtain⟨j,hj,rfl⟩:=List.getElem_of_mem he
  rw[List.length_set]at hj
  by_cases h:j=i
  · subst h;exact .inl (by simp)
  · exact .inr ⟨j,hj,h,by rw[List.getElem_set_ne (Ne.symm h)]⟩
theorem set_flat {α:Type} {f:α→List Nat} {l:List α} {i:Nat} {a:α} (hi:i<l.length):(l.set i a).flatMap f=(l.take i).flatMap f++(f a++(l.drop (i+1)).flatMap f):=by
  rw[List.set_eq_take_append_cons_drop,if_pos hi,List.flatMap_append,List.flatMap_cons]
theorem Ed.setNode {on gn:Nat} (h:Ed σ d gd (.own on gn 0 N.length) vE true eb N E x y) {i:Nat} (hi:i<N.length) {e':EN} {c':Bool} (hF:Fr σ σ' (on::(N[i]).objs))
    (hon:nth σ' on=some (.arr gn 3 true c' (vs EN.av (N.set i e')))) (hc:c'=true→∀e∈N.set i e',e.av.closed=true) (hok:e'.Ok σ') (hob:∀o∈e'.objs,o∈(N[i]).objs∨σ.length≤o) (hnd:e'.objs.Nodup):
    Ed σ' d gd (.own on gn 0 N.length) vE true eb (N.set i e') E x y:=by
  have hap:=h.apartN hi
  have hin:∀o∈on::(N[i]).objs,o∈(AV.own on gn 0 N.length).obj∨o∈(N[i]).objs:=fun o ho=>by
    rcases List.mem_cons.1 ho with rfl|ho
    · exact .inl (by simp[AV.obj])
    · exact .inr ho
  refine h.nodes hF (fun o ho=>⟨(hap o (hin o ho)).2.1,(hap o (hin o ho)).2.2.1⟩) (hF.get h.box fun hm=>(hap d (hin d hm)).1 rfl) (.inr ⟨rfl,on,gn,by rw[List.length_set],hon⟩) hc (fun e he=>?_) ?_ (by simp)
  · rcases mem_set_iff he with rfl|⟨j,hj,hji,rfl⟩
    · exact hok
    · refine(h.hN _ (List.getElem_mem hj)).keep fun o hm=>hF.eq o ((h.hN _ (List.getElem_mem hj)).lt o hm) fun hf=>?_
      rcases List.mem_cons.1 hf with rfl|hf
      · exact(hap o (.inl (by simp[AV.obj]))).2.2.2.1 (by simp[AV.obj]) (mem_objsN (List.getElem_mem hj) hm)
      · exact((hap o (.inr hf)).2.2.2.2 hf).2 j hj hji hm
  · have h0:=h.nd
    have hl:=h.all_lt
    rw[objs_split hi]at h0 hl
    have e1:d::((AV.own on gn 0 N.length).obj++(vE.obj++objsE (N.set i e') E))=(d::((AV.own on gn 0 N.length).obj++(vE.obj++(N.take i).flatMap EN.objs)))++e'.objs++((N.drop (i+1)).flatMap EN.objs++E.flatMap EE.objs):=by
      rw[objsE,set_flat hi];simp only[List.append_assoc,List.cons_append]
    rw[e1]
    refine nodup_repl (B:=(N[i]).objs) (n:=σ.length) (by simpa only[List.append_assoc,List.cons_append]using h0) hnd hob fun o ho=>hl o ?_
    simp only[List.mem_cons,List.mem_append]at ho ⊢
    rcases ho with(h|h|h|h)|h|h<;>simp[h]
theorem Ed.setEdge {on gn:Nat} (h:Ed σ d gd vN (.own on gn 0 E.length) nb true N E x y) {i:Nat} (hi:i<E.length) {e':EE} {c':Bool} (hF:Fr σ σ' (on::(E[i]).objs))
    (hon:nth σ' on=some (.arr gn 5 true c' (vs EE.av (E.set i e')))) (hc:c'=true→∀e∈E.set i e',e.av.closed=true) (hok:e'.Ok σ') (hob:∀o∈e'.objs,o∈(E[i]).objs∨σ.length≤o) (hnd:e'.objs.Nodup):
    Ed σ' d gd vN (.own on gn 0 E.length) nb true N (E.set i e') x y:=by
  have hap:=h.apartE hi
  have hin:∀o∈on::(E[i]).objs,o∈(AV.own on gn 0 E.length).obj∨o∈(E[i]).objs:=fun o ho=>by
    rcases List.mem_cons.1 ho with rfl|ho
    · exact .inl (by simp[AV.obj])
    · exact .inr ho
  refine h.edges hF (fun o ho=>⟨(hap o (hin o ho)).2.1,(hap o (hin o ho)).2.2.1⟩) (hF.get h.box fun hm=>(hap d (hin d hm)).1 rfl) (.inr ⟨rfl,on,gn,by rw[List.length_set],hon⟩) hc (fun e he=>?_) ?_ (by simp)
  · rcases mem_set_iff he with rfl|⟨j,hj,hji,rfl⟩
    · exact hok
    · refine(h.hE _ (List.getElem_mem hj)).keep fun o hm=>hF.eq o ((h.hE _ (List.getElem_mem hj)).lt o hm) fun hf=>?_
      rcases List.mem_cons.1 hf with rfl|hf
      · exact(hap o (.inl (by simp[AV.obj]))).2.2.2.1 (by simp[AV.obj]) (mem_objsE (List.getElem_mem hj) hm)
      · exact((hap o (.inr hf)).2.2.2.2 hf).2 j hj hji hm
  · have h0:=h.nd
    have hl:=h.all_lt
    rw[objs_splitE hi]at h0 hl
    have e1:d::(vN.obj++((AV.own on gn 0 E.length).obj++objsE N (E.set i e')))=(d::(vN.obj++((AV.own on gn 0 E.length).obj++(N.flatMap EN.objs++(E.take i).flatMap EE.objs))))++e'.objs++(E.drop (i+1)).flatMap EE.objs:=by
      rw[objsE,set_flat hi];simp only[List.append_assoc,List.cons_append]
    rw[e1]
    refine nodup_repl (B:=(E[i]).objs) (n:=σ.length) (by simpa only[List.append_assoc,List.cons_append]using h0) hnd hob fun o ho=>hl o ?_
    simp only[List.mem_cons,List.mem_append]at ho ⊢
    rcases ho with(h|h|h|h|h)|h<;>simp[h]
theorem Ed.outN (h:Ed σ d gd vN vE nb eb N E x y) {F:List Nat} (hFo:∀o∈F,o=d∨o∈vN.obj):∀o∈vE.obj++objsE N E,o∉F:=by
  intro o ho hf
  have hnd:=h.nd
  rw[List.nodup_cons,List.nodup_append]at hnd
  rcases hFo o hf with rfl|hv
  · exact hnd.1 (List.mem_append_right _ ho)
  · exact hnd.2.2.2 o hv o ho rfl
theorem Ed.outE (h:Ed σ d gd vN vE nb eb N E x y) {F:List Nat} (hFo:∀o∈F,o=d∨o∈vE.obj):∀o∈vN.obj++objsE N E,o∉F:=by
  intro o ho hf
  have hnd:=h.nd
  rw[List.nodup_cons,List.nodup_append,List.nodup_append]at hnd
  rcases hFo o hf with rfl|hv
  · exact hnd.1 (by rcases List.mem_append.1 ho with ho|ho<;>simp[ho])
  · rcases List.mem_append.1 ho with ho|ho
    · exact hnd.2.2.2 o ho o (List.mem_append_left _ hv) rfl
    · exact hnd.2.2.1.2.2 o hv o ho rfl
def eN0 (z:Int):EN:=⟨⟨z,false,[],false,[]⟩,.sl false [],.sl false []⟩
def eE0 (z fr to:Int) (ty:List UInt8):EE:=⟨⟨z,fr,to,ty,false,[]⟩,.sl false []⟩
theorem Ed.subN (h:Ed σ d gd vN vE nb eb N E x y) {F:List Nat} (hF:Fr σ σ' F) (hFo:∀o∈F,o=d∨o∈vN.obj) {vN':AV} {nb':Bool} {N':List EN} {x':Int} {c':Bool}
    (hb:nth σ' d=some (.arr gd 4 true false [.agg [vN',vE,.int .i64 x',.int .i64 y]])) (hn:Hd EN.av 3 σ' vN' nb' N' c') (hc:c'=true→∀e∈N,e.av.closed=true)
    (hm:∀e∈N',e∈N∨∃z,e=eN0 z) (hs:(N'.flatMap EN.objs).Sublist (N.flatMap EN.objs)) (ho:∀o∈vN'.obj,o∈vN.obj∨σ.length≤o) (hv:vN'≠.sl false []):Ed σ' d gd vN' vE nb' eb N' E x' y:=by
  have hout:=h.outN hFo
  refine h.nodes hF (fun o hf=>⟨fun hm=>hout o (List.mem_append_left _ hm) hf,fun hm=>hout o (List.mem_append_right _ (List.mem_append_right _ hm)) hf⟩) hb hn (fun hct e he=>?_) (fun e he=>?_) ?_ hv
  · rcases hm e he with he|⟨z,rfl⟩
    · exact hc hct e he
    · rfl
  · rcases hm e he with he|⟨z,rfl⟩
    · exact(h.hN e he).keep fun o hm=>hF.eq o ((h.hN e he).lt o hm) (hout o (List.mem_append_right _ (mem_objsN he hm)))
    · exact⟨.inl ⟨rfl,rfl,.inl rfl⟩,.inl ⟨rfl,rfl,.inl rfl⟩⟩
  · have hsub:(vE.obj++objsE N' E).Sublist (vE.obj++objsE N E):=(List.Sublist.refl _).append (hs.append (List.Sublist.refl _))
    have h0:(([d]++vN.obj)++(vE.obj++objsE N' E)).Nodup:=h.nd.sublist ((List.Sublist.refl ([d]++vN.obj)).append hsub)
    refine nodup_repl (A:=[d]) (n:=σ.length) h0 hn.nodup ho fun o hm=>h.all_lt o ?_
    rcases hm with hm|hm
    · simp at hm;simp[hm]
    · exact List.mem_cons_of_mem _ (List.mem_append_right _ (hsub.subset hm))
theorem Ed.subE (h:Ed σ d gd vN vE nb eb N E x y) {F:List Nat} (hF:Fr σ σ' F) (hFo:∀o∈F,o=d∨o∈vE.obj) {vE':AV} {eb':Bool} {E':List EE} {y':Int} {c':Bool}
    (hb:nth σ' d=some (.arr gd 4 true false [.agg [vN,vE',.int .i64 x,.int .i64 y']])) (hn:Hd EE.av 5 σ' vE' eb' E' c') (hc:c'=true→∀e∈E,e.av.closed=true)
    (hm:∀e∈E',e∈E∨∃z a b s,e=eE0 z a b s) (hs:(E'.flatMap EE.objs).Sublist (E.flatMap EE.objs)) (ho:∀o∈vE'.obj,o∈vE.obj∨σ.length≤o) (hv:vE'≠.sl false []):Ed σ' d gd vN vE' nb eb' N E' x y':=by
  have hout:=h.outE hFo
  refine h.edges hF (fun o hf=>⟨fun hm=>hout o (List.mem_append_left _ hm) hf,fun hm=>hout o (List.mem_append_right _ (List.mem_append_left _ hm)) hf⟩) hb hn (fun hct e he=>?_) (fun e he=>?_) ?_ hv
  · rcases hm e he with he|⟨z,a,b,s,rfl⟩
    · exact hc hct e he
    · rfl
  · rcases hm e he with he|⟨z,a,b,s,rfl⟩
    · exact(h.hE e he).keep fun o hm=>hF.eq o ((h.hE e he).lt o hm) (hout o (List.mem_append_right _ (mem_objsE he hm)))
    · exact .inl ⟨rfl,rfl,.inl rfl⟩
  · have hsub:(objsE N E').Sublist (objsE N E):=(List.Sublist.refl _).append hs
    have h0:(([d]++vN.obj)++vE.obj++objsE N E').Nodup:=by
      have:=h.nd.sublist ((List.Sublist.refl (([d]++vN.obj)++vE.obj)).append hsub |>.trans (by simp[List.append_assoc]))
      exact this
    have h1:=nodup_repl (A:=[d]++vN.obj) (n:=σ.length) h0 hn.nodup ho fun o hm=>h.all_lt o (by
      rcases hm with hm|hm
      · rcases List.mem_append.1 hm with hm|hm
        · simp at hm;simp[hm]
        · simp[hm]
      · have:=hsub.subset hm
        simp[this])
    simpa[List.append_assoc]using h1
end
end AI
end Go.Proofs.YtnbibfalljlmfaaGreatDoor
