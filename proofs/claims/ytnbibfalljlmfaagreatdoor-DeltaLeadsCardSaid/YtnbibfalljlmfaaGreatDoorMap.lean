/- An editor's change of a node. An editor's change of a node: labels. -/
import Derived.Test.YtnbibfalljlmfaaGreatDoorMao
import Derived.Test.YtnbibfalljlmfaaGreatDoorMaf
set_option linter.unusedVariables false
set_option maxRecDepth 4000
namespace Go.Proofs.YtnbibfalljlmfaaGreatDoor
namespace AI
structure Ask (N:List EN) (E:List EE) (x y:Int):Prop where
  lN:N.length≤2000
  lE:E.length≤4000
  iN:Inc ltI GN.id (N.map EN.n)
  iE:Inc ltI GE.id (E.map EE.e)
  iL:∀e∈N,Inc Op.bytesLess id e.n.labels∧e.n.labels.length≤8
  iP:∀e∈N,Inc Op.bytesLess GP.key e.n.props∧e.n.props.length≤16
  iQ:∀e∈E,Inc Op.bytesLess GP.key e.e.props∧e.e.props.length≤16
  bx:-2^62≤x∧x≤2^62
  by_:-2^62≤y∧y≤2^62
section
variable {σ:List Obj} {d gd:Nat} {vN vE:AV} {nb eb:Bool} {N:List EN} {E:List EE} {x y:Int} {ct:Nat} {K:AX5→Sto→Prop}
theorem nodeYes {nb eb:Bool} {z:Int} (hq:Ask N E x y) (hf:∃n∈N,n.n.id=z):∃i,AtK ltI GN.id z (N.map EN.n) i∧D8 (Dx tab) 142 [.AhL (gOf nb eb N E x y).av.cells,.int .i64 z] (· =.tup [.int .i64 (i:Nat),.bool true]):=by
  obtain⟨_,⟨i,b,rfl,h1,h2⟩,hd⟩:=(nodePr (g:=gOf nb eb N E x y) (x:=z) (by have:=hq.lN;simp[gOf];omega) hq.iN).det
  obtain⟨n,hn,e⟩:=hf
  rw[h2.2 ⟨n.n,by simp only[gOf,List.mem_map];exact⟨n,hn,rfl⟩,e⟩]at hd
  exact⟨i,h1,hd⟩
theorem nodeNo {nb eb:Bool} {z:Int} (hq:Ask N E x y) (hf:¬∃n∈N,n.n.id=z):∃i,AtK ltI GN.id z (N.map EN.n) i∧D8 (Dx tab) 142 [.AhL (gOf nb eb N E x y).av.cells,.int .i64 z] (· =.tup [.int .i64 (i:Nat),.bool false]):=by
  obtain⟨_,⟨i,b,rfl,h1,h2⟩,hd⟩:=(nodePr (g:=gOf nb eb N E x y) (x:=z) (by have:=hq.lN;simp[gOf];omega) hq.iN).det
  cases b
  · exact⟨i,h1,hd⟩
  · obtain⟨n,hn,e⟩:=h2.1 rfl
    simp only[gOf,List.mem_map]at hn
    obtain⟨m,hm,rfl⟩:=hn
    exact absurd ⟨m,hm,e⟩ hf
theorem Ask.deep (hq:Ask N E x y):21+N.length+E.length≤999999:=by have:=hq.lN;have:=hq.lE;omega
set_option maxHeartbeats 1000000 in
theorem nodes1 {z fr to:Int} {nm:List UInt8} {v:GV} (h:Ed σ d gd vN vE nb eb N E x y) (hq:Ask N E x y) (hz:1≤z∧z≤1000000)
    (hP:(∃ n∈N,n.n.id=z)→∀σ' c',Fr σ σ' []→K (.pan (.iface 115 (.int .i64 7))) ⟨σ',c'⟩)
    (hQ:(¬ ∃n∈N,n.n.id=z)→¬N.length<2000→∀σ' c',Fr σ σ' []→K (.pan (.iface 115 (.int .i64 20))) ⟨σ',c'⟩)
    (hR:(¬ ∃n∈N,n.n.id=z)→N.length<2000→∀σ' c' vN' N',Ed σ' d gd vN' vE true eb N' E (if z+1>x then z+1 else x) y→N'.map EN.n=Tc ltI GN.id ⟨z,false,[],false,[]⟩ (N.map EN.n)→Fr σ σ' (d::(vN.obj++(vE.obj++objsE N E)))→K (.ok (.tup [])) ⟨σ',c'⟩):
    H6 (Dx tab) 87 [.ref d gd 0 0,(GC.mk 1 z fr to nm v).av] ⟨σ,ct⟩ K:=by
  have hdeep:=hq.deep
  have hlN:=hq.lN
  have hbx:=hq.bx
  show H6 (Dx tab) _ [.ref d gd 0 0,.agg [.int .i64 1,.int .i64 z,.int .i64 fr,.int .i64 to,.str nm,.int .i64 v.k,.int .i64 v.n,.int .i64 v.d,.str v.s,.sl v.nn v.l]] _ _
  by_cases hf:∃n∈N,n.n.id=z
  · obtain⟨i,q1,hbt⟩:=nodeYes (nb:=nb) (eb:=eb) hq hf
    refine FH rfl rfl ?_
    (conv=>whnf);repeat' (first|(refine snocG fun σ1 f1 h1 l1=>?_;have hE1:=h.fr0 f1;conv=>whnf)|(apply Ez (hE1.snR 999999 hdeep);conv=>whnf)|(refine BM hbt ?_;rintro _ rfl;conv=>whnf)|(refine mustF ?_;conv=>whnf)|(rw [h1];conv=>whnf)|((with_reducible first|apply kN|apply kW|apply kX|apply kG|apply kQ);(· exact sd);conv=>whnf)|(refine DW.mk ?_ ?_<;>intro hc<;>(try rw[List.length_nil]at hc)<;>first|(exfalso;omega)|(exact absurd rfl hc)|conv=>whnf)|(refine CB ?_ ?_<;>intro hc<;>conv=>whnf))
    all_goals first | exact hP hf _ _ f1 | (trace_state; fail "n1a")
  · obtain⟨i,q1,hbt⟩:=nodeNo (nb:=nb) (eb:=eb) hq hf
    by_cases hlen:N.length<2000
    · obtain⟨cn,hn1,hn2⟩:=h.hn
      rcases hn1 with⟨rfl,rfl,rfl|⟨o,g,es',rfl,ho⟩⟩|⟨rfl,o,g,rfl,ho⟩
      · exact absurd rfl h.oN
      · obtain rfl:i=0:=by simpa using q1.le
        refine FH rfl rfl ?_
        (conv=>whnf);repeat' (first|(refine snocG fun σ1 f1 h1 l1=>?_;have hE1:=h.fr0 f1;have hd1:=hE1.box;have ho1:=f1.get ho (by simp);conv=>whnf)|(apply Ez (hE1.snR 999999 hdeep);conv=>whnf)|(refine BM hbt ?_;rintro _ rfl;conv=>whnf)|(refine mustT ?_;conv=>whnf)|(rw [h1];conv=>whnf)|(rw [hd1];conv=>whnf)|(refine insNilO (x:=GN.av ⟨z,false,[],false,[]⟩) rfl rfl (by omega) ho1 fun σ2 f2 h2=>?_;have hd2:=f2.get hd1 (by simp);have h12:=f2.get h1 (by simp);conv=>whnf)|(rw [hd2];conv=>whnf)|((with_reducible first|apply kN|apply kW|apply kX|apply kG|apply kQ);(· exact sd);conv=>whnf)|(refine DW.mk ?_ ?_<;>intro hc<;>(try rw[List.length_nil]at hc)<;>first|(exfalso;omega)|(exact absurd rfl hc)|conv=>whnf)|(refine CB ?_ ?_<;>intro hc<;>conv=>whnf))
        have hns:σ.length∉[d]:=by have:=nth_lt h.box;simp;omega
        refine setG hd2 fun σ3 f3 h3 l3=>?_
        have h13:=f3.get h12 hns
        (conv=>whnf);repeat' (first|(rw [h3];conv=>whnf)|(rw [h13];conv=>whnf)|((with_reducible first|apply kN|apply kW|apply kX|apply kG|apply kQ);(· exact sd);conv=>whnf)|(refine DW.mk ?_ ?_<;>intro hc<;>(try rw[List.length_nil]at hc)<;>first|(exfalso;omega)|(exact absurd rfl hc)|conv=>whnf)|(refine CB ?_ ?_<;>intro hc<;>conv=>whnf))
        refine setG h3 fun σ4 f4 h4 l4=>?_
        (conv=>whnf);repeat' (first  |((with_reducible first|apply kN|apply kW|apply kX|apply kG|apply kQ);(· exact sd);conv=>whnf)|(refine DW.mk ?_ ?_<;>intro hc<;>(try rw[List.length_nil]at hc)<;>first|(exfalso;omega)|(exact absurd rfl hc)|conv=>whnf)|(refine CB ?_ ?_<;>intro hc<;>conv=>whnf))
        have hF:Fr σ σ4 [d]:=(((f1.mono (by simp)).trans (f2.mono (by simp))).trans f3).trans f4
        have hdl:=nth_lt h.box
        have h24:nth σ4 σ1.length=some (.arr (ct+1) 3 true true (vs EN.av [eN0 z])):=f4.get (f3.get h2 (by have:=f1.len;simp;dsimp only at this;omega)) (by have:=f1.len;simp;dsimp only at this;omega)
        have hed:Ed σ4 d gd (.own σ1.length (ct+1) 0 1) vE true eb [eN0 z] E (if z+1>x then z+1 else x) y:=
          h.subN hF (by simp) h4 (.inr ⟨rfl,_,_,rfl,h24⟩) (fun _ e he=>by simp at he) (fun e he=>.inr ⟨z,by simpa using he⟩) (by simp[eN0,EN.objs,AV.obj]) (fun o ho=>.inr (by simp only[AV.obj,List.mem_singleton]at ho;subst ho;exact f1.len)) (by simp)
        exact hR hf hlen _ _ _ _ hed rfl (hF.mono (by simp))
      · have hil:=q1.le
        rw[List.length_map]at hil
        have hno:σ.length∉[o]:=by have:=nth_lt ho;simp;omega
        have hdo:d∉[o]:=by have:=h.nd;simp[AV.obj]at this;simpa using this.1.1
        refine FH rfl rfl ?_
        (conv=>whnf);repeat' (first|(refine snocG fun σ1 f1 h1 l1=>?_;have hE1:=h.fr0 f1;have hd1:=hE1.box;have ho1:=f1.get ho (by simp);conv=>whnf)|(apply Ez (hE1.snR 999999 hdeep);conv=>whnf)|(refine BM hbt ?_;rintro _ rfl;conv=>whnf)|(refine mustT ?_;conv=>whnf)|(rw [h1];conv=>whnf)|(rw [hd1];conv=>whnf)|(refine insOwn (fv:=EN.av) (x:=eN0 z) rfl rfl (by omega) rfl hil ho1 fun σ2 f2 h2=>?_;have hd2:=f2.get hd1 hdo;have h12:=f2.get h1 hno;conv=>whnf)|(rw [hd2];conv=>whnf)|((with_reducible first|apply kN|apply kW|apply kX|apply kG|apply kQ);(· exact sd);conv=>whnf)|(refine DW.mk ?_ ?_<;>intro hc<;>(try rw[List.length_nil]at hc)<;>first|(exfalso;omega)|(exact absurd rfl hc)|conv=>whnf)|(refine CB ?_ ?_<;>intro hc<;>conv=>whnf))
        refine setG hd2 fun σ3 f3 h3 l3=>?_
        have hdl:=nth_lt h.box
        have h13:=f3.get h12 (by simp;omega)
        (conv=>whnf);repeat' (first|(rw [h3];conv=>whnf)|(rw [h13];conv=>whnf)|((with_reducible first|apply kN|apply kW|apply kX|apply kG|apply kQ);(· exact sd);conv=>whnf)|(refine DW.mk ?_ ?_<;>intro hc<;>(try rw[List.length_nil]at hc)<;>first|(exfalso;omega)|(exact absurd rfl hc)|conv=>whnf)|(refine CB ?_ ?_<;>intro hc<;>conv=>whnf))
        refine setG h3 fun σ4 f4 h4 l4=>?_
        (conv=>whnf);repeat' (first  |((with_reducible first|apply kN|apply kW|apply kX|apply kG|apply kQ);(· exact sd);conv=>whnf)|(refine DW.mk ?_ ?_<;>intro hc<;>(try rw[List.length_nil]at hc)<;>first|(exfalso;omega)|(exact absurd rfl hc)|conv=>whnf)|(refine CB ?_ ?_<;>intro hc<;>conv=>whnf))
        have hF:Fr σ σ4 [d,o]:=(((f1.mono (by simp)).trans (f2.mono (by simp))).trans (f3.mono (by simp))).trans (f4.mono (by simp))
        have hod:o∉[d]:=fun hm=>hdo (by simp at hm ⊢;exact hm.symm)
        have h24:nth σ4 o=some (.arr (ct+1) 3 true cn (vs EN.av (N.take i++[eN0 z]++N.drop i))):=f4.get (f3.get h2 hod) hod
        have hl4:(N.take i++[eN0 z]++N.drop i).length=N.length+1:=by simp only[List.length_append,List.length_take,List.length_drop,List.length_singleton];omega
        have hed:Ed σ4 d gd (.own o (ct+1) 0 (N.length+1)) vE true eb (N.take i++[eN0 z]++N.drop i) E (if z+1>x then z+1 else x) y:=
          h.subN hF (by simp[AV.obj]) h4 (.inr ⟨rfl,_,_,by rw[hl4],h24⟩) hn2 (fun e he=>by
            rcases List.mem_append.1 he with he|he
            · rcases List.mem_append.1 he with he|he
              · exact .inl (List.mem_of_mem_take he)
              · exact .inr ⟨z,by simpa using he⟩
            · exact .inl (List.mem_of_mem_drop he)) (by
            rw[List.flatMap_append,List.flatMap_append,show[eN0 z].flatMap EN.objs=[] from rfl,List.append_nil,←List.flatMap_append,List.take_append_drop]
            exact List.Sublist.refl _) (fun o ho=>.inl ho) (by simp)
        exact hR hf hlen _ _ _ _ hed (by
          refine Eq.trans ?_ (AtK.ins (key:=GN.id) (x:=(⟨z,false,[],false,[]⟩:GN)) Hu q1 (fun n hn e=>hf (by obtain⟨m,hm,rfl⟩:=List.mem_map.1 hn;exact⟨m,hm,e⟩)))
          simp only[List.map_append,List.map_take,List.map_drop];rfl) (hF.mono (by simp[AV.obj]))
    · obtain⟨cn,hn1,hn2⟩:=h.hn
      rcases hn1 with⟨rfl,rfl,rfl|⟨o,g,es',rfl,ho⟩⟩|⟨rfl,o,g,rfl,ho⟩
      · exact absurd rfl h.oN
      · exact absurd (by simp) hlen
      · refine FH rfl rfl ?_
        (conv=>whnf);repeat' (first|(refine snocG fun σ1 f1 h1 l1=>?_;have hE1:=h.fr0 f1;have hd1:=hE1.box;conv=>whnf)|(apply Ez (hE1.snR 999999 hdeep);conv=>whnf)|(refine BM hbt ?_;rintro _ rfl;conv=>whnf)|(refine mustT ?_;conv=>whnf)|(refine mustF ?_;conv=>whnf)|(rw [h1];conv=>whnf)|(rw [hd1];conv=>whnf)|((with_reducible first|apply kN|apply kW|apply kX|apply kG|apply kQ);(· exact sd);conv=>whnf)|(refine DW.mk ?_ ?_<;>intro hc<;>(try rw[List.length_nil]at hc)<;>first|(exfalso;omega)|(exact absurd rfl hc)|conv=>whnf)|(refine CB ?_ ?_<;>intro hc<;>conv=>whnf))
        all_goals first | exact hQ hf hlen _ _ f1 | (trace_state; fail "n1c")
end
section
variable {σ:List Obj} {d gd:Nat} {vN vE:AV} {nb eb:Bool} {N:List EN} {E:List EE} {x y:Int} {ct:Nat} {K:AX5→Sto→Prop}
theorem Ed.at (h:Ed σ d gd vN vE nb eb N E x y) (hq:Ask N E x y) {z:Int} (hf:∃n∈N,n.n.id=z):nb=true∧∃o g c i,∃hi:i<N.length,vN=.own o g 0 N.length∧nth σ o=some (.arr g 3 true c (vs EN.av N))∧(c=true→∀e∈N,e.av.closed=true)∧(N[i]).n.id=z∧AtK ltI GN.id z (N.map EN.n) i∧
    D8 (Dx tab) 142 [.AhL (gOf nb eb N E x y).av.cells,.int .i64 z] (· =.tup [.int .i64 (i:Nat),.bool true]):=by
  obtain⟨i,q1,hbt⟩:=nodeYes (nb:=nb) (eb:=eb) hq hf
  obtain⟨n,hn,e⟩:=hf
  obtain⟨hil,hid,_⟩:=q1.found Hu hq.iN ⟨n.n,List.mem_map_of_mem hn,e⟩
  rw[List.length_map]at hil
  obtain⟨cn,hn1,hn2⟩:=h.hn
  rcases hn1 with⟨_,rfl,_⟩|⟨rfl,o,g,rfl,ho⟩
  · simp at hil
  · exact⟨rfl,o,g,cn,i,hil,rfl,ho,hn2,by simpa using hid,q1,hbt⟩
theorem vs_set {α:Type} {f:α→AV} {l:List α} {i:Nat} {a:α}:(vs f l).set i (f a)=vs f (l.set i a):=by simp[vs,List.map_set]
set_option maxHeartbeats 2000000 in
theorem nodesNo {op z fr to:Int} {nm:List UInt8} {v:GV} (h:Ed σ d gd vN vE nb eb N E x y) (hq:Ask N E x y) (hz:1≤z∧z≤1000000) (hop:op=2∨op=3∨op=4∨op=5) (hf:¬∃n∈N,n.n.id=z)
    (hP:∀σ' c',Fr σ σ' []→K (.pan (.iface 115 (.int .i64 10))) ⟨σ',c'⟩):
    H6 (Dx tab) 87 [.ref d gd 0 0,(GC.mk op z fr to nm v).av] ⟨σ,ct⟩ K:=by
  have hdeep:=hq.deep
  obtain⟨i,q1,hbt⟩:=nodeNo (nb:=nb) (eb:=eb) hq hf
  show H6 (Dx tab) _ [.ref d gd 0 0,.agg [.int .i64 op,.int .i64 z,.int .i64 fr,.int .i64 to,.str nm,.int .i64 v.k,.int .i64 v.n,.int .i64 v.d,.str v.s,.sl v.nn v.l]] _ _
  rcases hop with rfl|rfl|rfl|rfl
  all_goals
    refine FH rfl rfl ?_
    (conv=>whnf);repeat' (first|(refine snocG fun σ1 f1 h1 l1=>?_;have hE1:=h.fr0 f1;conv=>whnf)|(apply Ez (hE1.snR 999999 hdeep);conv=>whnf)|(refine BM hbt ?_;rintro _ rfl;conv=>whnf)|(refine mustF ?_;conv=>whnf)|(rw [h1];conv=>whnf)|((with_reducible first|apply kN|apply kW|apply kX|apply kG|apply kQ);(· exact sd);conv=>whnf)|(refine DW.mk ?_ ?_<;>intro hc<;>(try rw[List.length_nil]at hc)<;>first|(exfalso;omega)|(exact absurd rfl hc)|conv=>whnf)|(refine CB ?_ ?_<;>intro hc<;>conv=>whnf))
    all_goals first | exact hP _ _ f1 | (trace_state; fail "nNo")
set_option maxHeartbeats 2000000 in
theorem nodes3 {z fr to:Int} {nm:List UInt8} {v:GV} (h:Ed σ d gd vN vE nb eb N E x y) (hq:Ask N E x y) (hz:1≤z∧z≤1000000) (hf:∃n∈N,n.n.id=z)
    (hP:(∃ n∈N.map EN.n,n.id=z∧nm∈n.labels)→∀σ' c',Fr σ σ' []→K (.pan (.iface 115 (.int .i64 7))) ⟨σ',c'⟩)
    (hQ:(∃ n∈N.map EN.n,n.id=z∧nm∉n.labels∧¬n.labels.length<8)→∀σ' c',Fr σ σ' []→K (.pan (.iface 115 (.int .i64 20))) ⟨σ',c'⟩)
    (hR:∀n∈N.map EN.n,n.id=z→nm∉n.labels→n.labels.length<8→∀σ' c' N',Ed σ' d gd vN vE nb eb N' E x y→N'.map EN.n=Tc ltI GN.id {n with ln:=true,labels:=Tc Op.bytesLess id nm n.labels} (N.map EN.n)→Fr σ σ' (d::(vN.obj++(vE.obj++objsE N E)))→K (.ok (.tup [])) ⟨σ',c'⟩):
    H6 (Dx tab) 87 [.ref d gd 0 0,(GC.mk 3 z fr to nm v).av] ⟨σ,ct⟩ K:=by
  have hdeep:=hq.deep
  have hlN:=hq.lN
  obtain⟨rfl,o,g,cn,i,hi,rfl,ho,hcn,hid,q1,hbt⟩:=h.at hq hf
  have hmem:N[i]∈N:=List.getElem_mem hi
  have hok:=h.hN _ hmem
  obtain⟨hil,hl8⟩:=hq.iL _ hmem
  have hap:=h.apartN hi
  show H6 (Dx tab) _ [.ref d gd 0 0,.agg [.int .i64 3,.int .i64 z,.int .i64 fr,.int .i64 to,.str nm,.int .i64 v.k,.int .i64 v.n,.int .i64 v.d,.str v.s,.sl v.nn v.l]] _ _
  obtain⟨e,he⟩:∃e,e=N[i]:=⟨_,rfl⟩
  rw[← he]at hok hil hl8
  have hnt:nth (vs EN.av N) (Int.toNat (i:Int))=some e.av:=by rw[he];exact nV hi
  have hnt':nth (vs EN.av N) i=some e.av:=by rw[he];exact nV hi
  obtain⟨n,lv,pv⟩:=e
  have hok1:Hd .str 1 σ lv n.ln n.labels true:=hok.1
  have hok2:Hd GP.av 6 σ pv n.pn n.props true:=hok.2
  replace hl8:n.labels.length≤8:=hl8
  replace hil:Inc Op.bytesLess id n.labels:=hil
  have hmm:n∈N.map EN.n:=by rw[show n=(N[i]).n by rw[← he]];exact List.mem_map_of_mem hmem
  have hnz:n.id=z:=by rw[show n=(N[i]).n by rw[← he]];exact hid
  have hbs:=fun(nn:Bool)=>(bsS (nn:=nn) (x:=nm) (l:=n.labels) (by omega) hil).det
  by_cases hin:nm∈n.labels
  · have hbq:∀nn,∃j:Nat,D8 (Dx tab) 146 [.sl nn (vs .str n.labels),.str nm] (· =.tup [.int .i64 j,.bool true]):=fun nn=>by
      obtain⟨_,⟨j,b,rfl,r1,r2⟩,hd⟩:=hbs nn
      rw[r2.2 ⟨nm,hin,rfl⟩]at hd
      exact⟨j,hd⟩
    rcases hok1 with⟨hb,hl0,_⟩|⟨hb,ol,gl,rfl,hol⟩
    · rw[hl0]at hin;simp at hin
    · obtain⟨j,hbj⟩:=hbq true
      refine FH rfl rfl ?_
      (conv=>whnf);repeat' (first|(refine snocG fun σ1 f1 h1 l1=>?_;have hE1:=h.fr0 f1;have hd1:=hE1.box;have ho1:=f1.get ho (by simp);have hl1:=f1.get hol (by simp);conv=>whnf)|(apply Ez (hE1.snR 999999 hdeep);conv=>whnf)|(refine BM hbt ?_;rintro _ rfl;conv=>whnf)|(refine BM hbj ?_;rintro _ rfl;conv=>whnf)|(refine mustT ?_;conv=>whnf)|(refine mustF ?_;conv=>whnf)|(rw [h1];conv=>whnf)|(rw [hd1];conv=>whnf)|(rw [ho1];conv=>whnf)|(rw [hl1];conv=>whnf)|(refine LX hnt ?_;conv=>whnf)|(refine LX hnt' ?_;conv=>whnf)|((with_reducible first|apply kN|apply kW|apply kX|apply kG|apply kQ);(· exact sd);conv=>whnf)|(refine DW.mk ?_ ?_<;>intro hc<;>(try rw[List.length_nil]at hc)<;>first|(exfalso;omega)|(exact absurd rfl hc)|conv=>whnf)|(refine CB ?_ ?_<;>intro hc<;>conv=>whnf))
      all_goals first | exact hP ⟨n, hmm, hnz, hin⟩ _ _ f1 | (trace_state; fail "n3a")
  · have hbq:∀nn,∃j:Nat,AtK Op.bytesLess id nm n.labels j∧D8 (Dx tab) 146 [.sl nn (vs .str n.labels),.str nm] (· =.tup [.int .i64 j,.bool false]):=fun nn=>by
      obtain⟨_,⟨j,b,rfl,r1,r2⟩,hd⟩:=hbs nn
      cases b
      · exact⟨j,r1,hd⟩
      · obtain⟨w,hw,rfl⟩:=r2.1 rfl
        exact absurd hw hin
    have hno:∀w∈n.labels,id w≠nm:=fun w hw e=>hin (e▸hw)
    have hdl:=nth_lt h.box
    have hol':=nth_lt ho
    have fin:∀σ1 σ2 σ3 c' lv',Fr σ σ1 []→Fr σ1 σ2 lv.obj→Fr σ2 σ3 [o]→nth σ3 o=some (.arr g 3 true false (vs EN.av (N.set i ⟨{n with ln:=true,labels:=Tc Op.bytesLess id nm n.labels},lv',pv⟩)))→
        Hd .str 1 σ2 lv' true (Tc Op.bytesLess id nm n.labels) true→(∀ q∈lv'.obj,q∈lv.obj∨σ1.length≤q)→n.labels.length<8→K (.ok (.tup [])) ⟨σ3,c'⟩:=by
      intro σ1 σ2 σ3 c' lv' f1 f2 f3 h3 h2 hob hlt
      have hobj:(N[i]).objs=lv.obj++pv.obj:=by rw[← he];rfl
      have hov:∀q∈lv.obj++pv.obj,q≠o:=fun q hq e=>(hap q (.inr (by rw[hobj];exact hq))).2.2.2.2 (by rw[hobj];exact hq) |>.1 (by simp[AV.obj,e])
      have hnd:(lv.obj++pv.obj).Nodup:=by
        have h0:=h.nd
        rw[objs_split hi,hobj,List.nodup_cons,List.nodup_append,List.nodup_append,List.nodup_append,List.nodup_append]at h0
        exact h0.2.2.1.2.1.1.2.1
      have hlp:∀q∈pv.obj,q<σ.length:=hok2.lt
      have hll:∀q∈lv.obj,q<σ.length:=hok1.lt
      have hF:Fr σ σ3 (o::(N[i]).objs):=((f1.mono (by simp)).trans (f2.mono (fun q hq=>.inl (by rw[hobj];simp[hq])))).trans (f3.mono (by simp))
      have hlv:∀q∈lv'.obj,q≠o∧q∉pv.obj:=fun q hq=>by
        rcases hob q hq with hm|hm
        · exact⟨hov q (List.mem_append_left _ hm),fun hp=>(List.nodup_append.1 hnd).2.2 q hm q hp rfl⟩
        · have:=f1.len;exact⟨by omega,fun hp=>by have:=hlp q hp;omega⟩
      have h23:Hd .str 1 σ3 lv' true (Tc Op.bytesLess id nm n.labels) true:=h2.keep fun q hq=>f3.eq q (h2.lt q hq) (by simpa using(hlv q hq).1)
      have hp3:Hd GP.av 6 σ3 pv n.pn n.props true:=hok2.keep fun q hq=>by
        have hql:=hlp q hq
        refine(f3.eq q (by have:=f1.len;have:=f2.len;omega) (by simpa using hov q (List.mem_append_right _ hq))).trans ((f2.eq q (by have:=f1.len;omega) fun hm=>(List.nodup_append.1 hnd).2.2 q hm q hq rfl).trans (f1.eq q hql (by simp)))
      refine hR n hmm hnz hin hlt σ3 c' _ (h.setNode hi hF h3 (by simp) ⟨h23,hp3⟩ (fun q hq=>?_) ?_) ?_ (hF.mono fun q hq=>?_)
      · rcases List.mem_append.1 hq with hq|hq
        · rcases hob q hq with hm|hm
          · exact .inl (by rw[hobj];exact List.mem_append_left _ hm)
          · have:=f1.len;exact .inr (by omega)
        · exact .inl (by rw[hobj];exact List.mem_append_right _ hq)
      · exact List.nodup_append.2 ⟨h2.nodup,hok2.nodup,fun a ha b hb e=>(hlv a ha).2 (e▸hb)⟩
      · rw[List.map_set]
        refine AtK.set (key:=GN.id) (x:={n with ln:=true,labels:=Tc Op.bytesLess id nm n.labels}) Hu hq.iN (by rw[show GN.id _=z from hnz];exact q1) ⟨n,hmm,rfl⟩
      · rcases List.mem_cons.1 hq with rfl|hq
        · exact .inl (by simp[AV.obj])
        · exact .inl (by simp[mem_objsN hmem hq])
    by_cases hlt:n.labels.length<8
    · rcases hok1 with⟨hb,hl0,rfl|⟨ol,gl,el,rfl,hol⟩⟩|⟨hb,ol,gl,rfl,hol⟩
      · obtain⟨j,hj,hbj⟩:=hbq false
        rw[hl0]at hbj hj
        obtain rfl:j=0:=by simpa using hj.le
        refine FH rfl rfl ?_
        (conv=>whnf);repeat' (first|(refine snocG fun σ1 f1 h1 l1=>?_;have hE1:=h.fr0 f1;have hd1:=hE1.box;have ho1:=f1.get ho (by simp);conv=>whnf)|(apply Ez (hE1.snR 999999 hdeep);conv=>whnf)|(refine BM hbt ?_;rintro _ rfl;conv=>whnf)|(refine BM hbj ?_;rintro _ rfl;conv=>whnf)|(refine mustT ?_;conv=>whnf)|(rw [h1];conv=>whnf)|(rw [hd1];conv=>whnf)|(rw [ho1];conv=>whnf)|(refine LX hnt ?_;conv=>whnf)|(refine LX hnt' ?_;conv=>whnf)|(refine insNil (x:=.str nm) rfl rfl (by omega) fun σ2 f2 h2=>?_;have ho2:=f2.get ho1 (by simp);conv=>whnf)|(rw [ho2];conv=>whnf)|(refine setG ho2 fun σ3 f3 h3 l3=>?_;conv=>whnf)|((with_reducible first|apply kN|apply kW|apply kX|apply kG|apply kQ);(· exact sd);conv=>whnf)|(refine DW.mk ?_ ?_<;>intro hc<;>(try rw[List.length_nil]at hc)<;>first|(exfalso;omega)|(exact absurd rfl hc)|conv=>whnf)|(refine CB ?_ ?_<;>intro hc<;>conv=>whnf))
        all_goals first
          |exact fin σ1 σ2 σ3 _ _ f1 (f2.mono (by simp)) f3 (h3.trans (by rw[← vs_set];rfl)) (.inr ⟨rfl,_,_,by rw[hl0];rfl,by rw[hl0];exact h2⟩) (fun q hq=>.inr (by simp only[AV.obj,List.mem_singleton]at hq;subst hq;exact Nat.le_refl _)) hlt
          | (trace_state; fail "n3c")
      · obtain⟨j,hj,hbj⟩:=hbq false
        rw[hl0]at hbj hj
        obtain rfl:j=0:=by simpa using hj.le
        refine FH rfl rfl ?_
        (conv=>whnf);repeat' (first|(refine snocG fun σ1 f1 h1 l1=>?_;have hE1:=h.fr0 f1;have hd1:=hE1.box;have ho1:=f1.get ho (by simp);have hl1:=f1.get hol (by simp);conv=>whnf)|(apply Ez (hE1.snR 999999 hdeep);conv=>whnf)|(refine BM hbt ?_;rintro _ rfl;conv=>whnf)|(refine BM hbj ?_;rintro _ rfl;conv=>whnf)|(refine mustT ?_;conv=>whnf)|(rw [h1];conv=>whnf)|(rw [hd1];conv=>whnf)|(rw [ho1];conv=>whnf)|(refine LX hnt ?_;conv=>whnf)|(refine LX hnt' ?_;conv=>whnf)|(rw [hl1];conv=>whnf)|(refine insNilO (x:=.str nm) rfl rfl (by omega) hl1 fun σ2 f2 h2=>?_;have ho2:=f2.get ho1 (by simp);conv=>whnf)|(rw [ho2];conv=>whnf)|(refine setG ho2 fun σ3 f3 h3 l3=>?_;conv=>whnf)|((with_reducible first|apply kN|apply kW|apply kX|apply kG|apply kQ);(· exact sd);conv=>whnf)|(refine DW.mk ?_ ?_<;>intro hc<;>(try rw[List.length_nil]at hc)<;>first|(exfalso;omega)|(exact absurd rfl hc)|conv=>whnf)|(refine CB ?_ ?_<;>intro hc<;>conv=>whnf))
        all_goals first
          |exact fin σ1 σ2 σ3 _ _ f1 (f2.mono (by simp)) f3 (h3.trans (by rw[← vs_set];rfl)) (.inr ⟨rfl,_,_,by rw[hl0];rfl,by rw[hl0];exact h2⟩) (fun q hq=>.inr (by simp only[AV.obj,List.mem_singleton]at hq;subst hq;exact Nat.le_refl _)) hlt
          | (trace_state; fail "n3c")
      · obtain⟨j,hj,hbj⟩:=hbq true
        have hjl:=hj.le
        have hoo:o∉[ol]:=by
          have:=(hap ol (.inr (by rw[← he];simp[EN.objs,AV.obj]))).2.2.2.2 (by rw[← he];simp[EN.objs,AV.obj]) |>.1
          simpa[AV.obj,eq_comm]using this
        refine FH rfl rfl ?_
        (conv=>whnf);repeat' (first|(refine snocG fun σ1 f1 h1 l1=>?_;have hE1:=h.fr0 f1;have hd1:=hE1.box;have ho1:=f1.get ho (by simp);have hl1:=f1.get hol (by simp);conv=>whnf)|(apply Ez (hE1.snR 999999 hdeep);conv=>whnf)|(refine BM hbt ?_;rintro _ rfl;conv=>whnf)|(refine BM hbj ?_;rintro _ rfl;conv=>whnf)|(refine mustT ?_;conv=>whnf)|(rw [h1];conv=>whnf)|(rw [hd1];conv=>whnf)|(rw [ho1];conv=>whnf)|(refine LX hnt ?_;conv=>whnf)|(refine LX hnt' ?_;conv=>whnf)|(rw [hl1];conv=>whnf)|(refine insOwn (fv:=.str) (x:=nm) rfl rfl (by omega) rfl hjl hl1 fun σ2 f2 h2=>?_;have ho2:=f2.get ho1 hoo;conv=>whnf)|(rw [ho2];conv=>whnf)|(refine setG ho2 fun σ3 f3 h3 l3=>?_;conv=>whnf)|((with_reducible first|apply kN|apply kW|apply kX|apply kG|apply kQ);(· exact sd);conv=>whnf)|(refine DW.mk ?_ ?_<;>intro hc<;>(try rw[List.length_nil]at hc)<;>first|(exfalso;omega)|(exact absurd rfl hc)|conv=>whnf)|(refine CB ?_ ?_<;>intro hc<;>conv=>whnf))
        have hp:=AtK.ins (key:=id) (x:=nm) G7 hj hno
        have hlen2:n.labels.length+1=(Tc Op.bytesLess id nm n.labels).length:=by rw[← hp,List.length_append,List.length_append,List.length_take,List.length_drop,List.length_singleton];omega
        rw[hp]at h2
        exact fin σ1 σ2 σ3 _ (.own ol _ 0 (n.labels.length+1)) f1 f2 f3 (h3.trans (by rw[← vs_set];rfl)) (.inr ⟨rfl,_,_,by rw[hlen2],h2⟩) (fun q hq=>.inl hq) hlt
    · rcases hok1 with⟨hb,hl0,_⟩|⟨hb,ol,gl,rfl,hol⟩
      · rw[hl0]at hlt;simp at hlt
      · obtain⟨j,_,hbj⟩:=hbq true
        refine FH rfl rfl ?_
        (conv=>whnf);repeat' (first|(refine snocG fun σ1 f1 h1 l1=>?_;have hE1:=h.fr0 f1;have hd1:=hE1.box;have ho1:=f1.get ho (by simp);have hl1:=f1.get hol (by simp);conv=>whnf)|(apply Ez (hE1.snR 999999 hdeep);conv=>whnf)|(refine BM hbt ?_;rintro _ rfl;conv=>whnf)|(refine BM hbj ?_;rintro _ rfl;conv=>whnf)|(refine mustT ?_;conv=>whnf)|(refine mustF ?_;conv=>whnf)|(rw [h1];conv=>whnf)|(rw [hd1];conv=>whnf)|(rw [ho1];conv=>whnf)|(rw [hl1];conv=>whnf)|(refine LX hnt ?_;conv=>whnf)|(refine LX hnt' ?_;conv=>whnf)|((with_reducible first|apply kN|apply kW|apply kX|apply kG|apply kQ);(· exact sd);conv=>whnf)|(refine DW.mk ?_ ?_<;>intro hc<;>(try rw[List.length_nil]at hc)<;>first|(exfalso;omega)|(exact absurd rfl hc)|conv=>whnf)|(refine CB ?_ ?_<;>intro hc<;>conv=>whnf))
        all_goals first | exact hQ ⟨n, hmm, hnz, hin, hlt⟩ _ _ f1 | (trace_state; fail "n3b")
end
end AI
end Go.Proofs.YtnbibfalljlmfaaGreatDoor
