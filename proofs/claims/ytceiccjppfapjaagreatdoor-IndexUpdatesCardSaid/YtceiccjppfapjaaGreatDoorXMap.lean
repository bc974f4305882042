/- An editor's change of an edge: a property set. An editor's change of an edge: one more. An editor's change of a node: taken away. An editor's change of a node: taken away. What a change makes of a graph; an editor's functions make just that. A step keeps what an editor asks. -/
import Derived.Test.YtceiccjppfapjaaGreatDoorXMao
import Derived.Test.YtceiccjppfapjaaGreatDoorXMan
set_option linter.unusedVariables false
set_option maxRecDepth 4000
namespace Go.Proofs.YtceiccjppfapjaaGreatDoor
namespace AI
section
variable {σ σ1 σ2 σ3:List Obj} {d gd:Nat} {vN vE:AV} {nb eb:Bool} {N:List EN} {E:List EE} {x y:Int} {ct:Nat} {K:AL→Am→Prop}
theorem Aer {o g i n:Nat}:GH (.own o g i n) (.own o g i n)=true:=by simp[GH]
set_option maxHeartbeats 2000000 in
theorem AgK {z fr to:Int} {nm:List UInt8} {v:GV} (h:Ed σ d gd vN vE nb eb N E x y) (hq:Ask N E x y) (hv:v.ok) (hf:∃n∈E,n.e.id=z)
 (hP:(∃ n∈E.map EE.e,n.id=z∧¬isNull v∧(¬ ∃p∈n.props,GP.key p=nm)∧¬n.props.length<16)→∀σ' c',Fr σ σ' []→K (.Di (.iface 138 (.int .i64 20))) ⟨σ',c'⟩)
 (hA:∀n∈E.map EE.e,n.id=z→isNull v→∀σ' c' E',Ed σ' d gd vN vE nb eb N E' x y→E'.map EE.e=Ba CB GE.id {n with props:=CO Op.bytesLess GP.key nm n.props} (E.map EE.e)→Fr σ σ' (d::(vN.obj++(vE.obj++BF N E)))→K (.ok (.BL [])) ⟨σ',c'⟩)
 (hB:∀n∈E.map EE.e,n.id=z→¬isNull v→((∃ p∈n.props,GP.key p=nm)∨n.props.length<16)→∀σ' c' E',Ed σ' d gd vN vE nb eb N E' x y→E'.map EE.e=Ba CB GE.id {n with pn:=true,props:=Ba Op.bytesLess GP.key ⟨nm,v⟩ n.props} (E.map EE.e)→Fr σ σ' (d::(vN.obj++(vE.obj++BF N E)))→K (.ok (.BL [])) ⟨σ',c'⟩):
 AA (Ad tab) 113 [.ref d gd 0 0,(GC.mk 8 z fr to nm v).av] ⟨σ,ct⟩ K:=by
 have C9:=hq.deep
 have hlE:=hq.lE
 obtain⟨rfl,o,g,cn,i,hi,rfl,ho,hcn,hid,q1,hbt⟩:=h.atE hq hf
 have hmem:E[i]∈E:=List.getElem_mem hi
 have hok:=h.hE _ hmem
 obtain⟨hip,XV⟩:=hq.iQ _ hmem
 have hap:=h.Xh hi
 have Wy:=h.ndE hi
 show AA (Ad tab) _ [.ref d gd 0 0,.agg [.int .i64 8,.int .i64 z,.int .i64 fr,.int .i64 to,.str nm,.int .i64 v.k,.int .i64 v.n,.int .i64 v.d,.str v.s,.sl v.nn v.l]] _ _
 obtain⟨e,he⟩:∃e,e=E[i]:=⟨_,rfl⟩
 rw[← he]at hok hip XV Wy
 have hnt:nth (vs EE.av E) (Int.toNat (i:Int))=some e.av:=by rw[he];exact nV hi
 have JF:nth (vs EE.av E) i=some e.av:=by rw[he];exact nV hi
 obtain⟨n,pv⟩:=e
 have hok2:Hd GP.av 6 σ pv n.pn n.props true:=hok
 replace XV:n.props.length≤16:=XV
 replace hip:Inc Op.bytesLess GP.key n.props:=hip
 have hmm:n∈E.map EE.e:=by rw[show n=(E[i]).e by rw[← he]];exact List.mem_map_of_mem hmem
 have hnz:n.id=z:=by rw[show n=(E[i]).e by rw[← he]];exact hid
 have KC:(E[i]).objs=pv.obj:=by rw[← he];rfl
 have hoo:o∉pv.obj:=fun hm=>((hap o (.inr (by rw[KC];simp[hm]))).2.2.2.2 (by rw[KC];simp[hm])).1 (by simp[AV.obj])
 have hdo:d∉[o]:=by have:=h.nd;simp[AV.obj]at this;simpa using this.1.2.1
 have hdp:d∉pv.obj:=fun hm=>(hap d (.inr (by rw[KC];exact hm))).1 rfl
 have fin:∀σ1 σ2 σ3 pv' pb L c',Fr σ σ1 []→Fr σ1 σ2 pv.obj→Fr σ2 σ3 [o]→nth σ3 o=some (.arr g 5 true c' (vs EE.av (E.set i ⟨{n with pn:=pb,props:=L},pv'⟩)))→
  Hd GP.av 6 σ2 pv' pb L true→(∀ q∈pv'.obj,q∈pv.obj∨σ1.length≤q)→(c'=true→cn=true∧pv'.closed=true)→Ed σ3 d gd vN (.own o g 0 E.length) nb true N (E.set i ⟨{n with pn:=pb,props:=L},pv'⟩) x y∧Fr σ σ3 (d::(vN.obj++((AV.own o g 0 E.length).obj++BF N E))):=by
  intro σ1 σ2 σ3 pv' pb L c' f1 f2 f3 h3 h2 hob hcc
  refine h.AkJ hi f1 (f2.mono (by rw[KC];simp +contextual)) f3 h3 (fun hc e he'=>?_) h2 (fun q hq=>?_) h2.nodup
  ·replace hc:=hcc hc
   rcases IE he' with rfl|⟨j,hj,_,rfl⟩
   ·simp only[EE.av,AV.closed,Dz,Bool.and_eq_true,Bool.and_true]
    exact⟨trivial,trivial,trivial,trivial,hc.2⟩
   ·exact hcn hc.1 _ (List.getElem_mem hj)
  ·rw[KC]
   exact hob q hq
 have mp:∀(e':EE),e'.e.id=z→(E.set i e').map EE.e=Ba CB GE.id e'.e (E.map EE.e):=fun e' hz'=>by
  rw[List.map_set]
  exact AtK.set (key:=GE.id) (x:=e'.e) Ar hq.iE (by rw[hz'];exact q1) ⟨n,hmm,by rw[hz',hnz]⟩
 have Aci:=hok2
 rcases Aci with⟨_,_,rfl|⟨op',gp,ep,rfl,_⟩⟩|⟨_,op',gp,rfl,_⟩
 all_goals
  refine Aj rfl rfl ?_
  (conv=>whnf);repeat' (first|(refine need.mk Aer ?_;conv=>whnf)|(refine BZ fun σ1 f1 h1 l1=>?_;have hE1:=h.LJ f1;have hd1:=hE1.box;have ho1:=f1.get ho (by simp);have hp1:=hok2.keep (σ':=σ1) fun q hq=>f1.eq q (hok2.lt q hq) (by simp);conv=>whnf)|(apply Ah (hE1.Pn 999999 C9);conv=>whnf)|(refine Aa hbt ?_;rintro _ rfl;conv=>whnf)|(refine D7 ?_;conv=>whnf)|(rw [h1];conv=>whnf)|(rw [hd1];conv=>whnf)|(rw [ho1];conv=>whnf)|(refine Ap hnt ?_;conv=>whnf)|(refine Ap JF ?_;conv=>whnf)|(refine AiA hp1 hip (by omega) hv (fun hn σ2 c2 pv2 g1 f2 g3=>?_) (fun hn hx σ2 c2 pv2 g1 f2 g3=>?_) (fun hn hx hl σ2 c2 f2=>?_);rotate_left 2;(conv=>whnf);rotate_left 1;(have ho2:=f2.get ho1 hoo;have hd2:=f2.get hd1 hdp;have g0:=g1;rcases g0 with⟨_,_,rfl|⟨_,_,_,rfl,_⟩⟩|⟨_,_,_,rfl,_⟩<;>conv=>whnf);rotate_left 3;(have ho2:=f2.get ho1 hoo;have hd2:=f2.get hd1 hdp;have g0:=g1;rcases g0 with⟨gb,_⟩|⟨_,_,_,rfl,_⟩;(· cases gb);conv=>whnf))|(rw [hd2];conv=>whnf)|(rw [ho2];conv=>whnf)|(refine (Dh _ _).2 ?_;conv=>whnf)|(refine Es ho2 fun σ3 f3 h3 l3=>?_;have hd3:=f3.get hd2 hdo;conv=>whnf)|(rw [hd3];conv=>whnf)|(refine kA ?_;conv=>whnf)|(refine Br.mk (fun hc=>?_) fun hc=>?_<;>first|exact hc.elim|conv=>whnf)|(refine kB ?_))
  all_goals first
   |(have hr:=fin σ1 σ2 σ3 _ _ _ _ f1 f2 f3 (h3.trans (by rw[← OH];rfl)) g1 g3 (fun h=>by first|exact⟨h,rfl⟩|exact⟨rfl,rfl⟩|cases h)
     first|exact hA n hmm hnz hn σ3 _ _ hr.1 (mp _ hnz) hr.2|exact hB n hmm hnz hn hx σ3 _ _ hr.1 (mp _ hnz) hr.2)
   |exact hP ⟨n,hmm,hnz,hn,hx,hl⟩ _ _ (f1.trans f2)
end
section
variable {σ:List Obj} {d gd:Nat} {vN vE:AV} {nb eb:Bool} {N:List EN} {E:List EE} {x y:Int} {ct:Nat} {K:AL→Am→Prop}
set_option maxHeartbeats 2000000 in
theorem AgR {z fr to:Int} {nm:List UInt8} {v:GV} (h:Ed σ d gd vN vE nb eb N E x y) (hq:Ask N E x y) (hz:1≤z∧z≤1000000)
 (hP:(∃ n∈E,n.e.id=z)→∀σ' c',Fr σ σ' []→K (.Di (.iface 138 (.int .i64 7))) ⟨σ',c'⟩)
 (hM:(¬ ∃n∈E,n.e.id=z)→¬((∃ n∈N,n.n.id=fr)∧∃n∈N,n.n.id=to)→∀σ' c',Fr σ σ' []→K (.Di (.iface 138 (.int .i64 10))) ⟨σ',c'⟩)
 (hQ:(¬ ∃n∈E,n.e.id=z)→((∃ n∈N,n.n.id=fr)∧∃n∈N,n.n.id=to)→¬E.length<4000→∀σ' c',Fr σ σ' []→K (.Di (.iface 138 (.int .i64 20))) ⟨σ',c'⟩)
 (hR:(¬ ∃n∈E,n.e.id=z)→((∃ n∈N,n.n.id=fr)∧∃n∈N,n.n.id=to)→E.length<4000→∀σ' c' Xg E',Ed σ' d gd vN Xg nb true N E' x (if z+1>y then z+1 else y)→E'.map EE.e=Ba CB GE.id ⟨z,fr,to,nm,false,[]⟩ (E.map EE.e)→Fr σ σ' (d::(vN.obj++(vE.obj++BF N E)))→K (.ok (.BL [])) ⟨σ',c'⟩):
 AA (Ad tab) 113 [.ref d gd 0 0,(GC.mk 6 z fr to nm v).av] ⟨σ,ct⟩ K:=by
 have C9:=hq.deep
 have hlE:=hq.lE
 have hby:=hq.by_
 show AA (Ad tab) _ [.ref d gd 0 0,.agg [.int .i64 6,.int .i64 z,.int .i64 fr,.int .i64 to,.str nm,.int .i64 v.k,.int .i64 v.n,.int .i64 v.d,.str v.s,.sl v.nn v.l]] _ _
 by_cases hf:∃n∈E,n.e.id=z
 ·obtain⟨i,q1,hbt⟩:=Zc (nb:=nb) (eb:=eb) hq hf
  refine Aj rfl rfl ?_
  (conv=>whnf);repeat' (first|(refine BZ fun σ1 f1 h1 l1=>?_;have hE1:=h.LJ f1;conv=>whnf)|(apply Ah (hE1.Pn 999999 C9);conv=>whnf)|(refine Aa hbt ?_;rintro _ rfl;conv=>whnf)|(refine Io ?_;conv=>whnf)|(rw [h1];conv=>whnf)|(refine kA ?_;conv=>whnf)|(refine Br.mk (fun hc=>?_) fun hc=>?_<;>first|exact hc.elim|conv=>whnf)|(refine kB ?_))
  all_goals first|exact hP hf _ _ f1
 obtain⟨i,q1,hbt⟩:=Acz (nb:=nb) (eb:=eb) hq hf
 by_cases hfr:∃n∈N,n.n.id=fr
 rotate_left
 ·obtain⟨i1,_,hb1⟩:=QG (nb:=nb) (eb:=eb) hq hfr
  have hb2:∃(i2:Nat) (b:Bool),Ae (Ad tab) 183 [.CY (Ja nb eb N E x y).av.cells,.int .i64 to] (· =.BL [.int .i64 (i2:Nat),.bool b]):=by
   by_cases hto:∃n∈N,n.n.id=to
   ·obtain⟨i2,_,h2⟩:=NH (nb:=nb) (eb:=eb) hq hto;exact⟨_,_,h2⟩
   ·obtain⟨i2,_,h2⟩:=QG (nb:=nb) (eb:=eb) hq hto;exact⟨_,_,h2⟩
  obtain⟨i2,b2,hb2⟩:=hb2
  refine Aj rfl rfl ?_
  (conv=>whnf);repeat' (first|(refine BZ fun σ1 f1 h1 l1=>?_;have hE1:=h.LJ f1;conv=>whnf)|(apply Ah (hE1.Pn 999999 C9);conv=>whnf)|((first|refine Aa hbt ?_|refine Aa hb1 ?_|refine Aa hb2 ?_);rintro _ rfl;conv=>whnf)|(refine D7 ?_;conv=>whnf)|(refine Io ?_;conv=>whnf)|(rw [h1];conv=>whnf)|(refine kA ?_;conv=>whnf)|(refine Br.mk (fun hc=>?_) fun hc=>?_<;>first|exact hc.elim|conv=>whnf)|(refine kB ?_))
  all_goals first|exact hM hf (fun h=>hfr h.1) _ _ f1
 obtain⟨i1,_,hb1⟩:=NH (nb:=nb) (eb:=eb) hq hfr
 by_cases hto:∃n∈N,n.n.id=to
 rotate_left
 ·obtain⟨i2,_,hb2⟩:=QG (nb:=nb) (eb:=eb) hq hto
  refine Aj rfl rfl ?_
  (conv=>whnf);repeat' (first|(refine BZ fun σ1 f1 h1 l1=>?_;have hE1:=h.LJ f1;conv=>whnf)|(apply Ah (hE1.Pn 999999 C9);conv=>whnf)|((first|refine Aa hbt ?_|refine Aa hb1 ?_|refine Aa hb2 ?_);rintro _ rfl;conv=>whnf)|(refine D7 ?_;conv=>whnf)|(refine Io ?_;conv=>whnf)|(rw [h1];conv=>whnf)|(refine kA ?_;conv=>whnf)|(refine Br.mk (fun hc=>?_) fun hc=>?_<;>first|exact hc.elim|conv=>whnf)|(refine kB ?_))
  all_goals first|exact hM hf (fun h=>hto h.2) _ _ f1
 obtain⟨i2,_,hb2⟩:=NH (nb:=nb) (eb:=eb) hq hto
 have hdl:=BX h.box
 by_cases hlen:E.length<4000
 ·obtain⟨cn,hn1,hn2⟩:=h.he
  rcases hn1 with⟨rfl,rfl,rfl|⟨o,g,es',rfl,ho⟩⟩|⟨rfl,o,g,rfl,ho⟩
  ·exact absurd rfl h.oE
  ·obtain rfl:i=0:=by simpa using q1.le
   refine Aj rfl rfl ?_
   (conv=>whnf);repeat' (first|(refine BZ fun σ1 f1 h1 l1=>?_;have hE1:=h.LJ f1;have hd1:=hE1.box;have ho1:=f1.get ho (by simp);conv=>whnf)|(apply Ah (hE1.Pn 999999 C9);conv=>whnf)|((first|refine Aa hbt ?_|refine Aa hb1 ?_|refine Aa hb2 ?_);rintro _ rfl;conv=>whnf)|(refine D7 ?_;conv=>whnf)|(rw [h1];conv=>whnf)|(rw [hd1];conv=>whnf)|(refine Qa (x:=GE.av ⟨z,fr,to,nm,false,[]⟩) rfl rfl (by omega) ho1 fun σ2 f2 h2=>?_;have hd2:=f2.get hd1 (by simp);have h12:=f2.get h1 (by simp);conv=>whnf)|(rw [hd2];conv=>whnf)|(refine kA ?_;conv=>whnf)|(refine Br.mk (fun hc=>?_) fun hc=>?_<;>first|exact hc.elim|conv=>whnf)|(refine kB ?_))
   have hns:σ.length∉[d]:=by simp;omega
   refine Es hd2 fun σ3 f3 h3 l3=>?_
   have h13:=f3.get h12 hns
   (conv=>whnf);repeat' (first|(rw [h3];conv=>whnf)|(rw [h13];conv=>whnf)|(refine kA ?_;conv=>whnf)|(refine Br.mk (fun hc=>?_) fun hc=>?_<;>first|exact hc.elim|conv=>whnf)|(refine kB ?_))
   refine Es h3 fun σ4 f4 h4 l4=>?_
   (conv=>whnf);repeat' (first  |(refine kA ?_;conv=>whnf)|(refine Br.mk (fun hc=>?_) fun hc=>?_<;>first|exact hc.elim|conv=>whnf)|(refine kB ?_))
   have hF:Fr σ σ4 [d]:=(((f1.mono (by simp)).trans (f2.mono (by simp))).trans f3).trans f4
   have h24:nth σ4 σ1.length=some (.arr (ct+1) 5 true true (vs EE.av [eE0 z fr to nm])):=f4.get (f3.get h2 (by have:=f1.len;simp;dsimp only at this;omega)) (by have:=f1.len;simp;dsimp only at this;omega)
   have hed:Ed σ4 d gd vN (.own σ1.length (ct+1) 0 1) nb true N [eE0 z fr to nm] x (if z+1>y then z+1 else y):=
        h.AfO hF (by simp) h4 (.inr ⟨rfl,_,_,rfl,h24⟩) (fun _ e he=>by simp at he) (fun e he=>.inr ⟨z,fr,to,nm,by simpa using he⟩) (by simp[eE0,EE.objs,AV.obj]) (fun o ho=>.inr (by simp only[AV.obj,List.mem_singleton]at ho;subst ho;exact f1.len)) (by simp)
   exact hR hf ⟨hfr,hto⟩ hlen _ _ _ _ hed rfl (hF.mono (by simp))
  ·have hil:=q1.le
   rw[List.length_map]at hil
   have hno:σ.length∉[o]:=by have:=BX ho;simp;omega
   have hdo:d∉[o]:=by have:=h.nd;simp[AV.obj]at this;simpa using this.1.2.1
   refine Aj rfl rfl ?_
   (conv=>whnf);repeat' (first|(refine BZ fun σ1 f1 h1 l1=>?_;have hE1:=h.LJ f1;have hd1:=hE1.box;have ho1:=f1.get ho (by simp);conv=>whnf)|(apply Ah (hE1.Pn 999999 C9);conv=>whnf)|((first|refine Aa hbt ?_|refine Aa hb1 ?_|refine Aa hb2 ?_);rintro _ rfl;conv=>whnf)|(refine D7 ?_;conv=>whnf)|(rw [h1];conv=>whnf)|(rw [hd1];conv=>whnf)|(refine Us (fv:=EE.av) (x:=eE0 z fr to nm) rfl rfl (by omega) rfl hil ho1 fun σ2 f2 h2=>?_;have hd2:=f2.get hd1 hdo;have h12:=f2.get h1 hno;conv=>whnf)|(rw [hd2];conv=>whnf)|(refine kA ?_;conv=>whnf)|(refine Br.mk (fun hc=>?_) fun hc=>?_<;>first|exact hc.elim|conv=>whnf)|(refine kB ?_))
   refine Es hd2 fun σ3 f3 h3 l3=>?_
   have h13:=f3.get h12 (by simp;omega)
   (conv=>whnf);repeat' (first|(rw [h3];conv=>whnf)|(rw [h13];conv=>whnf)|(refine kA ?_;conv=>whnf)|(refine Br.mk (fun hc=>?_) fun hc=>?_<;>first|exact hc.elim|conv=>whnf)|(refine kB ?_))
   refine Es h3 fun σ4 f4 h4 l4=>?_
   (conv=>whnf);repeat' (first  |(refine kA ?_;conv=>whnf)|(refine Br.mk (fun hc=>?_) fun hc=>?_<;>first|exact hc.elim|conv=>whnf)|(refine kB ?_))
   have hF:Fr σ σ4 [d,o]:=(((f1.mono (by simp)).trans (f2.mono (by simp))).trans (f3.mono (by simp))).trans (f4.mono (by simp))
   have hod:o∉[d]:=fun hm=>hdo (by simp at hm ⊢;exact hm.symm)
   have h24:nth σ4 o=some (.arr (ct+1) 5 true cn (vs EE.av (E.take i++[eE0 z fr to nm]++E.drop i))):=f4.get (f3.get h2 hod) hod
   have hl4:(E.take i++[eE0 z fr to nm]++E.drop i).length=E.length+1:=by simp only[List.length_append,List.length_take,List.length_drop,List.length_singleton];omega
   have hed:Ed σ4 d gd vN (.own o (ct+1) 0 (E.length+1)) nb true N (E.take i++[eE0 z fr to nm]++E.drop i) x (if z+1>y then z+1 else y):=
        h.AfO hF (by simp[AV.obj]) h4 (.inr ⟨rfl,_,_,by rw[hl4],h24⟩) hn2 (fun e he=>by
         rcases List.mem_append.1 he with he|he
         ·rcases List.mem_append.1 he with he|he
          ·exact .inl (List.mem_of_mem_take he)
          ·exact .inr ⟨z,fr,to,nm,by simpa using he⟩
         ·exact .inl (List.mem_of_mem_drop he)) (by
         rw[List.flatMap_append,List.flatMap_append,show[eE0 z fr to nm].flatMap EE.objs=[] from rfl,List.append_nil,←List.flatMap_append,List.take_append_drop]
         exact List.Sublist.refl _) (fun o ho=>.inl ho) (by simp)
   exact hR hf ⟨hfr,hto⟩ hlen _ _ _ _ hed (by
        refine Eq.trans ?_ (AtK.ins (key:=GE.id) (x:=(⟨z,fr,to,nm,false,[]⟩:GE)) Ar q1 (fun n hn e=>hf (by obtain⟨m,hm,rfl⟩:=List.mem_map.1 hn;exact⟨m,hm,e⟩)))
        simp only[List.map_append,List.map_take,List.map_drop];rfl) (hF.mono (by simp[AV.obj]))
 ·obtain⟨cn,hn1,hn2⟩:=h.he
  rcases hn1 with⟨rfl,rfl,rfl|⟨o,g,es',rfl,ho⟩⟩|⟨rfl,o,g,rfl,ho⟩
  ·exact absurd rfl h.oE
  ·exact absurd (by simp) hlen
  ·refine Aj rfl rfl ?_
   (conv=>whnf);repeat' (first|(refine BZ fun σ1 f1 h1 l1=>?_;have hE1:=h.LJ f1;have hd1:=hE1.box;conv=>whnf)|(apply Ah (hE1.Pn 999999 C9);conv=>whnf)|((first|refine Aa hbt ?_|refine Aa hb1 ?_|refine Aa hb2 ?_);rintro _ rfl;conv=>whnf)|(refine D7 ?_;conv=>whnf)|(refine Io ?_;conv=>whnf)|(rw [h1];conv=>whnf)|(rw [hd1];conv=>whnf)|(refine kA ?_;conv=>whnf)|(refine Br.mk (fun hc=>?_) fun hc=>?_<;>first|exact hc.elim|conv=>whnf)|(refine kB ?_))
   all_goals first|exact hQ hf ⟨hfr,hto⟩ hlen _ _ f1
end
section
variable {σ:List Obj} {d gd:Nat} {vN vE:AV} {nb eb:Bool} {N:List EN} {E:List EE} {x y:Int} {ct:Nat} {K:AL→Am→Prop}
set_option maxHeartbeats 2000000 in
theorem YP {z fr to:Int} {nm:List UInt8} {v:GV} {o g p u j:Nat} {c:Bool} {Q:AU→Env→Am→Prop} (hlE:E.length≤4000) (ho:E≠[]→nth σ o=some (.arr g 5 true c (vs EE.av E))) (hE:∀e∈E,e.Ok σ)
 (hp:nth σ p=some (.arr u 10 true true [.agg [.int .i64 2,.int .i64 z,.int .i64 fr,.int .i64 to,.str nm,.int .i64 v.k,.int .i64 v.n,.int .i64 v.d,.str v.s,.sl v.nn v.l]]))
 (hN:(∃ e∈E.map EE.e,e.fr=z∨e.to=z)→∀env σ' c',Fr σ σ' []→Q (.Di (.iface 138 (.int .i64 12))) env ⟨σ',c'⟩)
 (hY:(¬ ∃e∈E.map EE.e,e.fr=z∨e.to=z)→∀σ' c' tl,Fr σ σ' []→Q (.exit 1) ([(0,.ref d gd 0 0),(3,.ref p u 0 0),(4,.int .i64 j),(91,.own o g 0 E.length),(92,.int .i64 E.length),(93,.int .i64 E.length)]++tl) ⟨σ',c'⟩):
 Run (Ad tab) (.loop l112_0_h l112_0_b) [(0,.ref d gd 0 0),(3,.ref p u 0 0),(4,.int .i64 j),(91,.own o g 0 E.length),(92,.int .i64 E.length),(93,.int .i64 0)] ⟨σ,ct⟩ Q:=by
 refine Ag (fun m env s=>∃(i c':Nat) (σ':List Obj),m=E.length-i∧i≤E.length∧env=[(0,.ref d gd 0 0),(3,.ref p u 0 0),(4,.int .i64 j),(91,.own o g 0 E.length),(92,.int .i64 E.length),(93,.int .i64 i)]∧s=⟨σ',c'⟩∧Fr σ σ' []∧¬∃e∈(E.take i).map EE.e,e.fr=z∨e.to=z) ?_ _ _ _ ⟨0,_,_,rfl,by omega,rfl,rfl,Fr.refl,by simp⟩
 rintro _ _ _ ⟨i,c',σ',rfl,hi,rfl,rfl,f0,hno⟩
 refine⟨rfl,?_⟩
 by_cases hlt:i<E.length
 ·have hmem:E[i]∈E:=List.getElem_mem hlt
  have hok:=hE _ hmem
  obtain⟨e,he⟩:∃e,e=E[i]:=⟨_,rfl⟩
  have hnt:nth (vs EE.av E) (Int.toNat (i:Int))=some e.av:=by rw[he];exact nV hlt
  have JF:nth (vs EE.av E) i=some e.av:=by rw[he];exact nV hlt
  have hme:e.e∈E.map EE.e:=by rw[he];exact List.mem_map_of_mem hmem
  have hno':¬(e.e.fr=z∨e.e.to=z)→¬∃e∈(E.take (i+1)).map EE.e,e.fr=z∨e.to=z:=fun hn=>by
   rw[List.take_succ_eq_append_getElem hlt,List.map_append]
   rintro⟨w,hw,hx⟩
   rcases List.mem_append.1 hw with hw|hw
   ·exact hno ⟨w,hw,hx⟩
   ·simp only[List.map_cons,List.map_nil,List.mem_singleton]at hw
    rw[hw,←he]at hx
    exact hn hx
  rw[← he]at hok
  have ho0:=f0.get (ho (by intro h;rw[h]at hlt;simp at hlt)) (by simp)
  have hp0:=f0.get hp (by simp)
  obtain⟨n,pv⟩:=e
  have hok2:Hd GP.av 6 σ pv n.pn n.props true:=hok
  rcases hok2 with⟨_,_,rfl|⟨op',gp,ep,rfl,_⟩⟩|⟨_,op',gp,rfl,_⟩
  all_goals
   (conv=>whnf);repeat' (first|(refine BZ fun σ1 f1 h1 l1=>?_;have ho1:=f1.get ho0 (by simp);have hp1:=f1.get hp0 (by simp);conv=>whnf)|(rw [ho0];conv=>whnf)|(rw [h1];conv=>whnf)|(refine Ap hnt ?_;conv=>whnf)|(refine Ap JF ?_;conv=>whnf)|(refine (Dh _ _).2 ?_;conv=>whnf)|(refine Es h1 fun σ2 f2 h2 l2=>?_;have hp2:=f2.get hp1 (by have:=BX hp0;simp;omega);conv=>whnf)|(rw [h2];conv=>whnf)|(rw [hp2];conv=>whnf)|(refine D7 ?_;conv=>whnf)|(refine Io ?_;conv=>whnf)|(refine kA ?_;conv=>whnf)|(refine Br.mk (fun hc=>?_) fun hc=>?_<;>first|exact hc.elim|conv=>whnf)|(refine kB ?_))
   all_goals
        have hf2:Fr σ σ2 []:=f0.trans (((f1.mono (by simp)).trans f2).mono (by simp))
        first
        |exact again.mk ⟨_,by omega,i+1,_,_,rfl,by omega,rfl,rfl,hf2,hno' (by omega)⟩
        |exact hN ⟨_,hme,by omega⟩ _ _ _ hf2
        |(exfalso;omega)
 ·obtain rfl:i=E.length:=by omega
  (conv=>whnf);repeat' (first  |(refine kA ?_;conv=>whnf)|(refine Br.mk (fun hc=>?_) fun hc=>?_<;>first|exact hc.elim|conv=>whnf)|(refine kB ?_))
  all_goals first
   |exact hY (by rw[List.take_length]at hno;exact hno) _ _ _ f0
   |(exfalso;omega)
end
section
variable {σ:List Obj} {d gd:Nat} {vN vE:AV} {nb eb:Bool} {N:List EN} {E:List EE} {x y:Int} {ct:Nat} {K:AL→Am→Prop}
set_option maxHeartbeats 2000000 in
theorem AgM {z fr to:Int} {nm:List UInt8} {v:GV} (h:Ed σ d gd vN vE nb eb N E x y) (hq:Ask N E x y) (hf:∃n∈N,n.n.id=z)
 (hP:(∃ e∈E.map EE.e,e.fr=z∨e.to=z)→∀σ' c',Fr σ σ' []→K (.Di (.iface 138 (.int .i64 12))) ⟨σ',c'⟩)
 (hR:(¬ ∃e∈E.map EE.e,e.fr=z∨e.to=z)→∀σ' c' Uc N',Ed σ' d gd Uc vE nb eb N' E x y→N'.map EN.n=CO CB GN.id z (N.map EN.n)→Fr σ σ' (d::(vN.obj++(vE.obj++BF N E)))→K (.ok (.BL [])) ⟨σ',c'⟩):
 AA (Ad tab) 112 [.ref d gd 0 0,(GC.mk 2 z fr to nm v).av] ⟨σ,ct⟩ K:=by
 have C9:=hq.deep
 have hlN:=hq.lN
 have hlE:=hq.lE
 obtain⟨rfl,o,g,cn,i,hi,rfl,ho,hcn,hid,q1,hbt⟩:=h.at hq hf
 show AA (Ad tab) _ [.ref d gd 0 0,.agg [.int .i64 2,.int .i64 z,.int .i64 fr,.int .i64 to,.str nm,.int .i64 v.k,.int .i64 v.n,.int .i64 v.d,.str v.s,.sl v.nn v.l]] _ _
 have hdl:=BX h.box
 have hdo:d∉[o]:=by have:=h.nd;simp[AV.obj]at this;simpa using this.1.1
 have hod:o∉[d]:=fun hm=>hdo (by simp at hm ⊢;exact hm.symm)
 have fin:∀σ1 σ2 σ3 c' (gg:Nat),Fr σ σ1 []→Fr σ1 σ2 [o]→Fr σ2 σ3 [d]→nth σ2 o=some (.arr gg 3 true cn (vs EN.av (N.take i++N.drop (i+1))))→
  nth σ3 d=some (.arr gd 4 true false [.agg [.own o gg 0 (i+(N.length-(i+1))),vE,.int .i64 x,.int .i64 y]])→(¬ ∃e∈E.map EE.e,e.fr=z∨e.to=z)→K (.ok (.BL [])) ⟨σ3,c'⟩:=by
  intro σ1 σ2 σ3 c' gg f1 f2 f3 h2 h3 hno
  have hF:Fr σ σ3 [d,o]:=((f1.mono (by simp)).trans (f2.mono (by simp))).trans (f3.mono (by simp))
  have h23:=f3.get h2 hod
  have hl4:(N.take i++N.drop (i+1)).length=i+(N.length-(i+1)):=by simp only[List.length_append,List.length_take,List.length_drop];omega
  have hed:=h.AfN (N':=N.take i++N.drop (i+1)) (x':=x) hF (by simp[AV.obj]) h3 (.inr ⟨rfl,_,_,by rw[hl4],h23⟩) hcn (fun e he=>by
        rcases List.mem_append.1 he with he|he
        ·exact .inl (List.mem_of_mem_take he)
        ·exact .inl (List.mem_of_mem_drop he)) (by
        rw[List.flatMap_append,Jv hi]
        exact(List.Sublist.refl _).append (List.sublist_append_right _ _)) (fun o ho=>.inl ho) (by simp)
  refine hR hno _ _ _ _ hed ?_ (hF.mono (by simp[AV.obj]))
  have:=q1.del (key:=GN.id) Ar hq.iN ⟨(N[i]).n,List.mem_map_of_mem (List.getElem_mem hi),hid⟩
  rw[← this]
  simp only[List.map_append,List.map_take,List.map_drop]
 obtain⟨ce,he1,he2⟩:=h.he
 have fp:∀σ1 σ2 c',Fr σ σ1 []→Fr σ1 σ2 []→(∃ e∈E.map EE.e,e.fr=z∨e.to=z)→K (.Di (.iface 138 (.int .i64 12))) ⟨σ2,c'⟩:=fun σ1 σ2 c' f1 f2 hx=>hP hx _ _ (f1.trans f2)
 rcases he1 with⟨rfl,rfl,rfl|⟨oe,ge,es',rfl,hoe⟩⟩|⟨rfl,oe,ge,rfl,hoe⟩
 ·exact absurd rfl h.oE
 ·refine Aj rfl rfl ?_
  (conv=>whnf);repeat' (first|(refine BZ fun σ1 f1 h1 l1=>?_;have hE1:=h.LJ f1;have hd1:=hE1.box;have ho1:=f1.get ho (by simp);conv=>whnf)|(apply Ah (hE1.Pn 999999 C9);conv=>whnf)|(refine Aa hbt ?_;rintro _ rfl;conv=>whnf)|(refine D7 ?_;conv=>whnf)|(rw [h1];conv=>whnf)|(rw [hd1];conv=>whnf)|(rw [ho1];conv=>whnf)|(refine kA ?_;conv=>whnf)|(refine Br.mk (fun hc=>?_) fun hc=>?_<;>first|exact hc.elim|conv=>whnf)|(refine kB ?_))
  all_goals first|(exfalso;omega)|skip
  refine YP (E:=[]) (c:=true) (by simp) (fun h=>absurd rfl h) (by simp) h1 (fun hx env' σ2 c2 f2=>by simp at hx) (fun hx σ2 c2 tl f2=>?_)
  have hd2:=f2.get hd1 (by simp)
  have ho2:=f2.get ho1 (by simp)
  (conv=>whnf);repeat' (first|(rw [hd2];conv=>whnf)|(rw [ho2];conv=>whnf)|(refine Ru (fv:=EN.av) rfl rfl hi rfl ho2 fun σ3 f3 h3=>?_;have hd3:=f3.get hd2 hdo;conv=>whnf)|(rw [hd3];conv=>whnf)|(refine Es hd3 fun σ4 f4 h4 l4=>?_;conv=>whnf)|(refine kA ?_;conv=>whnf)|(refine Br.mk (fun hc=>?_) fun hc=>?_<;>first|exact hc.elim|conv=>whnf)|(refine kB ?_))
  all_goals first|exact fin σ2 σ3 σ4 _ _ (f1.trans f2) f3 f4 h3 h4 hx
 ·refine Aj rfl rfl ?_
  (conv=>whnf);repeat' (first|(refine BZ fun σ1 f1 h1 l1=>?_;have hE1:=h.LJ f1;have hd1:=hE1.box;have ho1:=f1.get ho (by simp);have AkN:=f1.get hoe (by simp);conv=>whnf)|(apply Ah (hE1.Pn 999999 C9);conv=>whnf)|(refine Aa hbt ?_;rintro _ rfl;conv=>whnf)|(refine D7 ?_;conv=>whnf)|(rw [h1];conv=>whnf)|(rw [hd1];conv=>whnf)|(rw [ho1];conv=>whnf)|(refine kA ?_;conv=>whnf)|(refine Br.mk (fun hc=>?_) fun hc=>?_<;>first|exact hc.elim|conv=>whnf)|(refine kB ?_))
  all_goals first|(exfalso;omega)|skip
  refine YP hlE (fun _=>AkN) hE1.hE h1 (fun hx env' σ2 c2 f2=>fp _ _ _ f1 f2 hx) (fun hx σ2 c2 tl f2=>?_)
  have hd2:=f2.get hd1 (by simp)
  have ho2:=f2.get ho1 (by simp)
  (conv=>whnf);repeat' (first|(rw [hd2];conv=>whnf)|(rw [ho2];conv=>whnf)|(refine Ru (fv:=EN.av) rfl rfl hi rfl ho2 fun σ3 f3 h3=>?_;have hd3:=f3.get hd2 hdo;conv=>whnf)|(rw [hd3];conv=>whnf)|(refine Es hd3 fun σ4 f4 h4 l4=>?_;conv=>whnf)|(refine kA ?_;conv=>whnf)|(refine Br.mk (fun hc=>?_) fun hc=>?_<;>first|exact hc.elim|conv=>whnf)|(refine kB ?_))
  all_goals first|exact fin σ2 σ3 σ4 _ _ (f1.trans f2) f3 f4 h3 h4 hx
end
def AY (g:GG) (c:GC):Int×GG:=
 if c.op=1 then
    if∃n∈g.nodes,n.id=c.id then(7,g)else if g.nodes.length<2000 then(0,{g with nn:=true,nodes:=Ba CB GN.id ⟨c.id,false,[],false,[]⟩ g.nodes,Bv:=if c.id+1>g.Bv then c.id+1 else g.Bv})else(20,g)
 else match g.nodes.find? (fun n=>decide (n.id=c.id))with
    |none=>(10,g)
    |some n=>
     if c.op=2 then if∃e∈g.edges,e.fr=c.id∨e.to=c.id then(12,g)else(0,{g with nodes:=CO CB GN.id c.id g.nodes})
     else if c.op=3 then if c.name∈n.labels then(7,g)else if n.labels.length<8 then(0,{g with nodes:=Ba CB GN.id {n with ln:=true,labels:=Ba Op.bytesLess id c.name n.labels} g.nodes})else(20,g)
     else if c.op=4 then if c.name∈n.labels then(0,{g with nodes:=Ba CB GN.id {n with ln:=true,labels:=CO Op.bytesLess id c.name n.labels} g.nodes})else(23,g)
     else if isNull c.v then(0,{g with nodes:=Ba CB GN.id {n with props:=CO Op.bytesLess GP.key c.name n.props} g.nodes})
     else if(∃ p∈n.props,GP.key p=c.name)∨n.props.length<16 then(0,{g with nodes:=Ba CB GN.id {n with pn:=true,props:=Ba Op.bytesLess GP.key ⟨c.name,c.v⟩ n.props} g.nodes})else(20,g)
def Bz (g:GG) (c:GC):Int×GG:=
 if c.op=6 then
    if∃n∈g.edges,n.id=c.id then(7,g)else if(∃ n∈g.nodes,n.id=c.fr)∧(∃ n∈g.nodes,n.id=c.to)then
     if g.edges.length<4000 then(0,{g with en:=true,edges:=Ba CB GE.id ⟨c.id,c.fr,c.to,c.name,false,[]⟩ g.edges,BD:=if c.id+1>g.BD then c.id+1 else g.BD})else(20,g)
    else(10,g)
 else match g.edges.find? (fun n=>decide (n.id=c.id))with
    |none=>(11,g)
    |some n=>
     if c.op=7 then(0,{g with edges:=CO CB GE.id c.id g.edges})
     else if isNull c.v then(0,{g with edges:=Ba CB GE.id {n with props:=CO Op.bytesLess GP.key c.name n.props} g.edges})
     else if(∃ p∈n.props,GP.key p=c.name)∨n.props.length<16 then(0,{g with edges:=Ba CB GE.id {n with pn:=true,props:=Ba Op.bytesLess GP.key ⟨c.name,c.v⟩ n.props} g.edges})else(20,g)
def stepG (g:GG) (c:GC):Int×GG:=if Ir c≠0 then(Ir c,g)else if c.op≤5 then AY g c else Bz g c
theorem Ry {α:Type} {key:α→Int} {z:Int}:∀{l:List α},Inc CB key l→∀{n:α},n∈l→key n=z→l.find? (fun a=>decide (key a=z))=some n
 |[],_,_,h,_=>by simp at h
 |a::l,hl,n,hn,e=>by
  have hl':=List.pairwise_cons.1 hl
  rcases List.mem_cons.1 hn with rfl|hm
  ·rw[List.find?_cons,decide_eq_true e]
  ·have:=hl'.1 n hm
   simp only[CB,decide_eq_true_eq]at this
   rw[List.find?_cons,decide_eq_false (by omega)]
   exact Ry hl'.2 hm e
theorem Zm {α:Type} {key:α→Int} {z:Int} {l:List α} (h:¬∃n∈l,key n=z):l.find? (fun a=>decide (key a=z))=none:=by
 rw[List.find?_eq_none]
 intro a ha e
 exact h ⟨a,ha,of_decide_eq_true e⟩
section
variable {σ:List Obj} {d gd:Nat} {vN vE:AV} {nb eb:Bool} {N:List EN} {E:List EE} {x y:Int} {ct:Nat} {K:AL→Am→Prop}
theorem exN {z:Int}:(∃ n∈N.map EN.n,n.id=z)↔∃n∈N,n.n.id=z:=
 ⟨fun ⟨n,hn,e⟩=>by obtain⟨m,hm,rfl⟩:=List.mem_map.1 hn;exact⟨m,hm,e⟩,fun⟨n,hn,e⟩=>⟨n.n,List.mem_map_of_mem hn,e⟩⟩
theorem exE {z:Int}:(∃ n∈E.map EE.e,n.id=z)↔∃n∈E,n.e.id=z:=
 ⟨fun ⟨n,hn,e⟩=>by obtain⟨m,hm,rfl⟩:=List.mem_map.1 hn;exact⟨m,hm,e⟩,fun⟨n,hn,e⟩=>⟨n.e,List.mem_map_of_mem hn,e⟩⟩
def EdG (σ:List Obj) (d gd:Nat) (g:GG):Prop:=∃vN vE nb eb N E x y,Ed σ d gd vN vE nb eb N E x y∧Ja nb eb N E x y=g
set_option maxHeartbeats 2000000 in
theorem AgN {c:GC} (h:Ed σ d gd vN vE nb eb N E x y) (hq:Ask N E x y) (hop:1≤c.op∧c.op≤5) (hz:Md c.id) (hv:c.v.ok)
 (hP:∀e,(AY (Ja nb eb N E x y) c)=(e,Ja nb eb N E x y)→∀σ' c',Fr σ σ' []→K (.Di (.iface 138 (.int .i64 e))) ⟨σ',c'⟩)
 (hR:∀g',AY (Ja nb eb N E x y) c=(0,g')→∀σ' c',EdG σ' d gd g'→Fr σ σ' (d::(vN.obj++(vE.obj++BF N E)))→K (.ok (.BL [])) ⟨σ',c'⟩):
 AA (Ad tab) 112 [.ref d gd 0 0,c.av] ⟨σ,ct⟩ K:=by
 obtain⟨op,z,fr,to,nm,v⟩:=c
 dsimp only at hop hz hv
 by_cases h1:op=1
 ·subst h1
  refine Ag4 h hq hz (fun hf σ' c' f=>hP 7 ?_ σ' c' f) (fun hf hl σ' c' f=>hP 20 ?_ σ' c' f) (fun hf hl σ' c' Uc N' he hN f=>hR _ ?_ σ' c' ⟨_,_,_,_,_,_,_,_,he,rfl⟩ f)
  ·show AY ⟨nb,N.map EN.n,eb,E.map EE.e,x,y⟩ _=(_,⟨_,_,_,_,_,_⟩);simp only[AY,exN,if_true];rw[if_pos hf]
  ·show AY ⟨nb,N.map EN.n,eb,E.map EE.e,x,y⟩ _=(_,⟨_,_,_,_,_,_⟩);simp only[AY,exN,if_true];rw[if_neg hf,if_neg (show ¬(N.map EN.n).length<2000 by rw[List.length_map];exact hl)]
  ·show AY ⟨nb,N.map EN.n,eb,E.map EE.e,x,y⟩ _=(_,⟨_,_,_,_,_,_⟩);simp only[AY,exN,if_true,hN];rw[if_neg hf,if_pos (show (N.map EN.n).length<2000 by rw[List.length_map];exact hl)]
 by_cases hf:∃n∈N,n.n.id=z
 rotate_left
 ·have e:=Zm (key:=GN.id) (by rw[exN];exact hf)
  refine AdR h hq hz (by omega) hf fun σ' c' f=>hP 10 ?_ σ' c' f
  show AY ⟨nb,N.map EN.n,eb,E.map EE.e,x,y⟩ _=(_,⟨_,_,_,_,_,_⟩);simp only[AY,if_neg h1,e]
 have fd:∀n∈N.map EN.n,n.id=z→(N.map EN.n).find? (fun n=>decide (n.id=z))=some n:=fun n hn e=>Ry hq.iN hn e
 by_cases h2:op=2
 ·subst h2
  obtain⟨n,hn,e⟩:=exN.2 hf
  refine AgM h hq hf (fun hx σ' c' f=>hP 12 ?_ σ' c' f) (fun hx σ' c' Uc N' he hN f=>hR _ ?_ σ' c' ⟨_,_,_,_,_,_,_,_,he,rfl⟩ f)
  ·show AY ⟨nb,N.map EN.n,eb,E.map EE.e,x,y⟩ _=(_,⟨_,_,_,_,_,_⟩);simp only[AY,fd n hn e];rw[if_neg (by decide),if_pos trivial,if_pos hx]
  ·show AY ⟨nb,N.map EN.n,eb,E.map EE.e,x,y⟩ _=(_,⟨_,_,_,_,_,_⟩);simp only[AY,fd n hn e,hN];rw[if_neg (by decide),if_pos trivial,if_neg hx]
 by_cases h3:op=3
 ·subst h3
  refine Af3 h hq hz hf (fun hx σ' c' f=>hP 7 ?_ σ' c' f) (fun hx σ' c' f=>hP 20 ?_ σ' c' f) (fun n hn e hx hl σ' c' N' he hN f=>hR _ ?_ σ' c' ⟨_,_,_,_,_,_,_,_,he,rfl⟩ f)
  ·obtain⟨n,hn,e,hx⟩:=hx
   show AY ⟨nb,N.map EN.n,eb,E.map EE.e,x,y⟩ _=(_,⟨_,_,_,_,_,_⟩);simp only[AY,fd n hn e];rw[if_neg (by decide),if_neg (by decide),if_pos trivial,if_pos hx]
  ·obtain⟨n,hn,e,hx,hl⟩:=hx
   show AY ⟨nb,N.map EN.n,eb,E.map EE.e,x,y⟩ _=(_,⟨_,_,_,_,_,_⟩);simp only[AY,fd n hn e];rw[if_neg (by decide),if_neg (by decide),if_pos trivial,if_neg hx,if_neg hl]
  ·show AY ⟨nb,N.map EN.n,eb,E.map EE.e,x,y⟩ _=(_,⟨_,_,_,_,_,_⟩);simp only[AY,fd n hn e,hN];rw[if_neg (by decide),if_neg (by decide),if_pos trivial,if_neg hx,if_pos hl]
 by_cases h4:op=4
 ·subst h4
  refine AgT h hq hz hf (fun hx σ' c' f=>hP 23 ?_ σ' c' f) (fun n hn e hx σ' c' N' he hN f=>hR _ ?_ σ' c' ⟨_,_,_,_,_,_,_,_,he,rfl⟩ f)
  ·obtain⟨n,hn,e,hx⟩:=hx
   show AY ⟨nb,N.map EN.n,eb,E.map EE.e,x,y⟩ _=(_,⟨_,_,_,_,_,_⟩);simp only[AY,fd n hn e];rw[if_neg (by decide),if_neg (by decide),if_neg (by decide),if_pos trivial,if_neg hx]
  ·show AY ⟨nb,N.map EN.n,eb,E.map EE.e,x,y⟩ _=(_,⟨_,_,_,_,_,_⟩);simp only[AY,fd n hn e,hN];rw[if_neg (by decide),if_neg (by decide),if_neg (by decide),if_pos trivial,if_pos hx]
 obtain rfl:op=5:=by omega
 refine AgU h hq hz hv hf (fun hx σ' c' f=>hP 20 ?_ σ' c' f) (fun n hn e hx σ' c' N' he hN f=>hR _ ?_ σ' c' ⟨_,_,_,_,_,_,_,_,he,rfl⟩ f) (fun n hn e hx hl σ' c' N' he hN f=>hR _ ?_ σ' c' ⟨_,_,_,_,_,_,_,_,he,rfl⟩ f)
 ·obtain⟨n,hn,e,hx,hk,hl⟩:=hx
  show AY ⟨nb,N.map EN.n,eb,E.map EE.e,x,y⟩ _=(_,⟨_,_,_,_,_,_⟩);simp only[AY,fd n hn e];rw[if_neg (by decide),if_neg (by decide),if_neg (by decide),if_neg (by decide),if_neg hx,if_neg (fun h=>h.elim hk hl)]
 ·show AY ⟨nb,N.map EN.n,eb,E.map EE.e,x,y⟩ _=(_,⟨_,_,_,_,_,_⟩);simp only[AY,fd n hn e,hN];rw[if_neg (by decide),if_neg (by decide),if_neg (by decide),if_neg (by decide),if_pos hx]
 ·show AY ⟨nb,N.map EN.n,eb,E.map EE.e,x,y⟩ _=(_,⟨_,_,_,_,_,_⟩);simp only[AY,fd n hn e,hN];rw[if_neg (by decide),if_neg (by decide),if_neg (by decide),if_neg (by decide),if_neg hx,if_pos hl]
set_option maxHeartbeats 2000000 in
theorem AgO {c:GC} (h:Ed σ d gd vN vE nb eb N E x y) (hq:Ask N E x y) (hop:6≤c.op∧c.op≤8) (hz:Md c.id) (hv:c.v.ok)
 (hP:∀e,(Bz (Ja nb eb N E x y) c)=(e,Ja nb eb N E x y)→∀σ' c',Fr σ σ' []→K (.Di (.iface 138 (.int .i64 e))) ⟨σ',c'⟩)
 (hR:∀g',Bz (Ja nb eb N E x y) c=(0,g')→∀σ' c',EdG σ' d gd g'→Fr σ σ' (d::(vN.obj++(vE.obj++BF N E)))→K (.ok (.BL [])) ⟨σ',c'⟩):
 AA (Ad tab) 113 [.ref d gd 0 0,c.av] ⟨σ,ct⟩ K:=by
 obtain⟨op,z,fr,to,nm,v⟩:=c
 dsimp only at hop hz hv
 by_cases h1:op=6
 ·subst h1
  refine AgR h hq hz (fun hf σ' c' f=>hP 7 ?_ σ' c' f) (fun hf hm σ' c' f=>hP 10 ?_ σ' c' f) (fun hf hm hl σ' c' f=>hP 20 ?_ σ' c' f) (fun hf hm hl σ' c' Uc N' he hN f=>hR _ ?_ σ' c' ⟨_,_,_,_,_,_,_,_,he,rfl⟩ f)
  ·show Bz ⟨nb,N.map EN.n,eb,E.map EE.e,x,y⟩ _=(_,⟨_,_,_,_,_,_⟩);simp only[Bz,exN,exE,if_true];rw[if_pos hf]
  ·show Bz ⟨nb,N.map EN.n,eb,E.map EE.e,x,y⟩ _=(_,⟨_,_,_,_,_,_⟩);simp only[Bz,exN,exE,if_true];rw[if_neg hf,if_neg hm]
  ·show Bz ⟨nb,N.map EN.n,eb,E.map EE.e,x,y⟩ _=(_,⟨_,_,_,_,_,_⟩);simp only[Bz,exN,exE,if_true];rw[if_neg hf,if_pos hm,if_neg (show ¬(E.map EE.e).length<4000 by rw[List.length_map];exact hl)]
  ·show Bz ⟨nb,N.map EN.n,eb,E.map EE.e,x,y⟩ _=(_,⟨_,_,_,_,_,_⟩);simp only[Bz,exN,exE,if_true,hN];rw[if_neg hf,if_pos hm,if_pos (show (E.map EE.e).length<4000 by rw[List.length_map];exact hl)]
 by_cases hf:∃n∈E,n.e.id=z
 rotate_left
 ·have e:=Zm (key:=GE.id) (by rw[exE];exact hf)
  refine Aew h hq (by omega) hf fun σ' c' f=>hP 11 ?_ σ' c' f
  show Bz ⟨nb,N.map EN.n,eb,E.map EE.e,x,y⟩ _=(_,⟨_,_,_,_,_,_⟩);simp only[Bz,if_neg h1,e]
 have fd:∀n∈E.map EE.e,n.id=z→(E.map EE.e).find? (fun n=>decide (n.id=z))=some n:=fun n hn e=>Ry hq.iE hn e
 by_cases h2:op=7
 ·subst h2
  obtain⟨n,hn,e⟩:=exE.2 hf
  refine AgP h hq hf (fun σ' c' Uc N' he hN f=>hR _ ?_ σ' c' ⟨_,_,_,_,_,_,_,_,he,rfl⟩ f)
  show Bz ⟨nb,N.map EN.n,eb,E.map EE.e,x,y⟩ _=(_,⟨_,_,_,_,_,_⟩);simp only[Bz,fd n hn e,hN];rw[if_neg (by decide),if_pos trivial]
 obtain rfl:op=8:=by omega
 refine AgK h hq hv hf (fun hx σ' c' f=>hP 20 ?_ σ' c' f) (fun n hn e hx σ' c' N' he hN f=>hR _ ?_ σ' c' ⟨_,_,_,_,_,_,_,_,he,rfl⟩ f) (fun n hn e hx hl σ' c' N' he hN f=>hR _ ?_ σ' c' ⟨_,_,_,_,_,_,_,_,he,rfl⟩ f)
 ·obtain⟨n,hn,e,hx,hk,hl⟩:=hx
  show Bz ⟨nb,N.map EN.n,eb,E.map EE.e,x,y⟩ _=(_,⟨_,_,_,_,_,_⟩);simp only[Bz,fd n hn e];rw[if_neg (by decide),if_neg (by decide),if_neg hx,if_neg (fun h=>h.elim hk hl)]
 ·show Bz ⟨nb,N.map EN.n,eb,E.map EE.e,x,y⟩ _=(_,⟨_,_,_,_,_,_⟩);simp only[Bz,fd n hn e,hN];rw[if_neg (by decide),if_neg (by decide),if_pos hx]
 ·show Bz ⟨nb,N.map EN.n,eb,E.map EE.e,x,y⟩ _=(_,⟨_,_,_,_,_,_⟩);simp only[Bz,fd n hn e,hN];rw[if_neg (by decide),if_neg (by decide),if_neg hx,if_pos hl]
end
section
variable {α κ:Type} {lt:κ→κ→Bool} {key:α→κ}
theorem UQ (hs:PL lt) {k:κ}:∀{l:List α},(below lt key k l).length+(above lt key k l).length≤l.length
 |[]=>by simp[below,above]
 |a::l=>by
  have ih:=UQ hs (k:=k) (l:=l)
  unfold below above at ih ⊢
  cases h1:lt (key a) k<;>cases h2:lt k (key a)
  ·rw[List.filter_cons_of_neg (by simp[h1]),List.filter_cons_of_neg (by simp[h2])];simp;omega
  ·rw[List.filter_cons_of_neg (by simp[h1]),List.filter_cons_of_pos (by simp[h2])];simp;omega
  ·rw[List.filter_cons_of_pos (by simp[h1]),List.filter_cons_of_neg (by simp[h2])];simp;omega
  ·have:=hs.tr _ _ _ h1 h2;rw[hs.Nl]at this;cases this
theorem Y8 (hs:PL lt) {k:κ}:∀{l:List α},(∃ y∈l,key y=k)→(below lt key k l).length+(above lt key k l).length+1≤l.length
 |[],h=>by simp at h
 |a::l,h=>by
  by_cases hk:key a=k
  ·have ih:=UQ hs (key:=key) (k:=k) (l:=l)
   unfold below above at ih ⊢
   have h1:lt (key a) k=false:=by rw[hk];exact hs.Nl _
   have h2:lt k (key a)=false:=by rw[hk];exact hs.Nl _
   rw[List.filter_cons_of_neg (by simp[h1]),List.filter_cons_of_neg (by simp[h2])];simp;omega
  ·have hm:∃y∈l,key y=k:=by
        obtain⟨y,hy,e⟩:=h
        rcases List.mem_cons.1 hy with rfl|hy
        ·exact absurd e hk
        ·exact⟨y,hy,e⟩
   have ih:=Y8 hs hm
   unfold below above at ih ⊢
   cases h1:lt (key a) k<;>cases h2:lt k (key a)
   ·rw[List.filter_cons_of_neg (by simp[h1]),List.filter_cons_of_neg (by simp[h2])];simp;omega
   ·rw[List.filter_cons_of_neg (by simp[h1]),List.filter_cons_of_pos (by simp[h2])];simp;omega
   ·rw[List.filter_cons_of_pos (by simp[h1]),List.filter_cons_of_neg (by simp[h2])];simp;omega
   ·have:=hs.tr _ _ _ h1 h2;rw[hs.Nl]at this;cases this
theorem Gy (hs:PL lt) {x:α} {l:List α}:(Ba lt key x l).length≤l.length+1:=by
 have:=UQ hs (key:=key) (k:=key x) (l:=l)
 simp only[Ba,List.length_append,List.length_singleton];omega
theorem KT (hs:PL lt) {x:α} {l:List α} (h:∃y∈l,key y=key x):(Ba lt key x l).length≤l.length:=by
 have:=Y8 hs (key:=key) (k:=key x) (l:=l) h
 simp only[Ba,List.length_append,List.length_singleton];omega
theorem FB (hs:PL lt) {k:κ} {l:List α}:(CO lt key k l).length≤l.length:=by
 have:=UQ hs (key:=key) (k:=k) (l:=l)
 simp only[CO,List.length_append];omega
end
structure Afx (n:GN):Prop where
 iL:Inc Op.bytesLess id n.labels
 lL:n.labels.length≤8
 iP:Inc Op.bytesLess GP.key n.props
 lP:n.props.length≤16
structure Afy (n:GE):Prop where
 iP:Inc Op.bytesLess GP.key n.props
 lP:n.props.length≤16
structure F6 (g:GG):Prop where
 lN:g.nodes.length≤2000
 lE:g.edges.length≤4000
 iN:Inc CB GN.id g.nodes
 iE:Inc CB GE.id g.edges
 aN:∀n∈g.nodes,Afx n
 aE:∀n∈g.edges,Afy n
 bx:-2^62≤g.Bv∧g.Bv≤2^62
 by_:-2^62≤g.BD∧g.BD≤2^62
theorem F6.ask {nb eb:Bool} {N:List EN} {E:List EE} {x y:Int} (h:F6 (Ja nb eb N E x y)):Ask N E x y where
 lN:=by have:=h.lN;simpa[Ja]using this
 lE:=by have:=h.lE;simpa[Ja]using this
 iN:=h.iN
 iE:=h.iE
 iL:=fun e he=>by have:=h.aN e.n (List.mem_map_of_mem he);exact⟨this.iL,this.lL⟩
 iP:=fun e he=>by have:=h.aN e.n (List.mem_map_of_mem he);exact⟨this.iP,this.lP⟩
 iQ:=fun e he=>by have:=h.aE e.e (List.mem_map_of_mem he);exact⟨this.iP,this.lP⟩
 bx:=h.bx
 by_:=h.by_
theorem F6.UR {g:GG} (h:F6 g) {n:GN} (hn:Afx n) (hm:∃m∈g.nodes,m.id=n.id):F6 {g with nodes:=Ba CB GN.id n g.nodes}:=
 {h with
  lN:=Nat.le_trans (KT Ar hm) h.lN
  iN:=Ii Ar h.iN
  aN:=fun m hm=>by rcases BU Ar hm with rfl|hm;exact hn;exact h.aN _ hm}
theorem F6.Acs {g:GG} (h:F6 g) {n:GE} (hn:Afy n) (hm:∃m∈g.edges,m.id=n.id):F6 {g with edges:=Ba CB GE.id n g.edges}:=
 {h with
  lE:=Nat.le_trans (KT Ar hm) h.lE
  iE:=Ii Ar h.iE
  aE:=fun m hm=>by rcases BU Ar hm with rfl|hm;exact hn;exact h.aE _ hm}
theorem DW {α:Type} {p:α→Bool} {l:List α} {n:α} (h:l.find? p=some n):n∈l∧p n=true:=⟨List.mem_of_find?_eq_some h,List.find?_some h⟩
theorem F6.node {g:GG} (h:F6 g) {c:GC} (hid:Md c.id):F6 (AY g c).2:=by
 unfold AY
 split
 ·split
  ·exact h
  split
  ·rename_i hl
   exact{h with
        lN:=by have:=Gy (key:=GN.id) Ar (x:=⟨c.id,false,[],false,[]⟩) (l:=g.nodes);show(Ba CB GN.id _ g.nodes).length≤2000;omega
        iN:=Ii Ar h.iN
        aN:=fun m hm=>by
         rcases BU Ar hm with rfl|hm
         ·exact⟨List.Pairwise.nil,by simp,List.Pairwise.nil,by simp⟩
         ·exact h.aN _ hm
        bx:=by have:=h.bx;have:=hid.2;have:=hid.1;show _≤(if c.id+1>g.Bv then c.id+1 else g.Bv)∧(if c.id+1>g.Bv then c.id+1 else g.Bv)≤_;split<;>omega}
  ·exact h
 split
 ·exact h
 rename_i n hf
 obtain⟨hn,hz⟩:=DW hf
 replace hz:=of_decide_eq_true hz
 have ha:=h.aN n hn
 split
 ·split
  ·exact h
  ·exact{h with lN:=Nat.le_trans (FB Ar) h.lN,iN:=Kq Ar h.iN,aN:=fun m hm=>h.aN m (Ei hm)}
 split
 ·split
  ·exact h
  split
  ·rename_i hl
   exact h.UR ⟨Ii Aq ha.iL,Nat.le_trans (Gy Aq) (by omega),ha.iP,ha.lP⟩ ⟨n,hn,rfl⟩
  ·exact h
 split
 ·split
  ·exact h.UR ⟨Kq Aq ha.iL,Nat.le_trans (FB Aq) ha.lL,ha.iP,ha.lP⟩ ⟨n,hn,rfl⟩
  ·exact h
 split
 ·exact h.UR ⟨ha.iL,ha.lL,Kq Aq ha.iP,Nat.le_trans (FB Aq) ha.lP⟩ ⟨n,hn,rfl⟩
 split
 ·rename_i hx
  refine h.UR ⟨ha.iL,ha.lL,Ii Aq ha.iP,?_⟩ ⟨n,hn,rfl⟩
  rcases hx with hx|hx
  ·exact Nat.le_trans (KT Aq hx) ha.lP
  ·exact Nat.le_trans (Gy Aq) (by omega)
 ·exact h
theorem F6.edge {g:GG} (h:F6 g) {c:GC} (hid:Md c.id):F6 (Bz g c).2:=by
 unfold Bz
 split
 ·split
  ·exact h
  split
  ·split
   ·rename_i hl
    exact{h with
     lE:=by have:=Gy (key:=GE.id) Ar (x:=⟨c.id,c.fr,c.to,c.name,false,[]⟩) (l:=g.edges);show(Ba CB GE.id _ g.edges).length≤4000;omega
     iE:=Ii Ar h.iE
     aE:=fun m hm=>by
      rcases BU Ar hm with rfl|hm
      ·exact⟨List.Pairwise.nil,by simp⟩
      ·exact h.aE _ hm
     by_:=by have:=h.by_;have:=hid.2;have:=hid.1;show _≤(if c.id+1>g.BD then c.id+1 else g.BD)∧(if c.id+1>g.BD then c.id+1 else g.BD)≤_;split<;>omega}
   ·exact h
  ·exact h
 split
 ·exact h
 rename_i n hf
 obtain⟨hn,hz⟩:=DW hf
 have ha:=h.aE n hn
 split
 ·exact{h with lE:=Nat.le_trans (FB Ar) h.lE,iE:=Kq Ar h.iE,aE:=fun m hm=>h.aE m (Ei hm)}
 split
 ·exact h.Acs ⟨Kq Aq ha.iP,Nat.le_trans (FB Aq) ha.lP⟩ ⟨n,hn,rfl⟩
 split
 ·rename_i hx
  refine h.Acs ⟨Ii Aq ha.iP,?_⟩ ⟨n,hn,rfl⟩
  rcases hx with hx|hx
  ·exact Nat.le_trans (KT Aq hx) ha.lP
  ·exact Nat.le_trans (Gy Aq) (by omega)
 ·exact h
theorem F6.step {g:GG} (h:F6 g) {c:GC}:F6 (stepG g c).2:=by
 unfold stepG
 split
 ·exact h
 rename_i hk
 have h0:=AdD (Classical.not_not.1 hk)
 split
 ·exact h.node h0.2.1
 ·exact h.edge h0.2.1
end AI
end Go.Proofs.YtceiccjppfapjaaGreatDoor
