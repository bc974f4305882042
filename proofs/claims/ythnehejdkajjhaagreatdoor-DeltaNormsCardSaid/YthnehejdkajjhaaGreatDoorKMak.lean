/- An editor's change of an edge: a property set. An editor's change of an edge: one more. An editor's change of a node: taken away. An editor's change of a node: taken away. What a change makes of a graph; an editor's functions make just that. A step keeps what an editor asks. Walks through a function that defers a recovering closure. A step of an editor. Cloned lists as a caller's own. -/
import Derived.Test.YthnehejdkajjhaaGreatDoorKMaj
import Derived.Test.YthnehejdkajjhaaGreatDoorKMai
import Derived.Test.YthnehejdkajjhaaGreatDoorBVa
set_option linter.unusedVariables false
set_option maxRecDepth 4000
namespace Go.Proofs.YthnehejdkajjhaaGreatDoor
namespace AI
section
variable {σ σ1 σ2 σ3:List Obj} {d gd:Nat} {vN vE:AV} {nb eb:Bool} {N:List EN} {E:List EE} {x y:Int} {ct:Nat} {K:Bf→Aq→Prop}
theorem AlS {o g i n:Nat}:Je (.own o g i n) (.own o g i n)=true:=by simp[Je]
set_option maxHeartbeats 2000000 in
theorem AnC {z fr to:Int} {nm:List UInt8} {v:GV} (h:Ed σ d gd vN vE nb eb N E x y) (hq:Ask N E x y) (hv:v.ok) (hf:∃n∈E,n.e.id=z)
 (hP:(∃ n∈E.map EE.e,n.id=z∧¬isNull v∧(¬ ∃p∈n.props,GP.key p=nm)∧¬n.props.length<16)→∀σ' c',Fr σ σ' []→K (.Ei (.iface 118 (.int .i64 20))) ⟨σ',c'⟩)
 (hA:∀n∈E.map EE.e,n.id=z→isNull v→∀σ' c' E',Ed σ' d gd vN vE nb eb N E' x y→E'.map EE.e=A8 BX GE.id {n with props:=Cc Op.bytesLess GP.key nm n.props} (E.map EE.e)→Fr σ σ' (d::(vN.obj++(vE.obj++Cj N E)))→K (.ok (.BG [])) ⟨σ',c'⟩)
 (hB:∀n∈E.map EE.e,n.id=z→¬isNull v→((∃ p∈n.props,GP.key p=nm)∨n.props.length<16)→∀σ' c' E',Ed σ' d gd vN vE nb eb N E' x y→E'.map EE.e=A8 BX GE.id {n with pn:=true,props:=A8 Op.bytesLess GP.key ⟨nm,v⟩ n.props} (E.map EE.e)→Fr σ σ' (d::(vN.obj++(vE.obj++Cj N E)))→K (.ok (.BG [])) ⟨σ',c'⟩):
 Am (Ac tab) 86 [.ref d gd 0 0,(GC.mk 8 z fr to nm v).av] ⟨σ,ct⟩ K:=by
 have DY:=hq.deep
 have hlE:=hq.lE
 obtain⟨rfl,o,g,cn,i,hi,rfl,ho,hcn,hid,q1,hbt⟩:=h.atE hq hf
 have hmem:E[i]∈E:=List.getElem_mem hi
 have hok:=h.hE _ hmem
 obtain⟨hip,AcS⟩:=hq.iQ _ hmem
 have hap:=h.AcR hi
 have Abx:=h.ndE hi
 show Am (Ac tab) _ [.ref d gd 0 0,.agg [.int .i64 8,.int .i64 z,.int .i64 fr,.int .i64 to,.str nm,.int .i64 v.k,.int .i64 v.n,.int .i64 v.d,.str v.s,.sl v.nn v.l]] _ _
 obtain⟨e,he⟩:∃e,e=E[i]:=⟨_,rfl⟩
 rw[← he]at hok hip AcS Abx
 have hnt:nth (vs EE.av E) (Int.toNat (i:Int))=some e.av:=by rw[he];exact nV hi
 have NM:nth (vs EE.av E) i=some e.av:=by rw[he];exact nV hi
 obtain⟨n,pv⟩:=e
 have hok2:Hd GP.av 6 σ pv n.pn n.props true:=hok
 replace AcS:n.props.length≤16:=AcS
 replace hip:Inc Op.bytesLess GP.key n.props:=hip
 have hmm:n∈E.map EE.e:=by rw[show n=(E[i]).e by rw[← he]];exact List.mem_map_of_mem hmem
 have hnz:n.id=z:=by rw[show n=(E[i]).e by rw[← he]];exact hid
 have OX:(E[i]).objs=pv.obj:=by rw[← he];rfl
 have hoo:o∉pv.obj:=fun hm=>((hap o (.inr (by rw[OX];simp[hm]))).2.2.2.2 (by rw[OX];simp[hm])).1 (by simp[AV.obj])
 have hdo:d∉[o]:=by have:=h.nd;simp[AV.obj]at this;simpa using this.1.2.1
 have hdp:d∉pv.obj:=fun hm=>(hap d (.inr (by rw[OX];exact hm))).1 rfl
 have fin:∀σ1 σ2 σ3 pv' pb L c',Fr σ σ1 []→Fr σ1 σ2 pv.obj→Fr σ2 σ3 [o]→nth σ3 o=some (.arr g 5 true c' (vs EE.av (E.set i ⟨{n with pn:=pb,props:=L},pv'⟩)))→
  Hd GP.av 6 σ2 pv' pb L true→(∀ q∈pv'.obj,q∈pv.obj∨σ1.length≤q)→(c'=true→cn=true∧pv'.closed=true)→Ed σ3 d gd vN (.own o g 0 E.length) nb true N (E.set i ⟨{n with pn:=pb,props:=L},pv'⟩) x y∧Fr σ σ3 (d::(vN.obj++((AV.own o g 0 E.length).obj++Cj N E))):=by
  intro σ1 σ2 σ3 pv' pb L c' f1 f2 f3 h3 h2 hob hcc
  refine h.Au6 hi f1 (f2.mono (by rw[OX];simp +contextual)) f3 h3 (fun hc e he'=>?_) h2 (fun q hq=>?_) h2.nodup
  ·replace hc:=hcc hc
   rcases Lj he' with rfl|⟨j,hj,_,rfl⟩
   ·simp only[EE.av,AV.closed,D9,Bool.and_eq_true,Bool.and_true]
    exact⟨trivial,trivial,trivial,trivial,hc.2⟩
   ·exact hcn hc.1 _ (List.getElem_mem hj)
  ·rw[OX]
   exact hob q hq
 have mp:∀(e':EE),e'.e.id=z→(E.set i e').map EE.e=A8 BX GE.id e'.e (E.map EE.e):=fun e' hz'=>by
  rw[List.map_set]
  exact AtK.set (key:=GE.id) (x:=e'.e) Ak hq.iE (by rw[hz'];exact q1) ⟨n,hmm,by rw[hz',hnz]⟩
 have AhN:=hok2
 rcases AhN with⟨_,_,rfl|⟨op',gp,ep,rfl,_⟩⟩|⟨_,op',gp,rfl,_⟩
 all_goals
  refine Ah rfl rfl ?_
  (conv=>whnf);repeat' (first|(refine need.mk AlS ?_;conv=>whnf)|(refine Dh fun σ1 f1 h1 l1=>?_;have hE1:=h.P8 f1;have hd1:=hE1.box;have ho1:=f1.get ho (by simp);have hp1:=hok2.keep (σ':=σ1) fun q hq=>f1.eq q (hok2.lt q hq) (by simp);conv=>whnf)|(apply Ae (hE1.Ux 999999 DY);conv=>whnf)|(refine Aa hbt ?_;rintro _ rfl;conv=>whnf)|(refine Fp ?_;conv=>whnf)|(rw [h1];conv=>whnf)|(rw [hd1];conv=>whnf)|(rw [ho1];conv=>whnf)|(refine Au hnt ?_;conv=>whnf)|(refine Au NM ?_;conv=>whnf)|(refine Aq9 hp1 hip (by omega) hv (fun hn σ2 c2 pv2 g1 f2 g3=>?_) (fun hn hx σ2 c2 pv2 g1 f2 g3=>?_) (fun hn hx hl σ2 c2 f2=>?_);rotate_left 2;(conv=>whnf);rotate_left 1;(have ho2:=f2.get ho1 hoo;have hd2:=f2.get hd1 hdp;have g0:=g1;rcases g0 with⟨_,_,rfl|⟨_,_,_,rfl,_⟩⟩|⟨_,_,_,rfl,_⟩<;>conv=>whnf);rotate_left 3;(have ho2:=f2.get ho1 hoo;have hd2:=f2.get hd1 hdp;have g0:=g1;rcases g0 with⟨gb,_⟩|⟨_,_,_,rfl,_⟩;(· cases gb);conv=>whnf))|(rw [hd2];conv=>whnf)|(rw [ho2];conv=>whnf)|(refine (Eb _ _).2 ?_;conv=>whnf)|(refine F7 ho2 fun σ3 f3 h3 l3=>?_;have hd3:=f3.get hd2 hdo;conv=>whnf)|(rw [hd3];conv=>whnf)|refine kA ?_;conv=>whnf|(apply Br.mk<;>intro hc<;>first|exact hc.elim|conv=>whnf)|refine kB ?_)
  all_goals first
   |(have hr:=fin σ1 σ2 σ3 _ _ _ _ f1 f2 f3 (h3.trans (by rw[← Ua];rfl)) g1 g3 (fun h=>by first|exact⟨h,rfl⟩|exact⟨rfl,rfl⟩|cases h)
     first|exact hA n hmm hnz hn σ3 _ _ hr.1 (mp _ hnz) hr.2|exact hB n hmm hnz hn hx σ3 _ _ hr.1 (mp _ hnz) hr.2)
   |exact hP ⟨n,hmm,hnz,hn,hx,hl⟩ _ _ (f1.trans f2)
end
section
variable {σ:List Obj} {d gd:Nat} {vN vE:AV} {nb eb:Bool} {N:List EN} {E:List EE} {x y:Int} {ct:Nat} {K:Bf→Aq→Prop}
set_option maxHeartbeats 2000000 in
theorem AnA {z fr to:Int} {nm:List UInt8} {v:GV} (h:Ed σ d gd vN vE nb eb N E x y) (hq:Ask N E x y) (hz:1≤z∧z≤1000000)
 (hP:(∃ n∈E,n.e.id=z)→∀σ' c',Fr σ σ' []→K (.Ei (.iface 118 (.int .i64 7))) ⟨σ',c'⟩)
 (hM:(¬ ∃n∈E,n.e.id=z)→¬((∃ n∈N,n.n.id=fr)∧∃n∈N,n.n.id=to)→∀σ' c',Fr σ σ' []→K (.Ei (.iface 118 (.int .i64 10))) ⟨σ',c'⟩)
 (hQ:(¬ ∃n∈E,n.e.id=z)→((∃ n∈N,n.n.id=fr)∧∃n∈N,n.n.id=to)→¬E.length<4000→∀σ' c',Fr σ σ' []→K (.Ei (.iface 118 (.int .i64 20))) ⟨σ',c'⟩)
 (hR:(¬ ∃n∈E,n.e.id=z)→((∃ n∈N,n.n.id=fr)∧∃n∈N,n.n.id=to)→E.length<4000→∀σ' c' vE' E',Ed σ' d gd vN vE' nb true N E' x (if z+1>y then z+1 else y)→E'.map EE.e=A8 BX GE.id ⟨z,fr,to,nm,false,[]⟩ (E.map EE.e)→Fr σ σ' (d::(vN.obj++(vE.obj++Cj N E)))→K (.ok (.BG [])) ⟨σ',c'⟩):
 Am (Ac tab) 86 [.ref d gd 0 0,(GC.mk 6 z fr to nm v).av] ⟨σ,ct⟩ K:=by
 have DY:=hq.deep
 have hlE:=hq.lE
 have hby:=hq.by_
 show Am (Ac tab) _ [.ref d gd 0 0,.agg [.int .i64 6,.int .i64 z,.int .i64 fr,.int .i64 to,.str nm,.int .i64 v.k,.int .i64 v.n,.int .i64 v.d,.str v.s,.sl v.nn v.l]] _ _
 by_cases hf:∃n∈E,n.e.id=z
 ·obtain⟨i,q1,hbt⟩:=Ad4 (nb:=nb) (eb:=eb) hq hf
  refine Ah rfl rfl ?_
  (conv=>whnf);repeat' (first|(refine Dh fun σ1 f1 h1 l1=>?_;have hE1:=h.P8 f1;conv=>whnf)|(apply Ae (hE1.Ux 999999 DY);conv=>whnf)|(refine Aa hbt ?_;rintro _ rfl;conv=>whnf)|(refine Kz ?_;conv=>whnf)|(rw [h1];conv=>whnf)|refine kA ?_;conv=>whnf|(apply Br.mk<;>intro hc<;>first|exact hc.elim|conv=>whnf)|refine kB ?_)
  all_goals first|exact hP hf _ _ f1
 obtain⟨i,q1,hbt⟩:=Ahq (nb:=nb) (eb:=eb) hq hf
 by_cases hfr:∃n∈N,n.n.id=fr
 rotate_left
 ·obtain⟨i1,_,hb1⟩:=WU (nb:=nb) (eb:=eb) hq hfr
  have hb2:∃(i2:Nat) (b:Bool),Ag (Ac tab) 140 [.DR (LP nb eb N E x y).av.cells,.int .i64 to] (· =.BG [.int .i64 (i2:Nat),.bool b]):=by
   by_cases hto:∃n∈N,n.n.id=to
   ·obtain⟨i2,_,h2⟩:=RI (nb:=nb) (eb:=eb) hq hto;exact⟨_,_,h2⟩
   ·obtain⟨i2,_,h2⟩:=WU (nb:=nb) (eb:=eb) hq hto;exact⟨_,_,h2⟩
  obtain⟨i2,b2,hb2⟩:=hb2
  refine Ah rfl rfl ?_
  (conv=>whnf);repeat' (first|(refine Dh fun σ1 f1 h1 l1=>?_;have hE1:=h.P8 f1;conv=>whnf)|(apply Ae (hE1.Ux 999999 DY);conv=>whnf)|((first|refine Aa hbt ?_|refine Aa hb1 ?_|refine Aa hb2 ?_);rintro _ rfl;conv=>whnf)|(refine Fp ?_;conv=>whnf)|(refine Kz ?_;conv=>whnf)|(rw [h1];conv=>whnf)|refine kA ?_;conv=>whnf|(apply Br.mk<;>intro hc<;>first|exact hc.elim|conv=>whnf)|refine kB ?_)
  all_goals first|exact hM hf (fun h=>hfr h.1) _ _ f1
 obtain⟨i1,_,hb1⟩:=RI (nb:=nb) (eb:=eb) hq hfr
 by_cases hto:∃n∈N,n.n.id=to
 rotate_left
 ·obtain⟨i2,_,hb2⟩:=WU (nb:=nb) (eb:=eb) hq hto
  refine Ah rfl rfl ?_
  (conv=>whnf);repeat' (first|(refine Dh fun σ1 f1 h1 l1=>?_;have hE1:=h.P8 f1;conv=>whnf)|(apply Ae (hE1.Ux 999999 DY);conv=>whnf)|((first|refine Aa hbt ?_|refine Aa hb1 ?_|refine Aa hb2 ?_);rintro _ rfl;conv=>whnf)|(refine Fp ?_;conv=>whnf)|(refine Kz ?_;conv=>whnf)|(rw [h1];conv=>whnf)|refine kA ?_;conv=>whnf|(apply Br.mk<;>intro hc<;>first|exact hc.elim|conv=>whnf)|refine kB ?_)
  all_goals first|exact hM hf (fun h=>hto h.2) _ _ f1
 obtain⟨i2,_,hb2⟩:=RI (nb:=nb) (eb:=eb) hq hto
 have hdl:=Dc h.box
 by_cases hlen:E.length<4000
 ·obtain⟨cn,hn1,hn2⟩:=h.he
  rcases hn1 with⟨rfl,rfl,rfl|⟨o,g,es',rfl,ho⟩⟩|⟨rfl,o,g,rfl,ho⟩
  ·exact absurd rfl h.oE
  ·obtain rfl:i=0:=by simpa using q1.le
   refine Ah rfl rfl ?_
   (conv=>whnf);repeat' (first|(refine Dh fun σ1 f1 h1 l1=>?_;have hE1:=h.P8 f1;have hd1:=hE1.box;have ho1:=f1.get ho (by simp);conv=>whnf)|(apply Ae (hE1.Ux 999999 DY);conv=>whnf)|((first|refine Aa hbt ?_|refine Aa hb1 ?_|refine Aa hb2 ?_);rintro _ rfl;conv=>whnf)|(refine Fp ?_;conv=>whnf)|(rw [h1];conv=>whnf)|(rw [hd1];conv=>whnf)|(refine Vm (x:=GE.av ⟨z,fr,to,nm,false,[]⟩) rfl rfl (by omega) ho1 fun σ2 f2 h2=>?_;have hd2:=f2.get hd1 (by simp);have h12:=f2.get h1 (by simp);conv=>whnf)|(rw [hd2];conv=>whnf)|refine kA ?_;conv=>whnf|(apply Br.mk<;>intro hc<;>first|exact hc.elim|conv=>whnf)|refine kB ?_)
   have hns:σ.length∉[d]:=by simp;omega
   refine F7 hd2 fun σ3 f3 h3 l3=>?_
   have h13:=f3.get h12 hns
   (conv=>whnf);repeat' (first|(rw [h3];conv=>whnf)|(rw [h13];conv=>whnf)|refine kA ?_;conv=>whnf|(apply Br.mk<;>intro hc<;>first|exact hc.elim|conv=>whnf)|refine kB ?_)
   refine F7 h3 fun σ4 f4 h4 l4=>?_
   (conv=>whnf);repeat' (first  |refine kA ?_;conv=>whnf|(apply Br.mk<;>intro hc<;>first|exact hc.elim|conv=>whnf)|refine kB ?_)
   have hF:Fr σ σ4 [d]:=(((f1.mono (by simp)).trans (f2.mono (by simp))).trans f3).trans f4
   have h24:nth σ4 σ1.length=some (.arr (ct+1) 5 true true (vs EE.av [eE0 z fr to nm])):=f4.get (f3.get h2 (by have:=f1.len;simp;dsimp only at this;omega)) (by have:=f1.len;simp;dsimp only at this;omega)
   have hed:Ed σ4 d gd vN (.own σ1.length (ct+1) 0 1) nb true N [eE0 z fr to nm] x (if z+1>y then z+1 else y):=
        h.Aot hF (by simp) h4 (.inr ⟨rfl,_,_,rfl,h24⟩) (fun _ e he=>by simp at he) (fun e he=>.inr ⟨z,fr,to,nm,by simpa using he⟩) (by simp[eE0,EE.objs,AV.obj]) (fun o ho=>.inr (by simp only[AV.obj,List.mem_singleton]at ho;subst ho;exact f1.len)) (by simp)
   exact hR hf ⟨hfr,hto⟩ hlen _ _ _ _ hed rfl (hF.mono (by simp))
  ·have hil:=q1.le
   rw[List.length_map]at hil
   have hno:σ.length∉[o]:=by have:=Dc ho;simp;omega
   have hdo:d∉[o]:=by have:=h.nd;simp[AV.obj]at this;simpa using this.1.2.1
   refine Ah rfl rfl ?_
   (conv=>whnf);repeat' (first|(refine Dh fun σ1 f1 h1 l1=>?_;have hE1:=h.P8 f1;have hd1:=hE1.box;have ho1:=f1.get ho (by simp);conv=>whnf)|(apply Ae (hE1.Ux 999999 DY);conv=>whnf)|((first|refine Aa hbt ?_|refine Aa hb1 ?_|refine Aa hb2 ?_);rintro _ rfl;conv=>whnf)|(refine Fp ?_;conv=>whnf)|(rw [h1];conv=>whnf)|(rw [hd1];conv=>whnf)|(refine ZE (fv:=EE.av) (x:=eE0 z fr to nm) rfl rfl (by omega) rfl hil ho1 fun σ2 f2 h2=>?_;have hd2:=f2.get hd1 hdo;have h12:=f2.get h1 hno;conv=>whnf)|(rw [hd2];conv=>whnf)|refine kA ?_;conv=>whnf|(apply Br.mk<;>intro hc<;>first|exact hc.elim|conv=>whnf)|refine kB ?_)
   refine F7 hd2 fun σ3 f3 h3 l3=>?_
   have h13:=f3.get h12 (by simp;omega)
   (conv=>whnf);repeat' (first|(rw [h3];conv=>whnf)|(rw [h13];conv=>whnf)|refine kA ?_;conv=>whnf|(apply Br.mk<;>intro hc<;>first|exact hc.elim|conv=>whnf)|refine kB ?_)
   refine F7 h3 fun σ4 f4 h4 l4=>?_
   (conv=>whnf);repeat' (first  |refine kA ?_;conv=>whnf|(apply Br.mk<;>intro hc<;>first|exact hc.elim|conv=>whnf)|refine kB ?_)
   have hF:Fr σ σ4 [d,o]:=(((f1.mono (by simp)).trans (f2.mono (by simp))).trans (f3.mono (by simp))).trans (f4.mono (by simp))
   have hod:o∉[d]:=fun hm=>hdo (by simp at hm ⊢;exact hm.symm)
   have h24:nth σ4 o=some (.arr (ct+1) 5 true cn (vs EE.av (E.take i++[eE0 z fr to nm]++E.drop i))):=f4.get (f3.get h2 hod) hod
   have hl4:(E.take i++[eE0 z fr to nm]++E.drop i).length=E.length+1:=by simp only[List.length_append,List.length_take,List.length_drop,List.length_singleton];omega
   have hed:Ed σ4 d gd vN (.own o (ct+1) 0 (E.length+1)) nb true N (E.take i++[eE0 z fr to nm]++E.drop i) x (if z+1>y then z+1 else y):=
        h.Aot hF (by simp[AV.obj]) h4 (.inr ⟨rfl,_,_,by rw[hl4],h24⟩) hn2 (fun e he=>by
         rcases List.mem_append.1 he with he|he
         ·rcases List.mem_append.1 he with he|he
          ·exact .inl (List.mem_of_mem_take he)
          ·exact .inr ⟨z,fr,to,nm,by simpa using he⟩
         ·exact .inl (List.mem_of_mem_drop he)) (by
         rw[List.flatMap_append,List.flatMap_append,show[eE0 z fr to nm].flatMap EE.objs=[] from rfl,List.append_nil,←List.flatMap_append,List.take_append_drop]
         exact List.Sublist.refl _) (fun o ho=>.inl ho) (by simp)
   exact hR hf ⟨hfr,hto⟩ hlen _ _ _ _ hed (by
        refine Eq.trans ?_ (AtK.ins (key:=GE.id) (x:=(⟨z,fr,to,nm,false,[]⟩:GE)) Ak q1 (fun n hn e=>hf (by obtain⟨m,hm,rfl⟩:=List.mem_map.1 hn;exact⟨m,hm,e⟩)))
        simp only[List.map_append,List.map_take,List.map_drop];rfl) (hF.mono (by simp[AV.obj]))
 ·obtain⟨cn,hn1,hn2⟩:=h.he
  rcases hn1 with⟨rfl,rfl,rfl|⟨o,g,es',rfl,ho⟩⟩|⟨rfl,o,g,rfl,ho⟩
  ·exact absurd rfl h.oE
  ·exact absurd (by simp) hlen
  ·refine Ah rfl rfl ?_
   (conv=>whnf);repeat' (first|(refine Dh fun σ1 f1 h1 l1=>?_;have hE1:=h.P8 f1;have hd1:=hE1.box;conv=>whnf)|(apply Ae (hE1.Ux 999999 DY);conv=>whnf)|((first|refine Aa hbt ?_|refine Aa hb1 ?_|refine Aa hb2 ?_);rintro _ rfl;conv=>whnf)|(refine Fp ?_;conv=>whnf)|(refine Kz ?_;conv=>whnf)|(rw [h1];conv=>whnf)|(rw [hd1];conv=>whnf)|refine kA ?_;conv=>whnf|(apply Br.mk<;>intro hc<;>first|exact hc.elim|conv=>whnf)|refine kB ?_)
   all_goals first|exact hQ hf ⟨hfr,hto⟩ hlen _ _ f1
end
section
variable {σ:List Obj} {d gd:Nat} {vN vE:AV} {nb eb:Bool} {N:List EN} {E:List EE} {x y:Int} {ct:Nat} {K:Bf→Aq→Prop}
set_option maxHeartbeats 2000000 in
theorem Aei {z fr to:Int} {nm:List UInt8} {v:GV} {o g p u j:Nat} {c:Bool} {Q:Aw→Env→Aq→Prop} (hlE:E.length≤4000) (ho:E≠[]→nth σ o=some (.arr g 5 true c (vs EE.av E))) (hE:∀e∈E,e.Ok σ)
 (hp:nth σ p=some (.arr u 10 true true [.agg [.int .i64 2,.int .i64 z,.int .i64 fr,.int .i64 to,.str nm,.int .i64 v.k,.int .i64 v.n,.int .i64 v.d,.str v.s,.sl v.nn v.l]]))
 (hN:(∃ e∈E.map EE.e,e.fr=z∨e.to=z)→∀env σ' c',Fr σ σ' []→Q (.Ei (.iface 118 (.int .i64 12))) env ⟨σ',c'⟩)
 (hY:(¬ ∃e∈E.map EE.e,e.fr=z∨e.to=z)→∀σ' c' tl,Fr σ σ' []→Q (.exit 1) ([(0,.ref d gd 0 0),(3,.ref p u 0 0),(4,.int .i64 j),(91,.own o g 0 E.length),(92,.int .i64 E.length),(93,.int .i64 E.length)]++tl) ⟨σ',c'⟩):
 Run (Ac tab) (.loop l85_0_h l85_0_b) [(0,.ref d gd 0 0),(3,.ref p u 0 0),(4,.int .i64 j),(91,.own o g 0 E.length),(92,.int .i64 E.length),(93,.int .i64 0)] ⟨σ,ct⟩ Q:=by
 refine Af (fun m env s=>∃(i c':Nat) (σ':List Obj),m=E.length-i∧i≤E.length∧env=[(0,.ref d gd 0 0),(3,.ref p u 0 0),(4,.int .i64 j),(91,.own o g 0 E.length),(92,.int .i64 E.length),(93,.int .i64 i)]∧s=⟨σ',c'⟩∧Fr σ σ' []∧¬∃e∈(E.take i).map EE.e,e.fr=z∨e.to=z) ?_ _ _ _ ⟨0,_,_,rfl,by omega,rfl,rfl,Fr.refl,by simp⟩
 rintro _ _ _ ⟨i,c',σ',rfl,hi,rfl,rfl,f0,hno⟩
 refine⟨rfl,?_⟩
 by_cases hlt:i<E.length
 ·have hmem:E[i]∈E:=List.getElem_mem hlt
  have hok:=hE _ hmem
  obtain⟨e,he⟩:∃e,e=E[i]:=⟨_,rfl⟩
  have hnt:nth (vs EE.av E) (Int.toNat (i:Int))=some e.av:=by rw[he];exact nV hlt
  have NM:nth (vs EE.av E) i=some e.av:=by rw[he];exact nV hlt
  have hme:e.e∈E.map EE.e:=by rw[he];exact List.mem_map_of_mem hmem
  have hno':¬(e.e.fr=z∨e.e.to=z)→¬∃e∈(E.take (i+1)).map EE.e,e.fr=z∨e.to=z:=fun hn=>by
   rw[List.take_succ_eq_append_getElem hlt,List.map_append]
   rintro⟨w,hw,hx⟩
   rcases List.mem_append.1 hw with hw|hw
   ·exact hno ⟨w,hw,hx⟩
   ·simp only[List.map_cons,List.map_nil,List.mem_singleton]at hw
    rw[hw,←he]at hx
    exact hn hx
  rw[← he]at hok
  have ho0:=f0.get (ho (by intro h;rw[h]at hlt;simp at hlt)) (by simp)
  have hp0:=f0.get hp (by simp)
  obtain⟨n,pv⟩:=e
  have hok2:Hd GP.av 6 σ pv n.pn n.props true:=hok
  rcases hok2 with⟨_,_,rfl|⟨op',gp,ep,rfl,_⟩⟩|⟨_,op',gp,rfl,_⟩
  all_goals
   (conv=>whnf);repeat' (first|(refine Dh fun σ1 f1 h1 l1=>?_;have ho1:=f1.get ho0 (by simp);have hp1:=f1.get hp0 (by simp);conv=>whnf)|(rw [ho0];conv=>whnf)|(rw [h1];conv=>whnf)|(refine Au hnt ?_;conv=>whnf)|(refine Au NM ?_;conv=>whnf)|(refine (Eb _ _).2 ?_;conv=>whnf)|(refine F7 h1 fun σ2 f2 h2 l2=>?_;have hp2:=f2.get hp1 (by have:=Dc hp0;simp;omega);conv=>whnf)|(rw [h2];conv=>whnf)|(rw [hp2];conv=>whnf)|(refine Fp ?_;conv=>whnf)|(refine Kz ?_;conv=>whnf)|refine kA ?_;conv=>whnf|(apply Br.mk<;>intro hc<;>first|exact hc.elim|conv=>whnf)|refine kB ?_)
   all_goals
        have hf2:Fr σ σ2 []:=f0.trans (((f1.mono (by simp)).trans f2).mono (by simp))
        first
        |exact again.mk ⟨_,by omega,i+1,_,_,rfl,by omega,rfl,rfl,hf2,hno' (by omega)⟩
        |exact hN ⟨_,hme,by omega⟩ _ _ _ hf2
        |(exfalso;omega)
 ·obtain rfl:i=E.length:=by omega
  (conv=>whnf);repeat' (first  |refine kA ?_;conv=>whnf|(apply Br.mk<;>intro hc<;>first|exact hc.elim|conv=>whnf)|refine kB ?_)
  all_goals first
   |exact hY (by rw[List.take_length]at hno;exact hno) _ _ _ f0
   |(exfalso;omega)
end
section
variable {σ:List Obj} {d gd:Nat} {vN vE:AV} {nb eb:Bool} {N:List EN} {E:List EE} {x y:Int} {ct:Nat} {K:Bf→Aq→Prop}
set_option maxHeartbeats 2000000 in
theorem Anu {z fr to:Int} {nm:List UInt8} {v:GV} (h:Ed σ d gd vN vE nb eb N E x y) (hq:Ask N E x y) (hf:∃n∈N,n.n.id=z)
 (hP:(∃ e∈E.map EE.e,e.fr=z∨e.to=z)→∀σ' c',Fr σ σ' []→K (.Ei (.iface 118 (.int .i64 12))) ⟨σ',c'⟩)
 (hR:(¬ ∃e∈E.map EE.e,e.fr=z∨e.to=z)→∀σ' c' Zm N',Ed σ' d gd Zm vE nb eb N' E x y→N'.map EN.n=Cc BX GN.id z (N.map EN.n)→Fr σ σ' (d::(vN.obj++(vE.obj++Cj N E)))→K (.ok (.BG [])) ⟨σ',c'⟩):
 Am (Ac tab) 85 [.ref d gd 0 0,(GC.mk 2 z fr to nm v).av] ⟨σ,ct⟩ K:=by
 have DY:=hq.deep
 have hlN:=hq.lN
 have hlE:=hq.lE
 obtain⟨rfl,o,g,cn,i,hi,rfl,ho,hcn,hid,q1,hbt⟩:=h.at hq hf
 show Am (Ac tab) _ [.ref d gd 0 0,.agg [.int .i64 2,.int .i64 z,.int .i64 fr,.int .i64 to,.str nm,.int .i64 v.k,.int .i64 v.n,.int .i64 v.d,.str v.s,.sl v.nn v.l]] _ _
 have hdl:=Dc h.box
 have hdo:d∉[o]:=by have:=h.nd;simp[AV.obj]at this;simpa using this.1.1
 have hod:o∉[d]:=fun hm=>hdo (by simp at hm ⊢;exact hm.symm)
 have fin:∀σ1 σ2 σ3 c' (gg:Nat),Fr σ σ1 []→Fr σ1 σ2 [o]→Fr σ2 σ3 [d]→nth σ2 o=some (.arr gg 3 true cn (vs EN.av (N.take i++N.drop (i+1))))→
  nth σ3 d=some (.arr gd 4 true false [.agg [.own o gg 0 (i+(N.length-(i+1))),vE,.int .i64 x,.int .i64 y]])→(¬ ∃e∈E.map EE.e,e.fr=z∨e.to=z)→K (.ok (.BG [])) ⟨σ3,c'⟩:=by
  intro σ1 σ2 σ3 c' gg f1 f2 f3 h2 h3 hno
  have hF:Fr σ σ3 [d,o]:=((f1.mono (by simp)).trans (f2.mono (by simp))).trans (f3.mono (by simp))
  have h23:=f3.get h2 hod
  have hl4:(N.take i++N.drop (i+1)).length=i+(N.length-(i+1)):=by simp only[List.length_append,List.length_take,List.length_drop];omega
  have hed:=h.AoN (N':=N.take i++N.drop (i+1)) (x':=x) hF (by simp[AV.obj]) h3 (.inr ⟨rfl,_,_,by rw[hl4],h23⟩) hcn (fun e he=>by
        rcases List.mem_append.1 he with he|he
        ·exact .inl (List.mem_of_mem_take he)
        ·exact .inl (List.mem_of_mem_drop he)) (by
        rw[List.flatMap_append,NR hi]
        exact(List.Sublist.refl _).append (List.sublist_append_right _ _)) (fun o ho=>.inl ho) (by simp)
  refine hR hno _ _ _ _ hed ?_ (hF.mono (by simp[AV.obj]))
  have:=q1.del (key:=GN.id) Ak hq.iN ⟨(N[i]).n,List.mem_map_of_mem (List.getElem_mem hi),hid⟩
  rw[← this]
  simp only[List.map_append,List.map_take,List.map_drop]
 obtain⟨ce,he1,he2⟩:=h.he
 have fp:∀σ1 σ2 c',Fr σ σ1 []→Fr σ1 σ2 []→(∃ e∈E.map EE.e,e.fr=z∨e.to=z)→K (.Ei (.iface 118 (.int .i64 12))) ⟨σ2,c'⟩:=fun σ1 σ2 c' f1 f2 hx=>hP hx _ _ (f1.trans f2)
 rcases he1 with⟨rfl,rfl,rfl|⟨oe,ge,es',rfl,hoe⟩⟩|⟨rfl,oe,ge,rfl,hoe⟩
 ·exact absurd rfl h.oE
 ·refine Ah rfl rfl ?_
  (conv=>whnf);repeat' (first|(refine Dh fun σ1 f1 h1 l1=>?_;have hE1:=h.P8 f1;have hd1:=hE1.box;have ho1:=f1.get ho (by simp);conv=>whnf)|(apply Ae (hE1.Ux 999999 DY);conv=>whnf)|(refine Aa hbt ?_;rintro _ rfl;conv=>whnf)|(refine Fp ?_;conv=>whnf)|(rw [h1];conv=>whnf)|(rw [hd1];conv=>whnf)|(rw [ho1];conv=>whnf)|refine kA ?_;conv=>whnf|(apply Br.mk<;>intro hc<;>first|exact hc.elim|conv=>whnf)|refine kB ?_)
  all_goals first|(exfalso;omega)|skip
  refine Aei (E:=[]) (c:=true) (by simp) (fun h=>absurd rfl h) (by simp) h1 (fun hx env' σ2 c2 f2=>by simp at hx) (fun hx σ2 c2 tl f2=>?_)
  have hd2:=f2.get hd1 (by simp)
  have ho2:=f2.get ho1 (by simp)
  (conv=>whnf);repeat' (first|(rw [hd2];conv=>whnf)|(rw [ho2];conv=>whnf)|(refine WM (fv:=EN.av) rfl rfl hi rfl ho2 fun σ3 f3 h3=>?_;have hd3:=f3.get hd2 hdo;conv=>whnf)|(rw [hd3];conv=>whnf)|(refine F7 hd3 fun σ4 f4 h4 l4=>?_;conv=>whnf)|refine kA ?_;conv=>whnf|(apply Br.mk<;>intro hc<;>first|exact hc.elim|conv=>whnf)|refine kB ?_)
  all_goals first|exact fin σ2 σ3 σ4 _ _ (f1.trans f2) f3 f4 h3 h4 hx
 ·refine Ah rfl rfl ?_
  (conv=>whnf);repeat' (first|(refine Dh fun σ1 f1 h1 l1=>?_;have hE1:=h.P8 f1;have hd1:=hE1.box;have ho1:=f1.get ho (by simp);have AvC:=f1.get hoe (by simp);conv=>whnf)|(apply Ae (hE1.Ux 999999 DY);conv=>whnf)|(refine Aa hbt ?_;rintro _ rfl;conv=>whnf)|(refine Fp ?_;conv=>whnf)|(rw [h1];conv=>whnf)|(rw [hd1];conv=>whnf)|(rw [ho1];conv=>whnf)|refine kA ?_;conv=>whnf|(apply Br.mk<;>intro hc<;>first|exact hc.elim|conv=>whnf)|refine kB ?_)
  all_goals first|(exfalso;omega)|skip
  refine Aei hlE (fun _=>AvC) hE1.hE h1 (fun hx env' σ2 c2 f2=>fp _ _ _ f1 f2 hx) (fun hx σ2 c2 tl f2=>?_)
  have hd2:=f2.get hd1 (by simp)
  have ho2:=f2.get ho1 (by simp)
  (conv=>whnf);repeat' (first|(rw [hd2];conv=>whnf)|(rw [ho2];conv=>whnf)|(refine WM (fv:=EN.av) rfl rfl hi rfl ho2 fun σ3 f3 h3=>?_;have hd3:=f3.get hd2 hdo;conv=>whnf)|(rw [hd3];conv=>whnf)|(refine F7 hd3 fun σ4 f4 h4 l4=>?_;conv=>whnf)|refine kA ?_;conv=>whnf|(apply Br.mk<;>intro hc<;>first|exact hc.elim|conv=>whnf)|refine kB ?_)
  all_goals first|exact fin σ2 σ3 σ4 _ _ (f1.trans f2) f3 f4 h3 h4 hx
end
def Ba (g:GG) (c:GC):Int×GG:=
 if c.op=1 then
    if∃n∈g.nodes,n.id=c.id then(7,g)else if g.nodes.length<2000 then(0,{g with nn:=true,nodes:=A8 BX GN.id ⟨c.id,false,[],false,[]⟩ g.nodes,BF:=if c.id+1>g.BF then c.id+1 else g.BF})else(20,g)
 else match g.nodes.find? (fun n=>decide (n.id=c.id))with
    |none=>(10,g)
    |some n=>
     if c.op=2 then if∃e∈g.edges,e.fr=c.id∨e.to=c.id then(12,g)else(0,{g with nodes:=Cc BX GN.id c.id g.nodes})
     else if c.op=3 then if c.name∈n.labels then(7,g)else if n.labels.length<8 then(0,{g with nodes:=A8 BX GN.id {n with ln:=true,labels:=A8 Op.bytesLess id c.name n.labels} g.nodes})else(20,g)
     else if c.op=4 then if c.name∈n.labels then(0,{g with nodes:=A8 BX GN.id {n with ln:=true,labels:=Cc Op.bytesLess id c.name n.labels} g.nodes})else(23,g)
     else if isNull c.v then(0,{g with nodes:=A8 BX GN.id {n with props:=Cc Op.bytesLess GP.key c.name n.props} g.nodes})
     else if(∃ p∈n.props,GP.key p=c.name)∨n.props.length<16 then(0,{g with nodes:=A8 BX GN.id {n with pn:=true,props:=A8 Op.bytesLess GP.key ⟨c.name,c.v⟩ n.props} g.nodes})else(20,g)
def BD (g:GG) (c:GC):Int×GG:=
 if c.op=6 then
    if∃n∈g.edges,n.id=c.id then(7,g)else if(∃ n∈g.nodes,n.id=c.fr)∧(∃ n∈g.nodes,n.id=c.to)then
     if g.edges.length<4000 then(0,{g with en:=true,edges:=A8 BX GE.id ⟨c.id,c.fr,c.to,c.name,false,[]⟩ g.edges,BA:=if c.id+1>g.BA then c.id+1 else g.BA})else(20,g)
    else(10,g)
 else match g.edges.find? (fun n=>decide (n.id=c.id))with
    |none=>(11,g)
    |some n=>
     if c.op=7 then(0,{g with edges:=Cc BX GE.id c.id g.edges})
     else if isNull c.v then(0,{g with edges:=A8 BX GE.id {n with props:=Cc Op.bytesLess GP.key c.name n.props} g.edges})
     else if(∃ p∈n.props,GP.key p=c.name)∨n.props.length<16 then(0,{g with edges:=A8 BX GE.id {n with pn:=true,props:=A8 Op.bytesLess GP.key ⟨c.name,c.v⟩ n.props} g.edges})else(20,g)
def stepG (g:GG) (c:GC):Int×GG:=if Il c≠0 then(Il c,g)else if c.op≤5 then Ba g c else BD g c
theorem VY {α:Type} {key:α→Int} {z:Int}:∀{l:List α},Inc BX key l→∀{n:α},n∈l→key n=z→l.find? (fun a=>decide (key a=z))=some n
 |[],_,_,h,_=>by simp at h
 |a::l,hl,n,hn,e=>by
  have hl':=List.pairwise_cons.1 hl
  rcases List.mem_cons.1 hn with rfl|hm
  ·rw[List.find?_cons,decide_eq_true e]
  ·have:=hl'.1 n hm
   simp only[BX,decide_eq_true_eq]at this
   rw[List.find?_cons,decide_eq_false (by omega)]
   exact VY hl'.2 hm e
theorem AdG {α:Type} {key:α→Int} {z:Int} {l:List α} (h:¬∃n∈l,key n=z):l.find? (fun a=>decide (key a=z))=none:=by
 rw[List.find?_eq_none]
 intro a ha e
 exact h ⟨a,ha,of_decide_eq_true e⟩
section
variable {σ:List Obj} {d gd:Nat} {vN vE:AV} {nb eb:Bool} {N:List EN} {E:List EE} {x y:Int} {ct:Nat} {K:Bf→Aq→Prop}
theorem exN {z:Int}:(∃ n∈N.map EN.n,n.id=z)↔∃n∈N,n.n.id=z:=
 ⟨fun ⟨n,hn,e⟩=>by obtain⟨m,hm,rfl⟩:=List.mem_map.1 hn;exact⟨m,hm,e⟩,fun⟨n,hn,e⟩=>⟨n.n,List.mem_map_of_mem hn,e⟩⟩
theorem exE {z:Int}:(∃ n∈E.map EE.e,n.id=z)↔∃n∈E,n.e.id=z:=
 ⟨fun ⟨n,hn,e⟩=>by obtain⟨m,hm,rfl⟩:=List.mem_map.1 hn;exact⟨m,hm,e⟩,fun⟨n,hn,e⟩=>⟨n.e,List.mem_map_of_mem hn,e⟩⟩
def EdG (σ:List Obj) (d gd:Nat) (g:GG):Prop:=∃vN vE nb eb N E x y,Ed σ d gd vN vE nb eb N E x y∧LP nb eb N E x y=g
set_option maxHeartbeats 2000000 in
theorem Anr {c:GC} (h:Ed σ d gd vN vE nb eb N E x y) (hq:Ask N E x y) (hop:1≤c.op∧c.op≤5) (hz:Jw c.id) (hv:c.v.ok)
 (hP:∀e,(Ba (LP nb eb N E x y) c)=(e,LP nb eb N E x y)→∀σ' c',Fr σ σ' []→K (.Ei (.iface 118 (.int .i64 e))) ⟨σ',c'⟩)
 (hR:∀g',Ba (LP nb eb N E x y) c=(0,g')→∀σ' c',EdG σ' d gd g'→Fr σ σ' (d::(vN.obj++(vE.obj++Cj N E)))→K (.ok (.BG [])) ⟨σ',c'⟩):
 Am (Ac tab) 85 [.ref d gd 0 0,c.av] ⟨σ,ct⟩ K:=by
 obtain⟨op,z,fr,to,nm,v⟩:=c
 dsimp only at hop hz hv
 by_cases h1:op=1
 ·subst h1
  refine Ant h hq hz (fun hf σ' c' f=>hP 7 ?_ σ' c' f) (fun hf hl σ' c' f=>hP 20 ?_ σ' c' f) (fun hf hl σ' c' Zm N' he hN f=>hR _ ?_ σ' c' ⟨_,_,_,_,_,_,_,_,he,rfl⟩ f)
  ·show Ba ⟨nb,N.map EN.n,eb,E.map EE.e,x,y⟩ _=(_,⟨_,_,_,_,_,_⟩);simp only[Ba,exN,if_true];rw[if_pos hf]
  ·show Ba ⟨nb,N.map EN.n,eb,E.map EE.e,x,y⟩ _=(_,⟨_,_,_,_,_,_⟩);simp only[Ba,exN,if_true];rw[if_neg hf,if_neg (show ¬(N.map EN.n).length<2000 by rw[List.length_map];exact hl)]
  ·show Ba ⟨nb,N.map EN.n,eb,E.map EE.e,x,y⟩ _=(_,⟨_,_,_,_,_,_⟩);simp only[Ba,exN,if_true,hN];rw[if_neg hf,if_pos (show (N.map EN.n).length<2000 by rw[List.length_map];exact hl)]
 by_cases hf:∃n∈N,n.n.id=z
 rotate_left
 ·have e:=AdG (key:=GN.id) (by rw[exN];exact hf)
  refine Aka h hq hz (by omega) hf fun σ' c' f=>hP 10 ?_ σ' c' f
  show Ba ⟨nb,N.map EN.n,eb,E.map EE.e,x,y⟩ _=(_,⟨_,_,_,_,_,_⟩);simp only[Ba,if_neg h1,e]
 have fd:∀n∈N.map EN.n,n.id=z→(N.map EN.n).find? (fun n=>decide (n.id=z))=some n:=fun n hn e=>VY hq.iN hn e
 by_cases h2:op=2
 ·subst h2
  obtain⟨n,hn,e⟩:=exN.2 hf
  refine Anu h hq hf (fun hx σ' c' f=>hP 12 ?_ σ' c' f) (fun hx σ' c' Zm N' he hN f=>hR _ ?_ σ' c' ⟨_,_,_,_,_,_,_,_,he,rfl⟩ f)
  ·show Ba ⟨nb,N.map EN.n,eb,E.map EE.e,x,y⟩ _=(_,⟨_,_,_,_,_,_⟩);simp only[Ba,fd n hn e];rw[if_neg (by decide),if_pos trivial,if_pos hx]
  ·show Ba ⟨nb,N.map EN.n,eb,E.map EE.e,x,y⟩ _=(_,⟨_,_,_,_,_,_⟩);simp only[Ba,fd n hn e,hN];rw[if_neg (by decide),if_pos trivial,if_neg hx]
 by_cases h3:op=3
 ·subst h3
  refine Anv h hq hz hf (fun hx σ' c' f=>hP 7 ?_ σ' c' f) (fun hx σ' c' f=>hP 20 ?_ σ' c' f) (fun n hn e hx hl σ' c' N' he hN f=>hR _ ?_ σ' c' ⟨_,_,_,_,_,_,_,_,he,rfl⟩ f)
  ·obtain⟨n,hn,e,hx⟩:=hx
   show Ba ⟨nb,N.map EN.n,eb,E.map EE.e,x,y⟩ _=(_,⟨_,_,_,_,_,_⟩);simp only[Ba,fd n hn e];rw[if_neg (by decide),if_neg (by decide),if_pos trivial,if_pos hx]
  ·obtain⟨n,hn,e,hx,hl⟩:=hx
   show Ba ⟨nb,N.map EN.n,eb,E.map EE.e,x,y⟩ _=(_,⟨_,_,_,_,_,_⟩);simp only[Ba,fd n hn e];rw[if_neg (by decide),if_neg (by decide),if_pos trivial,if_neg hx,if_neg hl]
  ·show Ba ⟨nb,N.map EN.n,eb,E.map EE.e,x,y⟩ _=(_,⟨_,_,_,_,_,_⟩);simp only[Ba,fd n hn e,hN];rw[if_neg (by decide),if_neg (by decide),if_pos trivial,if_neg hx,if_pos hl]
 by_cases h4:op=4
 ·subst h4
  refine Anw h hq hz hf (fun hx σ' c' f=>hP 23 ?_ σ' c' f) (fun n hn e hx σ' c' N' he hN f=>hR _ ?_ σ' c' ⟨_,_,_,_,_,_,_,_,he,rfl⟩ f)
  ·obtain⟨n,hn,e,hx⟩:=hx
   show Ba ⟨nb,N.map EN.n,eb,E.map EE.e,x,y⟩ _=(_,⟨_,_,_,_,_,_⟩);simp only[Ba,fd n hn e];rw[if_neg (by decide),if_neg (by decide),if_neg (by decide),if_pos trivial,if_neg hx]
  ·show Ba ⟨nb,N.map EN.n,eb,E.map EE.e,x,y⟩ _=(_,⟨_,_,_,_,_,_⟩);simp only[Ba,fd n hn e,hN];rw[if_neg (by decide),if_neg (by decide),if_neg (by decide),if_pos trivial,if_pos hx]
 obtain rfl:op=5:=by omega
 refine Anx h hq hz hv hf (fun hx σ' c' f=>hP 20 ?_ σ' c' f) (fun n hn e hx σ' c' N' he hN f=>hR _ ?_ σ' c' ⟨_,_,_,_,_,_,_,_,he,rfl⟩ f) (fun n hn e hx hl σ' c' N' he hN f=>hR _ ?_ σ' c' ⟨_,_,_,_,_,_,_,_,he,rfl⟩ f)
 ·obtain⟨n,hn,e,hx,hk,hl⟩:=hx
  show Ba ⟨nb,N.map EN.n,eb,E.map EE.e,x,y⟩ _=(_,⟨_,_,_,_,_,_⟩);simp only[Ba,fd n hn e];rw[if_neg (by decide),if_neg (by decide),if_neg (by decide),if_neg (by decide),if_neg hx,if_neg (fun h=>h.elim hk hl)]
 ·show Ba ⟨nb,N.map EN.n,eb,E.map EE.e,x,y⟩ _=(_,⟨_,_,_,_,_,_⟩);simp only[Ba,fd n hn e,hN];rw[if_neg (by decide),if_neg (by decide),if_neg (by decide),if_neg (by decide),if_pos hx]
 ·show Ba ⟨nb,N.map EN.n,eb,E.map EE.e,x,y⟩ _=(_,⟨_,_,_,_,_,_⟩);simp only[Ba,fd n hn e,hN];rw[if_neg (by decide),if_neg (by decide),if_neg (by decide),if_neg (by decide),if_neg hx,if_pos hl]
set_option maxHeartbeats 2000000 in
theorem Anz {c:GC} (h:Ed σ d gd vN vE nb eb N E x y) (hq:Ask N E x y) (hop:6≤c.op∧c.op≤8) (hz:Jw c.id) (hv:c.v.ok)
 (hP:∀e,(BD (LP nb eb N E x y) c)=(e,LP nb eb N E x y)→∀σ' c',Fr σ σ' []→K (.Ei (.iface 118 (.int .i64 e))) ⟨σ',c'⟩)
 (hR:∀g',BD (LP nb eb N E x y) c=(0,g')→∀σ' c',EdG σ' d gd g'→Fr σ σ' (d::(vN.obj++(vE.obj++Cj N E)))→K (.ok (.BG [])) ⟨σ',c'⟩):
 Am (Ac tab) 86 [.ref d gd 0 0,c.av] ⟨σ,ct⟩ K:=by
 obtain⟨op,z,fr,to,nm,v⟩:=c
 dsimp only at hop hz hv
 by_cases h1:op=6
 ·subst h1
  refine AnA h hq hz (fun hf σ' c' f=>hP 7 ?_ σ' c' f) (fun hf hm σ' c' f=>hP 10 ?_ σ' c' f) (fun hf hm hl σ' c' f=>hP 20 ?_ σ' c' f) (fun hf hm hl σ' c' Zm N' he hN f=>hR _ ?_ σ' c' ⟨_,_,_,_,_,_,_,_,he,rfl⟩ f)
  ·show BD ⟨nb,N.map EN.n,eb,E.map EE.e,x,y⟩ _=(_,⟨_,_,_,_,_,_⟩);simp only[BD,exN,exE,if_true];rw[if_pos hf]
  ·show BD ⟨nb,N.map EN.n,eb,E.map EE.e,x,y⟩ _=(_,⟨_,_,_,_,_,_⟩);simp only[BD,exN,exE,if_true];rw[if_neg hf,if_neg hm]
  ·show BD ⟨nb,N.map EN.n,eb,E.map EE.e,x,y⟩ _=(_,⟨_,_,_,_,_,_⟩);simp only[BD,exN,exE,if_true];rw[if_neg hf,if_pos hm,if_neg (show ¬(E.map EE.e).length<4000 by rw[List.length_map];exact hl)]
  ·show BD ⟨nb,N.map EN.n,eb,E.map EE.e,x,y⟩ _=(_,⟨_,_,_,_,_,_⟩);simp only[BD,exN,exE,if_true,hN];rw[if_neg hf,if_pos hm,if_pos (show (E.map EE.e).length<4000 by rw[List.length_map];exact hl)]
 by_cases hf:∃n∈E,n.e.id=z
 rotate_left
 ·have e:=AdG (key:=GE.id) (by rw[exE];exact hf)
  refine Akb h hq (by omega) hf fun σ' c' f=>hP 11 ?_ σ' c' f
  show BD ⟨nb,N.map EN.n,eb,E.map EE.e,x,y⟩ _=(_,⟨_,_,_,_,_,_⟩);simp only[BD,if_neg h1,e]
 have fd:∀n∈E.map EE.e,n.id=z→(E.map EE.e).find? (fun n=>decide (n.id=z))=some n:=fun n hn e=>VY hq.iE hn e
 by_cases h2:op=7
 ·subst h2
  obtain⟨n,hn,e⟩:=exE.2 hf
  refine AnB h hq hf (fun σ' c' Zm N' he hN f=>hR _ ?_ σ' c' ⟨_,_,_,_,_,_,_,_,he,rfl⟩ f)
  show BD ⟨nb,N.map EN.n,eb,E.map EE.e,x,y⟩ _=(_,⟨_,_,_,_,_,_⟩);simp only[BD,fd n hn e,hN];rw[if_neg (by decide),if_pos trivial]
 obtain rfl:op=8:=by omega
 refine AnC h hq hv hf (fun hx σ' c' f=>hP 20 ?_ σ' c' f) (fun n hn e hx σ' c' N' he hN f=>hR _ ?_ σ' c' ⟨_,_,_,_,_,_,_,_,he,rfl⟩ f) (fun n hn e hx hl σ' c' N' he hN f=>hR _ ?_ σ' c' ⟨_,_,_,_,_,_,_,_,he,rfl⟩ f)
 ·obtain⟨n,hn,e,hx,hk,hl⟩:=hx
  show BD ⟨nb,N.map EN.n,eb,E.map EE.e,x,y⟩ _=(_,⟨_,_,_,_,_,_⟩);simp only[BD,fd n hn e];rw[if_neg (by decide),if_neg (by decide),if_neg hx,if_neg (fun h=>h.elim hk hl)]
 ·show BD ⟨nb,N.map EN.n,eb,E.map EE.e,x,y⟩ _=(_,⟨_,_,_,_,_,_⟩);simp only[BD,fd n hn e,hN];rw[if_neg (by decide),if_neg (by decide),if_pos hx]
 ·show BD ⟨nb,N.map EN.n,eb,E.map EE.e,x,y⟩ _=(_,⟨_,_,_,_,_,_⟩);simp only[BD,fd n hn e,hN];rw[if_neg (by decide),if_neg (by decide),if_neg hx,if_pos hl]
end
section
variable {α κ:Type} {lt:κ→κ→Bool} {key:α→κ}
theorem ZR (hs:Ov lt) {k:κ}:∀{l:List α},(below lt key k l).length+(above lt key k l).length≤l.length
 |[]=>by simp[below,above]
 |a::l=>by
  have ih:=ZR hs (k:=k) (l:=l)
  unfold below above at ih ⊢
  cases h1:lt (key a) k<;>cases h2:lt k (key a)
  ·rw[List.filter_cons_of_neg (by simp[h1]),List.filter_cons_of_neg (by simp[h2])];simp;omega
  ·rw[List.filter_cons_of_neg (by simp[h1]),List.filter_cons_of_pos (by simp[h2])];simp;omega
  ·rw[List.filter_cons_of_pos (by simp[h1]),List.filter_cons_of_neg (by simp[h2])];simp;omega
  ·have:=hs.tr _ _ _ h1 h2;rw[hs.Oc]at this;cases this
theorem Aee (hs:Ov lt) {k:κ}:∀{l:List α},(∃ y∈l,key y=k)→(below lt key k l).length+(above lt key k l).length+1≤l.length
 |[],h=>by simp at h
 |a::l,h=>by
  by_cases hk:key a=k
  ·have ih:=ZR hs (key:=key) (k:=k) (l:=l)
   unfold below above at ih ⊢
   have h1:lt (key a) k=false:=by rw[hk];exact hs.Oc _
   have h2:lt k (key a)=false:=by rw[hk];exact hs.Oc _
   rw[List.filter_cons_of_neg (by simp[h1]),List.filter_cons_of_neg (by simp[h2])];simp;omega
  ·have hm:∃y∈l,key y=k:=by
        obtain⟨y,hy,e⟩:=h
        rcases List.mem_cons.1 hy with rfl|hy
        ·exact absurd e hk
        ·exact⟨y,hy,e⟩
   have ih:=Aee hs hm
   unfold below above at ih ⊢
   cases h1:lt (key a) k<;>cases h2:lt k (key a)
   ·rw[List.filter_cons_of_neg (by simp[h1]),List.filter_cons_of_neg (by simp[h2])];simp;omega
   ·rw[List.filter_cons_of_neg (by simp[h1]),List.filter_cons_of_pos (by simp[h2])];simp;omega
   ·rw[List.filter_cons_of_pos (by simp[h1]),List.filter_cons_of_neg (by simp[h2])];simp;omega
   ·have:=hs.tr _ _ _ h1 h2;rw[hs.Oc]at this;cases this
theorem EC (hs:Ov lt) {x:α} {l:List α}:(A8 lt key x l).length≤l.length+1:=by
 have:=ZR hs (key:=key) (k:=key x) (l:=l)
 simp only[A8,List.length_append,List.length_singleton];omega
theorem Io (hs:Ov lt) {x:α} {l:List α} (h:∃y∈l,key y=key x):(A8 lt key x l).length≤l.length:=by
 have:=Aee hs (key:=key) (k:=key x) (l:=l) h
 simp only[A8,List.length_append,List.length_singleton];omega
theorem Dz (hs:Ov lt) {k:κ} {l:List α}:(Cc lt key k l).length≤l.length:=by
 have:=ZR hs (key:=key) (k:=k) (l:=l)
 simp only[Cc,List.length_append];omega
end
structure YE (n:GN):Prop where
 iL:Inc Op.bytesLess id n.labels
 lL:n.labels.length≤8
 iP:Inc Op.bytesLess GP.key n.props
 lP:n.props.length≤16
structure YF (n:GE):Prop where
 iP:Inc Op.bytesLess GP.key n.props
 lP:n.props.length≤16
structure Ef (g:GG):Prop where
 lN:g.nodes.length≤2000
 lE:g.edges.length≤4000
 iN:Inc BX GN.id g.nodes
 iE:Inc BX GE.id g.edges
 aN:∀n∈g.nodes,YE n
 aE:∀n∈g.edges,YF n
 bx:-2^62≤g.BF∧g.BF≤2^62
 by_:-2^62≤g.BA∧g.BA≤2^62
theorem Ef.ask {nb eb:Bool} {N:List EN} {E:List EE} {x y:Int} (h:Ef (LP nb eb N E x y)):Ask N E x y where
 lN:=by have:=h.lN;simpa[LP]using this
 lE:=by have:=h.lE;simpa[LP]using this
 iN:=h.iN
 iE:=h.iE
 iL:=fun e he=>by have:=h.aN e.n (List.mem_map_of_mem he);exact⟨this.iL,this.lL⟩
 iP:=fun e he=>by have:=h.aN e.n (List.mem_map_of_mem he);exact⟨this.iP,this.lP⟩
 iQ:=fun e he=>by have:=h.aE e.e (List.mem_map_of_mem he);exact⟨this.iP,this.lP⟩
 bx:=h.bx
 by_:=h.by_
theorem Ef.Lu {g:GG} (h:Ef g) {n:GN} (hn:YE n) (hm:∃m∈g.nodes,m.id=n.id):Ef {g with nodes:=A8 BX GN.id n g.nodes}:=
 {h with
  lN:=Nat.le_trans (Io Ak hm) h.lN
  iN:=EK Ak h.iN
  aN:=fun m hm=>by rcases Bq Ak hm with rfl|hm;exact hn;exact h.aN _ hm}
theorem Ef.Tn {g:GG} (h:Ef g) {n:GE} (hn:YF n) (hm:∃m∈g.edges,m.id=n.id):Ef {g with edges:=A8 BX GE.id n g.edges}:=
 {h with
  lE:=Nat.le_trans (Io Ak hm) h.lE
  iE:=EK Ak h.iE
  aE:=fun m hm=>by rcases Bq Ak hm with rfl|hm;exact hn;exact h.aE _ hm}
theorem Et {α:Type} {p:α→Bool} {l:List α} {n:α} (h:l.find? p=some n):n∈l∧p n=true:=⟨List.mem_of_find?_eq_some h,List.find?_some h⟩
theorem Ef.node {g:GG} (h:Ef g) {c:GC} (hid:Jw c.id):Ef (Ba g c).2:=by
 unfold Ba
 split
 ·split
  ·exact h
  split
  ·rename_i hl
   exact{h with
        lN:=by have:=EC (key:=GN.id) Ak (x:=⟨c.id,false,[],false,[]⟩) (l:=g.nodes);show(A8 BX GN.id _ g.nodes).length≤2000;omega
        iN:=EK Ak h.iN
        aN:=fun m hm=>by
         rcases Bq Ak hm with rfl|hm
         ·exact⟨List.Pairwise.nil,by simp,List.Pairwise.nil,by simp⟩
         ·exact h.aN _ hm
        bx:=by have:=h.bx;have:=hid.2;have:=hid.1;show _≤(if c.id+1>g.BF then c.id+1 else g.BF)∧(if c.id+1>g.BF then c.id+1 else g.BF)≤_;split<;>omega}
  ·exact h
 split
 ·exact h
 rename_i n hf
 obtain⟨hn,hz⟩:=Et hf
 replace hz:=of_decide_eq_true hz
 have ha:=h.aN n hn
 split
 ·split
  ·exact h
  ·exact{h with lN:=Nat.le_trans (Dz Ak) h.lN,iN:=EJ Ak h.iN,aN:=fun m hm=>h.aN m (Ce hm)}
 split
 ·split
  ·exact h
  split
  ·rename_i hl
   exact h.Lu ⟨EK Ai ha.iL,Nat.le_trans (EC Ai) (by omega),ha.iP,ha.lP⟩ ⟨n,hn,rfl⟩
  ·exact h
 split
 ·split
  ·exact h.Lu ⟨EJ Ai ha.iL,Nat.le_trans (Dz Ai) ha.lL,ha.iP,ha.lP⟩ ⟨n,hn,rfl⟩
  ·exact h
 split
 ·exact h.Lu ⟨ha.iL,ha.lL,EJ Ai ha.iP,Nat.le_trans (Dz Ai) ha.lP⟩ ⟨n,hn,rfl⟩
 split
 ·rename_i hx
  refine h.Lu ⟨ha.iL,ha.lL,EK Ai ha.iP,?_⟩ ⟨n,hn,rfl⟩
  rcases hx with hx|hx
  ·exact Nat.le_trans (Io Ai hx) ha.lP
  ·exact Nat.le_trans (EC Ai) (by omega)
 ·exact h
theorem Ef.edge {g:GG} (h:Ef g) {c:GC} (hid:Jw c.id):Ef (BD g c).2:=by
 unfold BD
 split
 ·split
  ·exact h
  split
  ·split
   ·rename_i hl
    exact{h with
     lE:=by have:=EC (key:=GE.id) Ak (x:=⟨c.id,c.fr,c.to,c.name,false,[]⟩) (l:=g.edges);show(A8 BX GE.id _ g.edges).length≤4000;omega
     iE:=EK Ak h.iE
     aE:=fun m hm=>by
      rcases Bq Ak hm with rfl|hm
      ·exact⟨List.Pairwise.nil,by simp⟩
      ·exact h.aE _ hm
     by_:=by have:=h.by_;have:=hid.2;have:=hid.1;show _≤(if c.id+1>g.BA then c.id+1 else g.BA)∧(if c.id+1>g.BA then c.id+1 else g.BA)≤_;split<;>omega}
   ·exact h
  ·exact h
 split
 ·exact h
 rename_i n hf
 obtain⟨hn,hz⟩:=Et hf
 have ha:=h.aE n hn
 split
 ·exact{h with lE:=Nat.le_trans (Dz Ak) h.lE,iE:=EJ Ak h.iE,aE:=fun m hm=>h.aE m (Ce hm)}
 split
 ·exact h.Tn ⟨EJ Ai ha.iP,Nat.le_trans (Dz Ai) ha.lP⟩ ⟨n,hn,rfl⟩
 split
 ·rename_i hx
  refine h.Tn ⟨EK Ai ha.iP,?_⟩ ⟨n,hn,rfl⟩
  rcases hx with hx|hx
  ·exact Nat.le_trans (Io Ai hx) ha.lP
  ·exact Nat.le_trans (EC Ai) (by omega)
 ·exact h
theorem Ef.step {g:GG} (h:Ef g) {c:GC}:Ef (stepG g c).2:=by
 unfold stepG
 split
 ·exact h
 rename_i hk
 have h0:=Ae1 (Classical.not_not.1 hk)
 split
 ·exact h.node h0.2.1
 ·exact h.edge h0.2.1
section
variable {AP:Nat→Option Jc}
def AiJ (D:DFn) (K:Bf→Aq→Prop) (env:Env) (s:Aq):Prop:=Oh (FP env s D.results) fun vs=>K (.ok (JG vs)) s
def Ac5 (AP:Nat→Option Jc) (D:DFn) (K:Bf→Aq→Prop) (c v:AV) (env:Env) (s:Aq):Prop:=match v with
 | .iface t (.int k n)=>need (t=D.tag) (MS AP (.store 1 (.cst c) (.cst (.int k n))) [] s fun out s'=>match out with
   | .ok _=>AiJ D K env s'
   | .Ei _=>False)
 |_=>False
def AsT (AP:Nat→Option Jc) (D:DFn) (K:Bf→Aq→Prop) (AvB:Env) (e:Aw) (env:Env) (s:Aq):Prop:=match e with
 | .normal=>AiJ D K env s
 | .ret=>AiJ D K env s
 | .Ei v=>Ac5 AP D K (AvB.get D.cell) v env s
 | .exit _=>False
def AsU (AP:Nat→Option Jc) (D:DFn) (K:Bf→Aq→Prop) (e:Aw) (env:Env) (s:Aq):Prop:=match e with
 | .ret=>AiJ D K env s
 | .Ei v=>K (.Ei v) s
 | .normal=>match env.get D.tcl with
   | .junk=>vC AP D.post env s (AsT AP D K env)
   |_=>False
 | .exit _=>False
theorem SH {D:DFn} {K:Bf→Aq→Prop} {env:Env} {s:Aq} (h:AiJ D K env s):∃out s',Aag D env s=some (out,s')∧K out s':=by
 obtain⟨vs,h1,h2⟩:=h
 exact⟨_,_,by simp only[Aag,h1,Option.map_some],h2⟩
theorem Ac6 {D:DFn} {K:Bf→Aq→Prop} {c v:AV} {env:Env} {s:Aq} (h:Ac5 AP D K c v env s):∃N out s',Qw (run AP N) D c v env s=some (out,s')∧K out s':=by
 unfold Ac5 at h
 split at h
 ·obtain⟨rfl,h⟩:=h
  obtain⟨N,out,s1,h1,h2⟩:=Jb h
  cases out with
  |ok u=>
   obtain⟨out,s',h3,h4⟩:=SH h2
   exact⟨N,out,s',by simp only[Qw,if_true,h1];exact h3,h4⟩
  |Ei u=>cases h2
 ·cases h
theorem AfA {f:Nat} {D:DFn} {args:List AV} {s:Aq} {K:Bf→Aq→Prop} (hf:AP f=some (.dfr D)) (hl:args.length=D.np) (h:vC AP (.seq D.Acx D.pre2) (params args 0) s (AsU AP D K)):Am AP f args s K:=by
 obtain⟨N,e,env,s1,h1,h2⟩:=KH h
 cases e with
 |ret=>
  obtain⟨out,s',h3,h4⟩:=SH h2
  exact⟨N+1,out,s',by simp only[run,hf,if_pos hl,evD,h1];exact h3,h4⟩
 |Ei v=>exact⟨N+1,_,_,by simp only[run,hf,if_pos hl,evD,h1],h2⟩
 |exit id=>cases h2
 |normal=>
  simp only[AsU]at h2
  split at h2
  ·rename_i hj
   obtain⟨M,e2,Ih,s2,h3,h4⟩:=KH h2
   have h1':=fun P=>Du (BP (AP:=AP) (Nat.le_max_left N P)) (Nat.le_max_left N P) h1
   cases e2 with
   |normal=>
    obtain⟨out,s',h5,h6⟩:=SH h4
    have h3':=Du (BP (AP:=AP) (Nat.le_max_right N M)) (Nat.le_max_right N M) h3
    exact⟨max N M+1,out,s',by simp only[run,hf,if_pos hl,evD,h1' M,hj,h3'];exact h5,h6⟩
   |ret=>
    obtain⟨out,s',h5,h6⟩:=SH h4
    have h3':=Du (BP (AP:=AP) (Nat.le_max_right N M)) (Nat.le_max_right N M) h3
    exact⟨max N M+1,out,s',by simp only[run,hf,if_pos hl,evD,h1' M,hj,h3'];exact h5,h6⟩
   |Ei v=>
    obtain⟨P,out,s',h5,h6⟩:=Ac6 h4
    have h3':=Du (BP (AP:=AP) (show M≤max N (max M P) by omega)) (show M≤max N (max M P) by omega) h3
    have h5':=Ut (BP (AP:=AP) (show P≤max N (max M P) by omega)) h5
    exact⟨max N (max M P)+1,out,s',by simp only[run,hf,if_pos hl,evD,h1' (max M P),hj,h3'];exact h5',h6⟩
   |exit id=>cases h4
  ·cases h2
end
section
variable {σ:List Obj} {d gd:Nat} {vN vE:AV} {nb eb:Bool} {N:List EN} {E:List EE} {x y:Int} {ct:Nat} {K:Bf→Aq→Prop}
theorem Ed.Ak2 {σ:List Obj} {d gd:Nat} {vN vE:AV} {nb eb:Bool} {N:List EN} {E:List EE} {x y:Int} (h:Ed σ d gd vN vE nb eb N E x y) {o g:Nat} {c:Bool} {k:IntKind} {z:Int} (ho:nth σ o=some (.arr g 1 true c [.int k z])):∀q∈d::(vN.obj++(vE.obj++Cj N E)),q∉[o]:=by
 intro q hq hm
 obtain rfl:q=o:=by simpa using hm
 obtain⟨cn,hn1,_⟩:=h.hn
 obtain⟨ce,he1,_⟩:=h.he
 rcases List.mem_cons.1 hq with rfl|hq
 ·have:=h.box;rw[ho]at this;simp at this
 rcases List.mem_append.1 hq with hq|hq
 ·exact hn1.diff ho (by decide) hq
 rcases List.mem_append.1 hq with hq|hq
 ·exact he1.diff ho (by decide) hq
 rcases List.mem_append.1 hq with hq|hq<;>obtain⟨e,he,hm⟩:=List.mem_flatMap.1 hq
 ·rcases List.mem_append.1 hm with hm|hm
  ·rcases(h.hN e he).1 with⟨_,_,h1|⟨o',g',es',h1,h2⟩⟩|⟨_,o',g',h1,h2⟩
   ·rw[h1]at hm;simp[AV.obj]at hm
   ·rw[h1]at hm;simp only[AV.obj,List.mem_singleton]at hm;subst hm;rw[ho]at h2;simp at h2
   ·rw[h1]at hm;simp only[AV.obj,List.mem_singleton]at hm;subst hm;rw[ho]at h2
    simp only[Option.some.injEq,Obj.arr.injEq]at h2
    have:=h2.2.2.2.2
    cases hl:e.n.labels with
    |nil=>rw[hl]at this;simp[vs]at this
    |cons a l=>rw[hl]at this;simp[vs]at this
  ·exact(h.hN e he).2.diff ho (by decide) hm
 ·exact Hd.diff (h.hE e he) ho (by decide) hm
theorem EdG.cell {σ σ':List Obj} {d gd:Nat} {g:GG} (h:EdG σ d gd g) {o u:Nat} {c:Bool} {k:IntKind} {z:Int} (ho:nth σ o=some (.arr u 1 true c [.int k z])) (f:Fr σ σ' [o]):EdG σ' d gd g:=by
 obtain⟨vN,vE,nb,eb,N,E,x,y,hE,e⟩:=h
 exact⟨_,_,_,_,_,_,_,_,hE.fr f (hE.Ak2 ho),e⟩
theorem AhM {σ:List Obj} {o g c':Nat} {nn cl:Bool} {z:Int} (h:nth σ o=some (.arr g 1 nn cl [.int .i64 z])):FP [(4,.ref o g 0 0)] ⟨σ,c'⟩ Vr.results=some [.int .i64 z]:=by
 show(match I7 [(4,.ref o g 0 0)] ⟨σ,c'⟩ (.cell 4 none),FP [(4,.ref o g 0 0)] ⟨σ,c'⟩ []with
  |some v,some vs=>some (v::vs)
  |_,_=>none)=_
 have e:I7 [(4,.ref o g 0 0)] ⟨σ,c'⟩ (.cell 4 none)=some (.int .i64 z):=by
  simp[I7,Env.get,h,nth,AV.cells,loadCells]
 rw[e]
 rfl
set_option maxHeartbeats 4000000 in
theorem stepW {c:GC} (h:Ed σ d gd vN vE nb eb N E x y) (hq:Ask N E x y) (hok:c.ok)
 (hR:∀σ' c',EdG σ' d gd (stepG (LP nb eb N E x y) c).2→Fr σ σ' (d::(vN.obj++(vE.obj++Cj N E)))→K (.ok (.int .i64 (stepG (LP nb eb N E x y) c).1)) ⟨σ',c'⟩):
 Am (Ac tab) 37 [.ref d gd 0 0,c.av] ⟨σ,ct⟩ K:=by
 have hck:=AqN hok
 have hlt:=h.QJ
 have hdl:=Dc h.box
 have hv:c.v.ok:=hok.2.2.2.2.2
 have h0:=fun(h0:Il c=0)=>Ae1 h0
 obtain⟨op,z,fr,to,nm,v⟩:=c
 refine AfA rfl rfl ?_
 show vC _ _ [(0,.ref d gd 0 0),(1,.agg [.int .i64 op,.int .i64 z,.int .i64 fr,.int .i64 to,.str nm,.int .i64 v.k,.int .i64 v.n,.int .i64 v.d,.str v.s,.sl v.nn v.l])] _ _
 conv=>whnf
 (conv=>whnf);repeat' (first|(refine Dh fun σ2 f2 h2 l2=>?_;have h12:=f2.get h1 (by simp);have hE2:=(h.P8 f1).P8 f2;have f02:=f1.trans f2;conv=>whnf)|(refine Dh fun σ1 f1 h1 l1=>?_;conv=>whnf)|(refine Aa hck ?_;rintro _ rfl;conv=>whnf)|(rw [h12];conv=>whnf)|(rw [h2];conv=>whnf)|(refine F7 h2 fun σ3 f3 h3 l3=>?_;conv=>whnf)|(rw [h3];conv=>whnf)|refine kA ?_;conv=>whnf|(apply Br.mk<;>intro hc<;>first|exact hc.elim|conv=>whnf)|refine kB ?_)
 all_goals have hns:∀q∈d::(vN.obj++(vE.obj++Cj N E)),q<σ.length:=hlt
 all_goals have l1':σ1.length=σ.length+1:=l1
 ·have hk:Il (GC.mk op z fr to nm v)=0:=by assumption
  have h0':=h0 hk
  have hs:stepG (LP nb eb N E x y) ⟨op,z,fr,to,nm,v⟩=Ba (LP nb eb N E x y) ⟨op,z,fr,to,nm,v⟩:=by
   unfold stepG;rw[if_neg (fun h=>h hk),if_pos hc]
  refine Anr hE2 hq ⟨h0'.1.1,hc⟩ h0'.2.1 hv (fun e he σ' c' f=>?_) (fun g' hg σ' c' hE' f=>?_)
  ·have hz3:=f.get h2 (by simp)
   (conv=>whnf);repeat' (first|(rw [hz3];conv=>whnf)|(refine F7 hz3 fun σ4 f4 h4 l4=>?_;conv=>whnf)|refine kA ?_;conv=>whnf|(apply Br.mk<;>intro hc<;>first|exact hc.elim|conv=>whnf)|refine kB ?_)
   refine⟨_,AhM h4,?_⟩
   rw[hs,he]at hR
   have ff:Fr σ σ4 []:=(((f02.trans f).mono (by simp)).trans f4).mono (by simp;omega)
   exact hR _ _ ⟨_,_,_,_,_,_,_,_,h.P8 ff,rfl⟩ (ff.mono (by simp))
  ·have hz3:=f.get h2 (fun hm=>by have:=hns _ hm;dsimp only at this;omega)
   (conv=>whnf);repeat' (first|(rw [hz3];conv=>whnf)|(refine F7 hz3 fun σ4 f4 h4 l4=>?_;conv=>whnf)|refine kA ?_;conv=>whnf|(apply Br.mk<;>intro hc<;>first|exact hc.elim|conv=>whnf)|refine kB ?_)
   refine⟨_,AhM h4,?_⟩
   rw[hs,hg]at hR
   refine hR _ _ (hE'.cell hz3 f4) ((((f02.mono (F':=σ1.length::(d::(vN.obj++(vE.obj++Cj N E)))) (by simp)).trans (f.mono (by intro q hq;exact .inl (List.mem_cons_of_mem _ hq)))).trans (f4.mono (by simp))).mono fun q hq=>?_)
   rcases List.mem_cons.1 hq with rfl|hq
   ·exact .inr (by omega)
   ·exact .inl hq
 ·have hk:Il (GC.mk op z fr to nm v)=0:=by assumption
  have h0':=h0 hk
  have hs:stepG (LP nb eb N E x y) ⟨op,z,fr,to,nm,v⟩=BD (LP nb eb N E x y) ⟨op,z,fr,to,nm,v⟩:=by
   unfold stepG;rw[if_neg (fun h=>h hk),if_neg hc]
  refine Anz hE2 hq ⟨show 6≤op by omega,h0'.1.2⟩ h0'.2.1 hv (fun e he σ' c' f=>?_) (fun g' hg σ' c' hE' f=>?_)
  ·have hz3:=f.get h2 (by simp)
   (conv=>whnf);repeat' (first|(rw [hz3];conv=>whnf)|(refine F7 hz3 fun σ4 f4 h4 l4=>?_;conv=>whnf)|refine kA ?_;conv=>whnf|(apply Br.mk<;>intro hc<;>first|exact hc.elim|conv=>whnf)|refine kB ?_)
   refine⟨_,AhM h4,?_⟩
   rw[hs,he]at hR
   have ff:Fr σ σ4 []:=(((f02.trans f).mono (by simp)).trans f4).mono (by simp;omega)
   exact hR _ _ ⟨_,_,_,_,_,_,_,_,h.P8 ff,rfl⟩ (ff.mono (by simp))
  ·have hz3:=f.get h2 (fun hm=>by have:=hns _ hm;dsimp only at this;omega)
   (conv=>whnf);repeat' (first|(rw [hz3];conv=>whnf)|(refine F7 hz3 fun σ4 f4 h4 l4=>?_;conv=>whnf)|refine kA ?_;conv=>whnf|(apply Br.mk<;>intro hc<;>first|exact hc.elim|conv=>whnf)|refine kB ?_)
   refine⟨_,AhM h4,?_⟩
   rw[hs,hg]at hR
   refine hR _ _ (hE'.cell hz3 f4) ((((f02.mono (F':=σ1.length::(d::(vN.obj++(vE.obj++Cj N E)))) (by simp)).trans (f.mono (by intro q hq;exact .inl (List.mem_cons_of_mem _ hq)))).trans (f4.mono (by simp))).mono fun q hq=>?_)
   rcases List.mem_cons.1 hq with rfl|hq
   ·exact .inr (by omega)
   ·exact .inl hq
 ·have hk:Il (GC.mk op z fr to nm v)≠0:=by assumption
  refine⟨_,AhM h3,?_⟩
  have hs:stepG (LP nb eb N E x y) ⟨op,z,fr,to,nm,v⟩=(Il ⟨op,z,fr,to,nm,v⟩,LP nb eb N E x y):=by
   unfold stepG;rw[if_pos hk]
  rw[hs]at hR
  have ff:Fr σ σ3 []:=((f02.mono (by simp)).trans f3).mono (by simp;omega)
  exact hR _ _ ⟨_,_,_,_,_,_,_,_,h.P8 ff,rfl⟩ (ff.mono (by simp))
end
theorem Ak0 {g es:Nat} {ys:List AV} {bytes:Nat} {K:Nat→Bool→Bool→List AV→Prop} (hs:BN es ys) (hr:ys.length*bytes≤2 ^ 46) (h:K ys.length true true ys):
 La g g es es 0 true true true [] ys bytes K:=by
 refine⟨⟨rfl,rfl,by simp,hs,?_⟩,?_⟩
 ·rw[Nat.zero_add];exact hr
 ·rw[Nat.zero_add];exact h
theorem AgW {α:Type} {fv:α→AV} {AP:Nat→Option Jc} {f es:Nat} {l:List α} {nn:Bool} {s:Aq} {K:AV→Aq→Prop} (hn:nn=false→l=[]) (hcl:D9 [.sl nn (vs fv l)]=true)
 (h0:Am AP f [.sl false []] ⟨[],0⟩ fun out _=>out=.ok (.sl false []))
 (h1:Am AP f [.sl true (vs fv l)] ⟨[],0⟩ fun out s'=>∃o g,out=.ok (.own o g 0 l.length)∧nth s'.σ o=some (.arr g es true true (vs fv l)))
 (hk:∀σ' es',Fr s.σ σ' []→nth σ' s.σ.length=some (.arr s.ctr es' nn true (vs fv l))→(nn=true→es'=es)→σ'.length=s.σ.length+1→K (.own s.σ.length s.ctr 0 l.length) ⟨σ',s.ctr+1⟩):
 ∃N r s',Bv (run AP N) .own f [.sl nn (vs fv l)] s=some (.ok r,s')∧K r s':=by
 cases nn with
 |false=>
  obtain rfl:=hn rfl
  exact WR hcl h0 (hk _ 1 ⟨by simp,fun o ho _=>RD ho⟩ OI (by simp) (by simp))
 |true=>
  refine Aok (elems:=vs fv l) (es:=es) hcl (by rw[lV];exact h1) ?_
  rw[lV]
  exact hk _ es ⟨by simp,fun o ho _=>RD ho⟩ OI (fun _=>rfl) (by simp)
theorem AkO:Am (Ac tab) 80 [.sl false []] ⟨[],0⟩ fun out _=>out=.ok (.sl false []):=by
 refine Ah rfl rfl ?_
 (conv=>whnf);repeat' (first|refine kA ?_;conv=>whnf|(apply Br.mk<;>intro hc<;>first|exact hc.elim|conv=>whnf)  |refine kB ?_)
 rfl
theorem AkP {l:List (List UInt8)} (hl:l.length≤5000):Am (Ac tab) 80 [.sl true (vs .str l)] ⟨[],0⟩ fun out s'=>∃o g,out=.ok (.own o g 0 l.length)∧nth s'.σ o=some (.arr g 1 true true (vs .str l)):=by
 refine Ah rfl rfl ?_
 (conv=>whnf);repeat' (first|refine kA ?_;conv=>whnf|(apply Br.mk<;>intro hc<;>first|exact hc.elim|conv=>whnf)  |refine kB ?_)
 refine Ak0 (Ey (f:=.str) (fun _=>rfl) l) (by rw[lV];omega) ?_
 rw[lV]
 (conv=>whnf);repeat' (first|refine kA ?_;conv=>whnf|(apply Br.mk<;>intro hc<;>first|exact hc.elim|conv=>whnf)  |refine kB ?_)
 exact⟨_,_,rfl,rfl⟩
theorem Ad7:Am (Ac tab) 81 [.sl false []] ⟨[],0⟩ fun out _=>out=.ok (.sl false []):=by
 refine Ah rfl rfl ?_
 (conv=>whnf);repeat' (first|refine kA ?_;conv=>whnf|(apply Br.mk<;>intro hc<;>first|exact hc.elim|conv=>whnf)  |refine kB ?_)
 rfl
theorem Ad8 {l:List GP} (hl:l.length≤5000):Am (Ac tab) 81 [.sl true (vs GP.av l)] ⟨[],0⟩ fun out s'=>∃o g,out=.ok (.own o g 0 l.length)∧nth s'.σ o=some (.arr g 6 true true (vs GP.av l)):=by
 refine Ah rfl rfl ?_
 (conv=>whnf);repeat' (first|refine kA ?_;conv=>whnf|(apply Br.mk<;>intro hc<;>first|exact hc.elim|conv=>whnf)  |refine kB ?_)
 refine Ak0 (Ey (f:=GP.av) (fun _=>rfl) l) (by rw[lV];omega) ?_
 rw[lV]
 (conv=>whnf);repeat' (first|refine kA ?_;conv=>whnf|(apply Br.mk<;>intro hc<;>first|exact hc.elim|conv=>whnf)  |refine kB ?_)
 exact⟨_,_,rfl,rfl⟩
theorem Akn:Am (Ac tab) 79 [.sl false []] ⟨[],0⟩ fun out _=>out=.ok (.sl false []):=by
 refine Ah rfl rfl ?_
 (conv=>whnf);repeat' (first|refine kA ?_;conv=>whnf|(apply Br.mk<;>intro hc<;>first|exact hc.elim|conv=>whnf)  |refine kB ?_)
 rfl
theorem Ako {l:List GN} (hl:l.length≤5000):Am (Ac tab) 79 [.sl true (vs GN.av l)] ⟨[],0⟩ fun out s'=>∃o g,out=.ok (.own o g 0 l.length)∧nth s'.σ o=some (.arr g 3 true true (vs GN.av l)):=by
 refine Ah rfl rfl ?_
 (conv=>whnf);repeat' (first|refine kA ?_;conv=>whnf|(apply Br.mk<;>intro hc<;>first|exact hc.elim|conv=>whnf)  |refine kB ?_)
 refine Ak0 (Ey (f:=GN.av) (fun _=>rfl) l) (by rw[lV];omega) ?_
 rw[lV]
 (conv=>whnf);repeat' (first|refine kA ?_;conv=>whnf|(apply Br.mk<;>intro hc<;>first|exact hc.elim|conv=>whnf)  |refine kB ?_)
 exact⟨_,_,rfl,rfl⟩
theorem Akp:Am (Ac tab) 82 [.sl false []] ⟨[],0⟩ fun out _=>out=.ok (.sl false []):=by
 refine Ah rfl rfl ?_
 (conv=>whnf);repeat' (first|refine kA ?_;conv=>whnf|(apply Br.mk<;>intro hc<;>first|exact hc.elim|conv=>whnf)  |refine kB ?_)
 rfl
theorem Akq {l:List GE} (hl:l.length≤5000):Am (Ac tab) 82 [.sl true (vs GE.av l)] ⟨[],0⟩ fun out s'=>∃o g,out=.ok (.own o g 0 l.length)∧nth s'.σ o=some (.arr g 5 true true (vs GE.av l)):=by
 refine Ah rfl rfl ?_
 (conv=>whnf);repeat' (first|refine kA ?_;conv=>whnf|(apply Br.mk<;>intro hc<;>first|exact hc.elim|conv=>whnf)  |refine kB ?_)
 refine Ak0 (Ey (f:=GE.av) (fun _=>rfl) l) (by rw[lV];omega) ?_
 rw[lV]
 (conv=>whnf);repeat' (first|refine kA ?_;conv=>whnf|(apply Br.mk<;>intro hc<;>first|exact hc.elim|conv=>whnf)  |refine kB ?_)
 exact⟨_,_,rfl,rfl⟩
end AI
end Go.Proofs.YthnehejdkajjhaaGreatDoor
