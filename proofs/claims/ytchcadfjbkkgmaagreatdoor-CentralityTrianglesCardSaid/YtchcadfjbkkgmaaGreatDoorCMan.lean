/- An editor's change of a node: labels taken away, properties set. An editor's change of an edge: looking it up; taking one away. An editor's change of an edge: a property set. An editor's change of an edge: one more. An editor's change of a node: taken away. An editor's change of a node: taken away. -/
import Derived.Test.YtchcadfjbkkgmaaGreatDoorCMam
set_option linter.unusedVariables false
set_option maxRecDepth 4000
namespace Go.Proofs.YtchcadfjbkkgmaaGreatDoor
namespace AI
section
variable {σ σ1 σ2 σ3:List Obj} {d gd:Nat} {vN vE:AV} {nb eb:Bool} {N:List EN} {E:List EE} {x y:Int} {ct:Nat} {K:AX→Am→Prop}
theorem Ed.ndN (h:Ed σ d gd vN vE nb eb N E x y) {i:Nat} (hi:i<N.length):(N[i]).objs.Nodup:=by
 have h0:=h.nd
 rw[LG hi,List.nodup_cons,List.nodup_append,List.nodup_append,List.nodup_append,List.nodup_append]at h0
 exact h0.2.2.1.2.1.1.2.1
theorem Ed.ndE (h:Ed σ d gd vN vE nb eb N E x y) {i:Nat} (hi:i<E.length):(E[i]).objs.Nodup:=by
 have h0:=h.nd
 rw[NH hi,List.nodup_cons,List.nodup_append,List.nodup_append,List.nodup_append,List.nodup_append]at h0
 exact h0.2.2.1.2.1.1.2.1
theorem Ed.Am0 {o g i:Nat} (h:Ed σ d gd (.own o g 0 N.length) vE true eb N E x y) (hi:i<N.length) {e':EN} {c':Bool} (f1:Fr σ σ1 []) (f2:Fr σ1 σ2 (N[i]).objs) (f3:Fr σ2 σ3 [o])
 (h3:nth σ3 o=some (.arr g 3 true c' (vs EN.av (N.set i e')))) (hc:c'=true→∀e∈N.set i e',e.av.closed=true) (hok:e'.Ok σ2) (hob:∀q∈e'.objs,q∈(N[i]).objs∨σ1.length≤q) (hnd:e'.objs.Nodup):
 Ed σ3 d gd (.own o g 0 N.length) vE true eb (N.set i e') E x y∧Fr σ σ3 (d::((AV.own o g 0 N.length).obj++(vE.obj++BO N E))):=by
 have hap:=h.Iw hi
 have hol:o<σ.length:=h.OW o (by simp[AV.obj])
 have hF:Fr σ σ3 (o::(N[i]).objs):=((f1.mono (by simp)).trans (f2.mono (fun q hq=>.inl (by simp[hq])))).trans (f3.mono (by simp))
 have hne:∀q∈e'.objs,q≠o:=fun q hq e=>by
  rcases hob q hq with hm|hm
  ·exact((hap q (.inr hm)).2.2.2.2 hm).1 (by simp[AV.obj,e])
  ·have:=f1.len;omega
 refine⟨h.setNode hi hF h3 hc (hok.keep fun q hq=>f3.eq q (hok.lt q hq) (by simpa using hne q hq)) (fun q hq=>(hob q hq).imp id fun hm=>by have:=f1.len;omega) hnd,hF.mono fun q hq=>?_⟩
 rcases List.mem_cons.1 hq with rfl|hq
 ·exact .inl (by simp[AV.obj])
 ·exact .inl (by simp[Jc (List.getElem_mem hi) hq])
theorem Ed.Aop {o g i:Nat} (h:Ed σ d gd vN (.own o g 0 E.length) nb true N E x y) (hi:i<E.length) {e':EE} {c':Bool} (f1:Fr σ σ1 []) (f2:Fr σ1 σ2 (E[i]).objs) (f3:Fr σ2 σ3 [o])
 (h3:nth σ3 o=some (.arr g 5 true c' (vs EE.av (E.set i e')))) (hc:c'=true→∀e∈E.set i e',e.av.closed=true) (hok:e'.Ok σ2) (hob:∀q∈e'.objs,q∈(E[i]).objs∨σ1.length≤q) (hnd:e'.objs.Nodup):
 Ed σ3 d gd vN (.own o g 0 E.length) nb true N (E.set i e') x y∧Fr σ σ3 (d::(vN.obj++((AV.own o g 0 E.length).obj++BO N E))):=by
 have hap:=h.AaC hi
 have hol:o<σ.length:=h.OW o (by simp[AV.obj])
 have hF:Fr σ σ3 (o::(E[i]).objs):=((f1.mono (by simp)).trans (f2.mono (fun q hq=>.inl (by simp[hq])))).trans (f3.mono (by simp))
 have hne:∀q∈e'.objs,q≠o:=fun q hq e=>by
  rcases hob q hq with hm|hm
  ·exact((hap q (.inr hm)).2.2.2.2 hm).1 (by simp[AV.obj,e])
  ·have:=f1.len;omega
 refine⟨h.Aiq hi hF h3 hc (hok.keep fun q hq=>f3.eq q (hok.lt q hq) (by simpa using hne q hq)) (fun q hq=>(hob q hq).imp id fun hm=>by have:=f1.len;omega) hnd,hF.mono fun q hq=>?_⟩
 rcases List.mem_cons.1 hq with rfl|hq
 ·exact .inl (by simp[AV.obj])
 ·exact .inl (by simp[KE (List.getElem_mem hi) hq])
set_option maxHeartbeats 2000000 in
theorem AjJ {z fr to:Int} {nm:List UInt8} {v:GV} (h:Ed σ d gd vN vE nb eb N E x y) (hq:Ask N E x y) (hz:1≤z∧z≤1000000) (hf:∃n∈N,n.n.id=z)
 (hP:(∃ n∈N.map EN.n,n.id=z∧nm∉n.labels)→∀σ' c',Fr σ σ' []→K (.DI (.iface 199 (.int .i64 23))) ⟨σ',c'⟩)
 (hR:∀n∈N.map EN.n,n.id=z→nm∈n.labels→∀σ' c' N',Ed σ' d gd vN vE nb eb N' E x y→N'.map EN.n=Ba Cc GN.id {n with ln:=true,labels:=CP Op.bytesLess id nm n.labels} (N.map EN.n)→Fr σ σ' (d::(vN.obj++(vE.obj++BO N E)))→K (.ok (.Cb [])) ⟨σ',c'⟩):
 A8 (Ad tab) 153 [.ref d gd 0 0,(GC.mk 4 z fr to nm v).av] ⟨σ,ct⟩ K:=by
 have DF:=hq.deep
 have hlN:=hq.lN
 obtain⟨rfl,o,g,cn,i,hi,rfl,ho,hcn,hid,q1,hbt⟩:=h.at hq hf
 have hmem:N[i]∈N:=List.getElem_mem hi
 have hok:=h.hN _ hmem
 obtain⟨hil,hl8⟩:=hq.iL _ hmem
 have hap:=h.Iw hi
 have YM:=h.ndN hi
 show A8 (Ad tab) _ [.ref d gd 0 0,.agg [.int .i64 4,.int .i64 z,.int .i64 fr,.int .i64 to,.str nm,.int .i64 v.k,.int .i64 v.n,.int .i64 v.d,.str v.s,.sl v.nn v.l]] _ _
 obtain⟨e,he⟩:∃e,e=N[i]:=⟨_,rfl⟩
 rw[← he]at hok hil hl8 YM
 have hnt:nth (vs EN.av N) (Int.toNat (i:Int))=some e.av:=by rw[he];exact nV hi
 have Lc:nth (vs EN.av N) i=some e.av:=by rw[he];exact nV hi
 obtain⟨n,lv,pv⟩:=e
 have hok1:Hd .str 1 σ lv n.ln n.labels true:=hok.1
 have hok2:Hd GP.av 6 σ pv n.pn n.props true:=hok.2
 replace hl8:n.labels.length≤8:=hl8
 replace hil:Inc Op.bytesLess id n.labels:=hil
 have hmm:n∈N.map EN.n:=by rw[show n=(N[i]).n by rw[← he]];exact List.mem_map_of_mem hmem
 have hnz:n.id=z:=by rw[show n=(N[i]).n by rw[← he]];exact hid
 have hbs:=fun(nn:Bool)=>(bsS (nn:=nn) (x:=nm) (l:=n.labels) (by omega) hil).JF
 by_cases hin:nm∈n.labels
 ·have hfi:∃w∈n.labels,id w=nm:=⟨nm,hin,rfl⟩
  have hbq:∃j:Nat,AtK Op.bytesLess id nm n.labels j∧Af (Ad tab) 171 [.sl true (vs .str n.labels),.str nm] (· =.Cb [.int .i64 j,.bool true]):=by
   obtain⟨_,⟨j,b,rfl,r1,r2⟩,hd⟩:=hbs true
   rw[r2.2 hfi]at hd
   exact⟨j,r1,hd⟩
  obtain⟨j,hj,hbj⟩:=hbq
  obtain⟨hjl,_,_⟩:=hj.found Aq hil hfi
  rcases hok1 with⟨hb,hl0,_⟩|⟨hb,ol,gl,rfl,hol⟩
  ·rw[hl0]at hin;simp at hin
  ·have hoo:o∉[ol]:=by
        have:=(hap ol (.inr (by rw[← he];simp[EN.objs,AV.obj]))).2.2.2.2 (by rw[← he];simp[EN.objs,AV.obj]) |>.1
        simpa[AV.obj,eq_comm]using this
   refine Ar rfl rfl ?_
   (conv=>whnf);repeat' (first|(refine CJ fun σ1 f1 h1 l1=>?_;have hE1:=h.Ol f1;have hd1:=hE1.box;have ho1:=f1.get ho (by simp);have hl1:=f1.get hol (by simp);conv=>whnf)|(apply AL (hE1.RF 999999 DF);conv=>whnf)|((first|refine Aa hbt ?_|refine Aa hbj ?_);rintro _ rfl;conv=>whnf)|(refine Ez ?_;conv=>whnf)|(rw [h1];conv=>whnf)|(rw [hd1];conv=>whnf)|(rw [ho1];conv=>whnf)|(rw [hl1];conv=>whnf)|(refine Ah hnt ?_;conv=>whnf)|(refine Ah Lc ?_;conv=>whnf)|(refine Ux rfl rfl hjl rfl hl1 fun σ2 f2 h2=>?_;have ho2:=f2.get ho1 hoo;conv=>whnf)|(rw [ho2];conv=>whnf)|(refine E8 ho2 fun σ3 f3 h3 l3=>?_;conv=>whnf)|(refine kA ?_;conv=>whnf)|(refine Br.mk (fun hc=>?_) fun hc=>?_<;>first|exact hc.elim|conv=>whnf)|(refine kB ?_))
   have hp:=hj.del Aq hil hfi
   have hlen2:j+(n.labels.length-(j+1))=(CP Op.bytesLess id nm n.labels).length:=by rw[← hp,List.length_append,List.length_take,List.length_drop];omega
   rw[hp]at h2
   have hpv:∀q∈pv.obj,q∉[ol]:=fun q hq hm=>by
        simp only[List.mem_singleton]at hm
        exact(List.nodup_append.1 YM).2.2 ol (by simp[AV.obj]) q hq hm.symm
   have hr:=h.Am0 (e':=⟨{n with ln:=true,labels:=CP Op.bytesLess id nm n.labels},.own ol _ 0 (j+(n.labels.length-(j+1))),pv⟩) hi f1 (f2.mono (by rw[← he];simp[EN.objs,AV.obj])) f3 (h3.trans (by rw[← QW];rfl)) (by simp)
        ⟨.inr ⟨rfl,_,_,by rw[← hlen2],h2⟩,hok2.keep fun q hq=>(f2.eq q (Nat.lt_of_lt_of_le (hok2.lt q hq) f1.len) (hpv q hq)).trans (f1.eq q (hok2.lt q hq) (by simp))⟩ (fun q hq=>.inl (by rw[← he];exact hq)) YM
   refine hR n hmm hnz hin σ3 _ _ hr.1 ?_ hr.2
   rw[List.map_set]
   exact AtK.set (key:=GN.id) (x:={n with ln:=true,labels:=CP Op.bytesLess id nm n.labels}) Ag hq.iN (by rw[show GN.id _=z from hnz];exact q1) ⟨n,hmm,rfl⟩
 ·have hbq:∀nn,∃j:Nat,Af (Ad tab) 171 [.sl nn (vs .str n.labels),.str nm] (· =.Cb [.int .i64 j,.bool false]):=fun nn=>by
   obtain⟨_,⟨j,b,rfl,r1,r2⟩,hd⟩:=hbs nn
   cases b
   ·exact⟨j,hd⟩
   ·obtain⟨w,hw,rfl⟩:=r2.1 rfl
    exact absurd hw hin
  rcases hok1 with⟨hb,hl0,rfl|⟨ol,gl,el,rfl,hol⟩⟩|⟨hb,ol,gl,rfl,hol⟩
  ·obtain⟨j,hbj⟩:=hbq false
   rw[hl0]at hbj
   refine Ar rfl rfl ?_
   (conv=>whnf);repeat' (first|(refine CJ fun σ1 f1 h1 l1=>?_;have hE1:=h.Ol f1;have hd1:=hE1.box;have ho1:=f1.get ho (by simp);conv=>whnf)|(apply AL (hE1.RF 999999 DF);conv=>whnf)|((first|refine Aa hbt ?_|refine Aa hbj ?_);rintro _ rfl;conv=>whnf)|(refine Ez ?_;conv=>whnf)|(refine Ji ?_;conv=>whnf)|(rw [h1];conv=>whnf)|(rw [hd1];conv=>whnf)|(rw [ho1];conv=>whnf)|(refine Ah hnt ?_;conv=>whnf)|(refine Ah Lc ?_;conv=>whnf)|(refine kA ?_;conv=>whnf)|(refine Br.mk (fun hc=>?_) fun hc=>?_<;>first|exact hc.elim|conv=>whnf)|(refine kB ?_))
   all_goals first|exact hP ⟨n,hmm,hnz,hin⟩ _ _ f1
  ·obtain⟨j,hbj⟩:=hbq false
   rw[hl0]at hbj
   refine Ar rfl rfl ?_
   (conv=>whnf);repeat' (first|(refine CJ fun σ1 f1 h1 l1=>?_;have hE1:=h.Ol f1;have hd1:=hE1.box;have ho1:=f1.get ho (by simp);have hl1:=f1.get hol (by simp);conv=>whnf)|(apply AL (hE1.RF 999999 DF);conv=>whnf)|((first|refine Aa hbt ?_|refine Aa hbj ?_);rintro _ rfl;conv=>whnf)|(refine Ez ?_;conv=>whnf)|(refine Ji ?_;conv=>whnf)|(rw [h1];conv=>whnf)|(rw [hd1];conv=>whnf)|(rw [ho1];conv=>whnf)|(rw [hl1];conv=>whnf)|(refine Ah hnt ?_;conv=>whnf)|(refine Ah Lc ?_;conv=>whnf)|(refine kA ?_;conv=>whnf)|(refine Br.mk (fun hc=>?_) fun hc=>?_<;>first|exact hc.elim|conv=>whnf)|(refine kB ?_))
   all_goals first|exact hP ⟨n,hmm,hnz,hin⟩ _ _ f1
  ·obtain⟨j,hbj⟩:=hbq true
   refine Ar rfl rfl ?_
   (conv=>whnf);repeat' (first|(refine CJ fun σ1 f1 h1 l1=>?_;have hE1:=h.Ol f1;have hd1:=hE1.box;have ho1:=f1.get ho (by simp);have hl1:=f1.get hol (by simp);conv=>whnf)|(apply AL (hE1.RF 999999 DF);conv=>whnf)|((first|refine Aa hbt ?_|refine Aa hbj ?_);rintro _ rfl;conv=>whnf)|(refine Ez ?_;conv=>whnf)|(refine Ji ?_;conv=>whnf)|(rw [h1];conv=>whnf)|(rw [hd1];conv=>whnf)|(rw [ho1];conv=>whnf)|(rw [hl1];conv=>whnf)|(refine Ah hnt ?_;conv=>whnf)|(refine Ah Lc ?_;conv=>whnf)|(refine kA ?_;conv=>whnf)|(refine Br.mk (fun hc=>?_) fun hc=>?_<;>first|exact hc.elim|conv=>whnf)|(refine kB ?_))
   all_goals first|exact hP ⟨n,hmm,hnz,hin⟩ _ _ f1
set_option maxHeartbeats 2000000 in
theorem AjK {z fr to:Int} {nm:List UInt8} {v:GV} (h:Ed σ d gd vN vE nb eb N E x y) (hq:Ask N E x y) (hz:1≤z∧z≤1000000) (hv:v.ok) (hf:∃n∈N,n.n.id=z)
 (hP:(∃ n∈N.map EN.n,n.id=z∧¬isNull v∧(¬ ∃p∈n.props,GP.key p=nm)∧¬n.props.length<16)→∀σ' c',Fr σ σ' []→K (.DI (.iface 199 (.int .i64 20))) ⟨σ',c'⟩)
 (hA:∀n∈N.map EN.n,n.id=z→isNull v→∀σ' c' N',Ed σ' d gd vN vE nb eb N' E x y→N'.map EN.n=Ba Cc GN.id {n with props:=CP Op.bytesLess GP.key nm n.props} (N.map EN.n)→Fr σ σ' (d::(vN.obj++(vE.obj++BO N E)))→K (.ok (.Cb [])) ⟨σ',c'⟩)
 (hB:∀n∈N.map EN.n,n.id=z→¬isNull v→((∃ p∈n.props,GP.key p=nm)∨n.props.length<16)→∀σ' c' N',Ed σ' d gd vN vE nb eb N' E x y→N'.map EN.n=Ba Cc GN.id {n with pn:=true,props:=Ba Op.bytesLess GP.key ⟨nm,v⟩ n.props} (N.map EN.n)→Fr σ σ' (d::(vN.obj++(vE.obj++BO N E)))→K (.ok (.Cb [])) ⟨σ',c'⟩):
 A8 (Ad tab) 153 [.ref d gd 0 0,(GC.mk 5 z fr to nm v).av] ⟨σ,ct⟩ K:=by
 have DF:=hq.deep
 have hlN:=hq.lN
 obtain⟨rfl,o,g,cn,i,hi,rfl,ho,hcn,hid,q1,hbt⟩:=h.at hq hf
 have hmem:N[i]∈N:=List.getElem_mem hi
 have hok:=h.hN _ hmem
 obtain⟨hip,AaB⟩:=hq.iP _ hmem
 have hap:=h.Iw hi
 have YM:=h.ndN hi
 show A8 (Ad tab) _ [.ref d gd 0 0,.agg [.int .i64 5,.int .i64 z,.int .i64 fr,.int .i64 to,.str nm,.int .i64 v.k,.int .i64 v.n,.int .i64 v.d,.str v.s,.sl v.nn v.l]] _ _
 obtain⟨e,he⟩:∃e,e=N[i]:=⟨_,rfl⟩
 rw[← he]at hok hip AaB YM
 have hnt:nth (vs EN.av N) (Int.toNat (i:Int))=some e.av:=by rw[he];exact nV hi
 have Lc:nth (vs EN.av N) i=some e.av:=by rw[he];exact nV hi
 obtain⟨n,lv,pv⟩:=e
 have hok1:Hd .str 1 σ lv n.ln n.labels true:=hok.1
 have hok2:Hd GP.av 6 σ pv n.pn n.props true:=hok.2
 replace AaB:n.props.length≤16:=AaB
 replace hip:Inc Op.bytesLess GP.key n.props:=hip
 have hmm:n∈N.map EN.n:=by rw[show n=(N[i]).n by rw[← he]];exact List.mem_map_of_mem hmem
 have hnz:n.id=z:=by rw[show n=(N[i]).n by rw[← he]];exact hid
 have Nj:(N[i]).objs=lv.obj++pv.obj:=by rw[← he];rfl
 have hoo:o∉pv.obj:=fun hm=>((hap o (.inr (by rw[Nj];simp[hm]))).2.2.2.2 (by rw[Nj];simp[hm])).1 (by simp[AV.obj])
 have hlp:∀q∈lv.obj,q∉pv.obj:=fun q hq hm=>(List.nodup_append.1 YM).2.2 q hq q hm rfl
 have fin:∀σ1 σ2 σ3 pv' pb L c',Fr σ σ1 []→Fr σ1 σ2 pv.obj→Fr σ2 σ3 [o]→nth σ3 o=some (.arr g 3 true c' (vs EN.av (N.set i ⟨{n with pn:=pb,props:=L},lv,pv'⟩)))→
  Hd GP.av 6 σ2 pv' pb L true→(∀ q∈pv'.obj,q∈pv.obj∨σ1.length≤q)→(c'=true→cn=true∧pv'.closed=true)→Ed σ3 d gd (.own o g 0 N.length) vE true eb (N.set i ⟨{n with pn:=pb,props:=L},lv,pv'⟩) E x y∧Fr σ σ3 (d::((AV.own o g 0 N.length).obj++(vE.obj++BO N E))):=by
  intro σ1 σ2 σ3 pv' pb L c' f1 f2 f3 h3 h2 hob hcc
  refine h.Am0 hi f1 (f2.mono (by rw[Nj];simp +contextual)) f3 h3 (fun hc e he'=>?_) ⟨hok1.keep fun q hq=>?_,h2⟩ (fun q hq=>?_) ?_
  ·replace hc:=hcc hc
   rcases JM he' with rfl|⟨j,hj,_,rfl⟩
   ·have:=hcn hc.1 _ hmem
    rw[← he]at this
    simp only[EN.av,AV.closed,DK,Bool.and_eq_true,Bool.and_true]at this ⊢
    exact⟨trivial,this.2.1,hc.2⟩
   ·exact hcn hc.1 _ (List.getElem_mem hj)
  ·have:=hok1.lt q hq
   exact(f2.eq q (Nat.lt_of_lt_of_le this f1.len) (hlp q hq)).trans (f1.eq q this (by simp))
  ·rw[Nj]
   rcases List.mem_append.1 hq with hq|hq
   ·exact .inl (List.mem_append_left _ hq)
   ·exact(hob q hq).imp (fun hm=>List.mem_append_right _ hm) id
  ·refine List.nodup_append.2 ⟨hok1.nodup,h2.nodup,fun a ha b hb e=>?_⟩
   subst e
   rcases hob a hb with hm|hm
   ·exact hlp a ha hm
   ·have:=hok1.lt a ha;have:=f1.len;omega
 have mp:∀(e':EN),e'.n.id=z→(N.set i e').map EN.n=Ba Cc GN.id e'.n (N.map EN.n):=fun e' hz'=>by
  rw[List.map_set]
  exact AtK.set (key:=GN.id) (x:=e'.n) Ag hq.iN (by rw[hz'];exact q1) ⟨n,hmm,by rw[hz',hnz]⟩
 have Ae8:=hok2
 rcases Ae8 with⟨_,_,rfl|⟨op',gp,ep,rfl,_⟩⟩|⟨_,op',gp,rfl,_⟩
 all_goals
  refine Ar rfl rfl ?_
  (conv=>whnf);repeat' (first|(refine CJ fun σ1 f1 h1 l1=>?_;have hE1:=h.Ol f1;have hd1:=hE1.box;have ho1:=f1.get ho (by simp);have hp1:=hok2.keep (σ':=σ1) fun q hq=>f1.eq q (hok2.lt q hq) (by simp);conv=>whnf)|(apply AL (hE1.RF 999999 DF);conv=>whnf)|(refine Aa hbt ?_;rintro _ rfl;conv=>whnf)|(refine Ez ?_;conv=>whnf)|(rw [h1];conv=>whnf)|(rw [hd1];conv=>whnf)|(rw [ho1];conv=>whnf)|(refine Ah hnt ?_;conv=>whnf)|(refine Ah Lc ?_;conv=>whnf)|(refine AlY hp1 hip (by omega) hv (fun hn σ2 c2 pv2 g1 f2 g3=>?_) (fun hn hx σ2 c2 pv2 g1 f2 g3=>?_) (fun hn hx hl σ2 c2 f2=>?_);rotate_left 2;(conv=>whnf);rotate_left 1;(have ho2:=f2.get ho1 hoo;have g0:=g1;rcases g0 with⟨_,_,rfl|⟨_,_,_,rfl,_⟩⟩|⟨_,_,_,rfl,_⟩<;>conv=>whnf);rotate_left 3;(have ho2:=f2.get ho1 hoo;have g0:=g1;rcases g0 with⟨gb,_⟩|⟨_,_,_,rfl,_⟩;(· cases gb);conv=>whnf))|(rw [ho2];conv=>whnf)|(refine (DN _ _).2 ?_;conv=>whnf)|(refine E8 ho2 fun σ3 f3 h3 l3=>?_;conv=>whnf)|(refine kA ?_;conv=>whnf)|(refine Br.mk (fun hc=>?_) fun hc=>?_<;>first|exact hc.elim|conv=>whnf)|(refine kB ?_))
  all_goals first
   |(have hr:=fin σ1 σ2 σ3 _ _ _ _ f1 f2 f3 (h3.trans (by rw[← QW];rfl)) g1 g3 (fun h=>by first|exact⟨h,rfl⟩|exact⟨rfl,rfl⟩|cases h)
     first|exact hA n hmm hnz hn σ3 _ _ hr.1 (mp _ hnz) hr.2|exact hB n hmm hnz hn hx σ3 _ _ hr.1 (mp _ hnz) hr.2)
   |exact hP ⟨n,hmm,hnz,hn,hx,hl⟩ _ _ (f1.trans f2)
end
section
variable {σ σ1 σ2 σ3:List Obj} {d gd:Nat} {vN vE:AV} {nb eb:Bool} {N:List EN} {E:List EE} {x y:Int} {ct:Nat} {K:AX→Am→Prop}
theorem AbM {nb eb:Bool} {z:Int} (hq:Ask N E x y) (hf:∃n∈E,n.e.id=z):∃i,AtK Cc GE.id z (E.map EE.e) i∧Af (Ad tab) 175 [.CV (J3 nb eb N E x y).av.cells,.int .i64 z] (· =.Cb [.int .i64 (i:Nat),.bool true]):=by
 obtain⟨_,⟨i,b,rfl,h1,h2⟩,hd⟩:=(AeI (g:=J3 nb eb N E x y) (x:=z) (by have:=hq.lE;simp[J3];omega) hq.iE).JF
 obtain⟨n,hn,e⟩:=hf
 rw[h2.2 ⟨n.e,by simp only[J3,List.mem_map];exact⟨n,hn,rfl⟩,e⟩]at hd
 exact⟨i,h1,hd⟩
theorem Afe {nb eb:Bool} {z:Int} (hq:Ask N E x y) (hf:¬∃n∈E,n.e.id=z):∃i,AtK Cc GE.id z (E.map EE.e) i∧Af (Ad tab) 175 [.CV (J3 nb eb N E x y).av.cells,.int .i64 z] (· =.Cb [.int .i64 (i:Nat),.bool false]):=by
 obtain⟨_,⟨i,b,rfl,h1,h2⟩,hd⟩:=(AeI (g:=J3 nb eb N E x y) (x:=z) (by have:=hq.lE;simp[J3];omega) hq.iE).JF
 cases b
 ·exact⟨i,h1,hd⟩
 ·obtain⟨n,hn,e⟩:=h2.1 rfl
  simp only[J3,List.mem_map]at hn
  obtain⟨m,hm,rfl⟩:=hn
  exact absurd ⟨m,hm,e⟩ hf
theorem Ed.atE (h:Ed σ d gd vN vE nb eb N E x y) (hq:Ask N E x y) {z:Int} (hf:∃n∈E,n.e.id=z):eb=true∧∃o g c i,∃hi:i<E.length,vE=.own o g 0 E.length∧nth σ o=some (.arr g 5 true c (vs EE.av E))∧(c=true→∀e∈E,e.av.closed=true)∧(E[i]).e.id=z∧AtK Cc GE.id z (E.map EE.e) i∧
 Af (Ad tab) 175 [.CV (J3 nb eb N E x y).av.cells,.int .i64 z] (· =.Cb [.int .i64 (i:Nat),.bool true]):=by
 obtain⟨i,q1,hbt⟩:=AbM (nb:=nb) (eb:=eb) hq hf
 obtain⟨n,hn,e⟩:=hf
 obtain⟨hil,hid,_⟩:=q1.found Ag hq.iE ⟨n.e,List.mem_map_of_mem hn,e⟩
 rw[List.length_map]at hil
 obtain⟨cn,hn1,hn2⟩:=h.he
 rcases hn1 with⟨_,rfl,_⟩|⟨rfl,o,g,rfl,ho⟩
 ·simp at hil
 ·exact⟨rfl,o,g,cn,i,hil,rfl,ho,hn2,by simpa using hid,q1,hbt⟩
set_option maxHeartbeats 2000000 in
theorem Ag7 {op z fr to:Int} {nm:List UInt8} {v:GV} (h:Ed σ d gd vN vE nb eb N E x y) (hq:Ask N E x y) (hop:op=7∨op=8) (hf:¬∃n∈E,n.e.id=z)
 (hP:∀σ' c',Fr σ σ' []→K (.DI (.iface 199 (.int .i64 11))) ⟨σ',c'⟩):
 A8 (Ad tab) 154 [.ref d gd 0 0,(GC.mk op z fr to nm v).av] ⟨σ,ct⟩ K:=by
 have DF:=hq.deep
 obtain⟨i,q1,hbt⟩:=Afe (nb:=nb) (eb:=eb) hq hf
 show A8 (Ad tab) _ [.ref d gd 0 0,.agg [.int .i64 op,.int .i64 z,.int .i64 fr,.int .i64 to,.str nm,.int .i64 v.k,.int .i64 v.n,.int .i64 v.d,.str v.s,.sl v.nn v.l]] _ _
 rcases hop with rfl|rfl
 all_goals
  refine Ar rfl rfl ?_
  (conv=>whnf);repeat' (first|(refine CJ fun σ1 f1 h1 l1=>?_;have hE1:=h.Ol f1;conv=>whnf)|(apply AL (hE1.RF 999999 DF);conv=>whnf)|(refine Aa hbt ?_;rintro _ rfl;conv=>whnf)|(refine Ji ?_;conv=>whnf)|(rw [h1];conv=>whnf)|(refine kA ?_;conv=>whnf)|(refine Br.mk (fun hc=>?_) fun hc=>?_<;>first|exact hc.elim|conv=>whnf)|(refine kB ?_))
  all_goals first|exact hP _ _ f1
set_option maxHeartbeats 2000000 in
theorem AjN {z fr to:Int} {nm:List UInt8} {v:GV} (h:Ed σ d gd vN vE nb eb N E x y) (hq:Ask N E x y) (hf:∃n∈E,n.e.id=z)
 (hR:∀σ' c' vE' E',Ed σ' d gd vN vE' nb eb N E' x y→E'.map EE.e=CP Cc GE.id z (E.map EE.e)→Fr σ σ' (d::(vN.obj++(vE.obj++BO N E)))→K (.ok (.Cb [])) ⟨σ',c'⟩):
 A8 (Ad tab) 154 [.ref d gd 0 0,(GC.mk 7 z fr to nm v).av] ⟨σ,ct⟩ K:=by
 have DF:=hq.deep
 have hlE:=hq.lE
 obtain⟨rfl,o,g,cn,i,hi,rfl,ho,hcn,hid,q1,hbt⟩:=h.atE hq hf
 show A8 (Ad tab) _ [.ref d gd 0 0,.agg [.int .i64 7,.int .i64 z,.int .i64 fr,.int .i64 to,.str nm,.int .i64 v.k,.int .i64 v.n,.int .i64 v.d,.str v.s,.sl v.nn v.l]] _ _
 have hdl:=BH h.box
 have hdo:d∉[o]:=by have:=h.nd;simp[AV.obj]at this;simpa using this.1.2.1
 have hod:o∉[d]:=fun hm=>hdo (by simp at hm ⊢;exact hm.symm)
 refine Ar rfl rfl ?_
 (conv=>whnf);repeat' (first|(refine CJ fun σ1 f1 h1 l1=>?_;have hE1:=h.Ol f1;have hd1:=hE1.box;have ho1:=f1.get ho (by simp);conv=>whnf)|(apply AL (hE1.RF 999999 DF);conv=>whnf)|(refine Aa hbt ?_;rintro _ rfl;conv=>whnf)|(refine Ez ?_;conv=>whnf)|(rw [h1];conv=>whnf)|(rw [hd1];conv=>whnf)|(refine Ux (fv:=EE.av) rfl rfl hi rfl ho1 fun σ2 f2 h2=>?_;have hd2:=f2.get hd1 hdo;conv=>whnf)|(rw [hd2];conv=>whnf)|(refine E8 hd2 fun σ3 f3 h3 l3=>?_;conv=>whnf)|(refine kA ?_;conv=>whnf)|(refine Br.mk (fun hc=>?_) fun hc=>?_<;>first|exact hc.elim|conv=>whnf)|(refine kB ?_))
 have hF:Fr σ σ3 [d,o]:=((f1.mono (by simp)).trans (f2.mono (by simp))).trans (f3.mono (by simp))
 have h23:=f3.get h2 hod
 have hl4:(E.take i++E.drop (i+1)).length=i+(E.length-(i+1)):=by simp only[List.length_append,List.length_take,List.length_drop];omega
 have hed:=h.Aj8 (E':=E.take i++E.drop (i+1)) (y':=y) hF (by simp[AV.obj]) h3 (.inr ⟨rfl,_,_,by rw[hl4],h23⟩) hcn (fun e he=>by
  rcases List.mem_append.1 he with he|he
  ·exact .inl (List.mem_of_mem_take he)
  ·exact .inl (List.mem_of_mem_drop he)) (by
  rw[List.flatMap_append,Ld hi]
  exact(List.Sublist.refl _).append (List.sublist_append_right _ _)) (fun o ho=>.inl ho) (by simp)
 refine hR _ _ _ _ hed ?_ (hF.mono (by simp[AV.obj]))
 have:=q1.del (key:=GE.id) Ag hq.iE ⟨(E[i]).e,List.mem_map_of_mem (List.getElem_mem hi),hid⟩
 rw[← this]
 simp only[List.map_append,List.map_take,List.map_drop]
end
section
variable {σ σ1 σ2 σ3:List Obj} {d gd:Nat} {vN vE:AV} {nb eb:Bool} {N:List EN} {E:List EE} {x y:Int} {ct:Nat} {K:AX→Am→Prop}
theorem Ahn {o g i n:Nat}:BR (.own o g i n) (.own o g i n)=true:=by simp[BR]
set_option maxHeartbeats 2000000 in
theorem AjO {z fr to:Int} {nm:List UInt8} {v:GV} (h:Ed σ d gd vN vE nb eb N E x y) (hq:Ask N E x y) (hv:v.ok) (hf:∃n∈E,n.e.id=z)
 (hP:(∃ n∈E.map EE.e,n.id=z∧¬isNull v∧(¬ ∃p∈n.props,GP.key p=nm)∧¬n.props.length<16)→∀σ' c',Fr σ σ' []→K (.DI (.iface 199 (.int .i64 20))) ⟨σ',c'⟩)
 (hA:∀n∈E.map EE.e,n.id=z→isNull v→∀σ' c' E',Ed σ' d gd vN vE nb eb N E' x y→E'.map EE.e=Ba Cc GE.id {n with props:=CP Op.bytesLess GP.key nm n.props} (E.map EE.e)→Fr σ σ' (d::(vN.obj++(vE.obj++BO N E)))→K (.ok (.Cb [])) ⟨σ',c'⟩)
 (hB:∀n∈E.map EE.e,n.id=z→¬isNull v→((∃ p∈n.props,GP.key p=nm)∨n.props.length<16)→∀σ' c' E',Ed σ' d gd vN vE nb eb N E' x y→E'.map EE.e=Ba Cc GE.id {n with pn:=true,props:=Ba Op.bytesLess GP.key ⟨nm,v⟩ n.props} (E.map EE.e)→Fr σ σ' (d::(vN.obj++(vE.obj++BO N E)))→K (.ok (.Cb [])) ⟨σ',c'⟩):
 A8 (Ad tab) 154 [.ref d gd 0 0,(GC.mk 8 z fr to nm v).av] ⟨σ,ct⟩ K:=by
 have DF:=hq.deep
 have hlE:=hq.lE
 obtain⟨rfl,o,g,cn,i,hi,rfl,ho,hcn,hid,q1,hbt⟩:=h.atE hq hf
 have hmem:E[i]∈E:=List.getElem_mem hi
 have hok:=h.hE _ hmem
 obtain⟨hip,AaB⟩:=hq.iQ _ hmem
 have hap:=h.AaC hi
 have YM:=h.ndE hi
 show A8 (Ad tab) _ [.ref d gd 0 0,.agg [.int .i64 8,.int .i64 z,.int .i64 fr,.int .i64 to,.str nm,.int .i64 v.k,.int .i64 v.n,.int .i64 v.d,.str v.s,.sl v.nn v.l]] _ _
 obtain⟨e,he⟩:∃e,e=E[i]:=⟨_,rfl⟩
 rw[← he]at hok hip AaB YM
 have hnt:nth (vs EE.av E) (Int.toNat (i:Int))=some e.av:=by rw[he];exact nV hi
 have Lc:nth (vs EE.av E) i=some e.av:=by rw[he];exact nV hi
 obtain⟨n,pv⟩:=e
 have hok2:Hd GP.av 6 σ pv n.pn n.props true:=hok
 replace AaB:n.props.length≤16:=AaB
 replace hip:Inc Op.bytesLess GP.key n.props:=hip
 have hmm:n∈E.map EE.e:=by rw[show n=(E[i]).e by rw[← he]];exact List.mem_map_of_mem hmem
 have hnz:n.id=z:=by rw[show n=(E[i]).e by rw[← he]];exact hid
 have Nj:(E[i]).objs=pv.obj:=by rw[← he];rfl
 have hoo:o∉pv.obj:=fun hm=>((hap o (.inr (by rw[Nj];simp[hm]))).2.2.2.2 (by rw[Nj];simp[hm])).1 (by simp[AV.obj])
 have hdo:d∉[o]:=by have:=h.nd;simp[AV.obj]at this;simpa using this.1.2.1
 have hdp:d∉pv.obj:=fun hm=>(hap d (.inr (by rw[Nj];exact hm))).1 rfl
 have fin:∀σ1 σ2 σ3 pv' pb L c',Fr σ σ1 []→Fr σ1 σ2 pv.obj→Fr σ2 σ3 [o]→nth σ3 o=some (.arr g 5 true c' (vs EE.av (E.set i ⟨{n with pn:=pb,props:=L},pv'⟩)))→
  Hd GP.av 6 σ2 pv' pb L true→(∀ q∈pv'.obj,q∈pv.obj∨σ1.length≤q)→(c'=true→cn=true∧pv'.closed=true)→Ed σ3 d gd vN (.own o g 0 E.length) nb true N (E.set i ⟨{n with pn:=pb,props:=L},pv'⟩) x y∧Fr σ σ3 (d::(vN.obj++((AV.own o g 0 E.length).obj++BO N E))):=by
  intro σ1 σ2 σ3 pv' pb L c' f1 f2 f3 h3 h2 hob hcc
  refine h.Aop hi f1 (f2.mono (by rw[Nj];simp +contextual)) f3 h3 (fun hc e he'=>?_) h2 (fun q hq=>?_) h2.nodup
  ·replace hc:=hcc hc
   rcases JM he' with rfl|⟨j,hj,_,rfl⟩
   ·simp only[EE.av,AV.closed,DK,Bool.and_eq_true,Bool.and_true]
    exact⟨trivial,trivial,trivial,trivial,hc.2⟩
   ·exact hcn hc.1 _ (List.getElem_mem hj)
  ·rw[Nj]
   exact hob q hq
 have mp:∀(e':EE),e'.e.id=z→(E.set i e').map EE.e=Ba Cc GE.id e'.e (E.map EE.e):=fun e' hz'=>by
  rw[List.map_set]
  exact AtK.set (key:=GE.id) (x:=e'.e) Ag hq.iE (by rw[hz'];exact q1) ⟨n,hmm,by rw[hz',hnz]⟩
 have Ae8:=hok2
 rcases Ae8 with⟨_,_,rfl|⟨op',gp,ep,rfl,_⟩⟩|⟨_,op',gp,rfl,_⟩
 all_goals
  refine Ar rfl rfl ?_
  (conv=>whnf);repeat' (first|(refine need.mk Ahn ?_;conv=>whnf)|(refine CJ fun σ1 f1 h1 l1=>?_;have hE1:=h.Ol f1;have hd1:=hE1.box;have ho1:=f1.get ho (by simp);have hp1:=hok2.keep (σ':=σ1) fun q hq=>f1.eq q (hok2.lt q hq) (by simp);conv=>whnf)|(apply AL (hE1.RF 999999 DF);conv=>whnf)|(refine Aa hbt ?_;rintro _ rfl;conv=>whnf)|(refine Ez ?_;conv=>whnf)|(rw [h1];conv=>whnf)|(rw [hd1];conv=>whnf)|(rw [ho1];conv=>whnf)|(refine Ah hnt ?_;conv=>whnf)|(refine Ah Lc ?_;conv=>whnf)|(refine AlY hp1 hip (by omega) hv (fun hn σ2 c2 pv2 g1 f2 g3=>?_) (fun hn hx σ2 c2 pv2 g1 f2 g3=>?_) (fun hn hx hl σ2 c2 f2=>?_);rotate_left 2;(conv=>whnf);rotate_left 1;(have ho2:=f2.get ho1 hoo;have hd2:=f2.get hd1 hdp;have g0:=g1;rcases g0 with⟨_,_,rfl|⟨_,_,_,rfl,_⟩⟩|⟨_,_,_,rfl,_⟩<;>conv=>whnf);rotate_left 3;(have ho2:=f2.get ho1 hoo;have hd2:=f2.get hd1 hdp;have g0:=g1;rcases g0 with⟨gb,_⟩|⟨_,_,_,rfl,_⟩;(· cases gb);conv=>whnf))|(rw [hd2];conv=>whnf)|(rw [ho2];conv=>whnf)|(refine (DN _ _).2 ?_;conv=>whnf)|(refine E8 ho2 fun σ3 f3 h3 l3=>?_;have hd3:=f3.get hd2 hdo;conv=>whnf)|(rw [hd3];conv=>whnf)|(refine kA ?_;conv=>whnf)|(refine Br.mk (fun hc=>?_) fun hc=>?_<;>first|exact hc.elim|conv=>whnf)|(refine kB ?_))
  all_goals first
   |(have hr:=fin σ1 σ2 σ3 _ _ _ _ f1 f2 f3 (h3.trans (by rw[← QW];rfl)) g1 g3 (fun h=>by first|exact⟨h,rfl⟩|exact⟨rfl,rfl⟩|cases h)
     first|exact hA n hmm hnz hn σ3 _ _ hr.1 (mp _ hnz) hr.2|exact hB n hmm hnz hn hx σ3 _ _ hr.1 (mp _ hnz) hr.2)
   |exact hP ⟨n,hmm,hnz,hn,hx,hl⟩ _ _ (f1.trans f2)
end
section
variable {σ:List Obj} {d gd:Nat} {vN vE:AV} {nb eb:Bool} {N:List EN} {E:List EE} {x y:Int} {ct:Nat} {K:AX→Am→Prop}
set_option maxHeartbeats 2000000 in
theorem AjM {z fr to:Int} {nm:List UInt8} {v:GV} (h:Ed σ d gd vN vE nb eb N E x y) (hq:Ask N E x y) (hz:1≤z∧z≤1000000)
 (hP:(∃ n∈E,n.e.id=z)→∀σ' c',Fr σ σ' []→K (.DI (.iface 199 (.int .i64 7))) ⟨σ',c'⟩)
 (hM:(¬ ∃n∈E,n.e.id=z)→¬((∃ n∈N,n.n.id=fr)∧∃n∈N,n.n.id=to)→∀σ' c',Fr σ σ' []→K (.DI (.iface 199 (.int .i64 10))) ⟨σ',c'⟩)
 (hQ:(¬ ∃n∈E,n.e.id=z)→((∃ n∈N,n.n.id=fr)∧∃n∈N,n.n.id=to)→¬E.length<4000→∀σ' c',Fr σ σ' []→K (.DI (.iface 199 (.int .i64 20))) ⟨σ',c'⟩)
 (hR:(¬ ∃n∈E,n.e.id=z)→((∃ n∈N,n.n.id=fr)∧∃n∈N,n.n.id=to)→E.length<4000→∀σ' c' vE' E',Ed σ' d gd vN vE' nb true N E' x (if z+1>y then z+1 else y)→E'.map EE.e=Ba Cc GE.id ⟨z,fr,to,nm,false,[]⟩ (E.map EE.e)→Fr σ σ' (d::(vN.obj++(vE.obj++BO N E)))→K (.ok (.Cb [])) ⟨σ',c'⟩):
 A8 (Ad tab) 154 [.ref d gd 0 0,(GC.mk 6 z fr to nm v).av] ⟨σ,ct⟩ K:=by
 have DF:=hq.deep
 have hlE:=hq.lE
 have hby:=hq.by_
 show A8 (Ad tab) _ [.ref d gd 0 0,.agg [.int .i64 6,.int .i64 z,.int .i64 fr,.int .i64 to,.str nm,.int .i64 v.k,.int .i64 v.n,.int .i64 v.d,.str v.s,.sl v.nn v.l]] _ _
 by_cases hf:∃n∈E,n.e.id=z
 ·obtain⟨i,q1,hbt⟩:=AbM (nb:=nb) (eb:=eb) hq hf
  refine Ar rfl rfl ?_
  (conv=>whnf);repeat' (first|(refine CJ fun σ1 f1 h1 l1=>?_;have hE1:=h.Ol f1;conv=>whnf)|(apply AL (hE1.RF 999999 DF);conv=>whnf)|(refine Aa hbt ?_;rintro _ rfl;conv=>whnf)|(refine Ji ?_;conv=>whnf)|(rw [h1];conv=>whnf)|(refine kA ?_;conv=>whnf)|(refine Br.mk (fun hc=>?_) fun hc=>?_<;>first|exact hc.elim|conv=>whnf)|(refine kB ?_))
  all_goals first|exact hP hf _ _ f1
 obtain⟨i,q1,hbt⟩:=Afe (nb:=nb) (eb:=eb) hq hf
 by_cases hfr:∃n∈N,n.n.id=fr
 rotate_left
 ·obtain⟨i1,_,hb1⟩:=Vb (nb:=nb) (eb:=eb) hq hfr
  have hb2:∃(i2:Nat) (b:Bool),Af (Ad tab) 167 [.CV (J3 nb eb N E x y).av.cells,.int .i64 to] (· =.Cb [.int .i64 (i2:Nat),.bool b]):=by
   by_cases hto:∃n∈N,n.n.id=to
   ·obtain⟨i2,_,h2⟩:=QF (nb:=nb) (eb:=eb) hq hto;exact⟨_,_,h2⟩
   ·obtain⟨i2,_,h2⟩:=Vb (nb:=nb) (eb:=eb) hq hto;exact⟨_,_,h2⟩
  obtain⟨i2,b2,hb2⟩:=hb2
  refine Ar rfl rfl ?_
  (conv=>whnf);repeat' (first|(refine CJ fun σ1 f1 h1 l1=>?_;have hE1:=h.Ol f1;conv=>whnf)|(apply AL (hE1.RF 999999 DF);conv=>whnf)|((first|refine Aa hbt ?_|refine Aa hb1 ?_|refine Aa hb2 ?_);rintro _ rfl;conv=>whnf)|(refine Ez ?_;conv=>whnf)|(refine Ji ?_;conv=>whnf)|(rw [h1];conv=>whnf)|(refine kA ?_;conv=>whnf)|(refine Br.mk (fun hc=>?_) fun hc=>?_<;>first|exact hc.elim|conv=>whnf)|(refine kB ?_))
  all_goals first|exact hM hf (fun h=>hfr h.1) _ _ f1
 obtain⟨i1,_,hb1⟩:=QF (nb:=nb) (eb:=eb) hq hfr
 by_cases hto:∃n∈N,n.n.id=to
 rotate_left
 ·obtain⟨i2,_,hb2⟩:=Vb (nb:=nb) (eb:=eb) hq hto
  refine Ar rfl rfl ?_
  (conv=>whnf);repeat' (first|(refine CJ fun σ1 f1 h1 l1=>?_;have hE1:=h.Ol f1;conv=>whnf)|(apply AL (hE1.RF 999999 DF);conv=>whnf)|((first|refine Aa hbt ?_|refine Aa hb1 ?_|refine Aa hb2 ?_);rintro _ rfl;conv=>whnf)|(refine Ez ?_;conv=>whnf)|(refine Ji ?_;conv=>whnf)|(rw [h1];conv=>whnf)|(refine kA ?_;conv=>whnf)|(refine Br.mk (fun hc=>?_) fun hc=>?_<;>first|exact hc.elim|conv=>whnf)|(refine kB ?_))
  all_goals first|exact hM hf (fun h=>hto h.2) _ _ f1
 obtain⟨i2,_,hb2⟩:=QF (nb:=nb) (eb:=eb) hq hto
 have hdl:=BH h.box
 by_cases hlen:E.length<4000
 ·obtain⟨cn,hn1,hn2⟩:=h.he
  rcases hn1 with⟨rfl,rfl,rfl|⟨o,g,es',rfl,ho⟩⟩|⟨rfl,o,g,rfl,ho⟩
  ·exact absurd rfl h.oE
  ·obtain rfl:i=0:=by simpa using q1.le
   refine Ar rfl rfl ?_
   (conv=>whnf);repeat' (first|(refine CJ fun σ1 f1 h1 l1=>?_;have hE1:=h.Ol f1;have hd1:=hE1.box;have ho1:=f1.get ho (by simp);conv=>whnf)|(apply AL (hE1.RF 999999 DF);conv=>whnf)|((first|refine Aa hbt ?_|refine Aa hb1 ?_|refine Aa hb2 ?_);rintro _ rfl;conv=>whnf)|(refine Ez ?_;conv=>whnf)|(rw [h1];conv=>whnf)|(rw [hd1];conv=>whnf)|(refine Tt (x:=GE.av ⟨z,fr,to,nm,false,[]⟩) rfl rfl (by omega) ho1 fun σ2 f2 h2=>?_;have hd2:=f2.get hd1 (by simp);have h12:=f2.get h1 (by simp);conv=>whnf)|(rw [hd2];conv=>whnf)|(refine kA ?_;conv=>whnf)|(refine Br.mk (fun hc=>?_) fun hc=>?_<;>first|exact hc.elim|conv=>whnf)|(refine kB ?_))
   have hns:σ.length∉[d]:=by simp;omega
   refine E8 hd2 fun σ3 f3 h3 l3=>?_
   have h13:=f3.get h12 hns
   (conv=>whnf);repeat' (first|(rw [h3];conv=>whnf)|(rw [h13];conv=>whnf)|(refine kA ?_;conv=>whnf)|(refine Br.mk (fun hc=>?_) fun hc=>?_<;>first|exact hc.elim|conv=>whnf)|(refine kB ?_))
   refine E8 h3 fun σ4 f4 h4 l4=>?_
   (conv=>whnf);repeat' (first  |(refine kA ?_;conv=>whnf)|(refine Br.mk (fun hc=>?_) fun hc=>?_<;>first|exact hc.elim|conv=>whnf)|(refine kB ?_))
   have hF:Fr σ σ4 [d]:=(((f1.mono (by simp)).trans (f2.mono (by simp))).trans f3).trans f4
   have h24:nth σ4 σ1.length=some (.arr (ct+1) 5 true true (vs EE.av [eE0 z fr to nm])):=f4.get (f3.get h2 (by have:=f1.len;simp;dsimp only at this;omega)) (by have:=f1.len;simp;dsimp only at this;omega)
   have hed:Ed σ4 d gd vN (.own σ1.length (ct+1) 0 1) nb true N [eE0 z fr to nm] x (if z+1>y then z+1 else y):=
        h.Aj8 hF (by simp) h4 (.inr ⟨rfl,_,_,rfl,h24⟩) (fun _ e he=>by simp at he) (fun e he=>.inr ⟨z,fr,to,nm,by simpa using he⟩) (by simp[eE0,EE.objs,AV.obj]) (fun o ho=>.inr (by simp only[AV.obj,List.mem_singleton]at ho;subst ho;exact f1.len)) (by simp)
   exact hR hf ⟨hfr,hto⟩ hlen _ _ _ _ hed rfl (hF.mono (by simp))
  ·have hil:=q1.le
   rw[List.length_map]at hil
   have hno:σ.length∉[o]:=by have:=BH ho;simp;omega
   have hdo:d∉[o]:=by have:=h.nd;simp[AV.obj]at this;simpa using this.1.2.1
   refine Ar rfl rfl ?_
   (conv=>whnf);repeat' (first|(refine CJ fun σ1 f1 h1 l1=>?_;have hE1:=h.Ol f1;have hd1:=hE1.box;have ho1:=f1.get ho (by simp);conv=>whnf)|(apply AL (hE1.RF 999999 DF);conv=>whnf)|((first|refine Aa hbt ?_|refine Aa hb1 ?_|refine Aa hb2 ?_);rintro _ rfl;conv=>whnf)|(refine Ez ?_;conv=>whnf)|(rw [h1];conv=>whnf)|(rw [hd1];conv=>whnf)|(refine XW (fv:=EE.av) (x:=eE0 z fr to nm) rfl rfl (by omega) rfl hil ho1 fun σ2 f2 h2=>?_;have hd2:=f2.get hd1 hdo;have h12:=f2.get h1 hno;conv=>whnf)|(rw [hd2];conv=>whnf)|(refine kA ?_;conv=>whnf)|(refine Br.mk (fun hc=>?_) fun hc=>?_<;>first|exact hc.elim|conv=>whnf)|(refine kB ?_))
   refine E8 hd2 fun σ3 f3 h3 l3=>?_
   have h13:=f3.get h12 (by simp;omega)
   (conv=>whnf);repeat' (first|(rw [h3];conv=>whnf)|(rw [h13];conv=>whnf)|(refine kA ?_;conv=>whnf)|(refine Br.mk (fun hc=>?_) fun hc=>?_<;>first|exact hc.elim|conv=>whnf)|(refine kB ?_))
   refine E8 h3 fun σ4 f4 h4 l4=>?_
   (conv=>whnf);repeat' (first  |(refine kA ?_;conv=>whnf)|(refine Br.mk (fun hc=>?_) fun hc=>?_<;>first|exact hc.elim|conv=>whnf)|(refine kB ?_))
   have hF:Fr σ σ4 [d,o]:=(((f1.mono (by simp)).trans (f2.mono (by simp))).trans (f3.mono (by simp))).trans (f4.mono (by simp))
   have hod:o∉[d]:=fun hm=>hdo (by simp at hm ⊢;exact hm.symm)
   have h24:nth σ4 o=some (.arr (ct+1) 5 true cn (vs EE.av (E.take i++[eE0 z fr to nm]++E.drop i))):=f4.get (f3.get h2 hod) hod
   have hl4:(E.take i++[eE0 z fr to nm]++E.drop i).length=E.length+1:=by simp only[List.length_append,List.length_take,List.length_drop,List.length_singleton];omega
   have hed:Ed σ4 d gd vN (.own o (ct+1) 0 (E.length+1)) nb true N (E.take i++[eE0 z fr to nm]++E.drop i) x (if z+1>y then z+1 else y):=
        h.Aj8 hF (by simp[AV.obj]) h4 (.inr ⟨rfl,_,_,by rw[hl4],h24⟩) hn2 (fun e he=>by
         rcases List.mem_append.1 he with he|he
         ·rcases List.mem_append.1 he with he|he
          ·exact .inl (List.mem_of_mem_take he)
          ·exact .inr ⟨z,fr,to,nm,by simpa using he⟩
         ·exact .inl (List.mem_of_mem_drop he)) (by
         rw[List.flatMap_append,List.flatMap_append,show[eE0 z fr to nm].flatMap EE.objs=[] from rfl,List.append_nil,←List.flatMap_append,List.take_append_drop]
         exact List.Sublist.refl _) (fun o ho=>.inl ho) (by simp)
   exact hR hf ⟨hfr,hto⟩ hlen _ _ _ _ hed (by
        refine Eq.trans ?_ (AtK.ins (key:=GE.id) (x:=(⟨z,fr,to,nm,false,[]⟩:GE)) Ag q1 (fun n hn e=>hf (by obtain⟨m,hm,rfl⟩:=List.mem_map.1 hn;exact⟨m,hm,e⟩)))
        simp only[List.map_append,List.map_take,List.map_drop];rfl) (hF.mono (by simp[AV.obj]))
 ·obtain⟨cn,hn1,hn2⟩:=h.he
  rcases hn1 with⟨rfl,rfl,rfl|⟨o,g,es',rfl,ho⟩⟩|⟨rfl,o,g,rfl,ho⟩
  ·exact absurd rfl h.oE
  ·exact absurd (by simp) hlen
  ·refine Ar rfl rfl ?_
   (conv=>whnf);repeat' (first|(refine CJ fun σ1 f1 h1 l1=>?_;have hE1:=h.Ol f1;have hd1:=hE1.box;conv=>whnf)|(apply AL (hE1.RF 999999 DF);conv=>whnf)|((first|refine Aa hbt ?_|refine Aa hb1 ?_|refine Aa hb2 ?_);rintro _ rfl;conv=>whnf)|(refine Ez ?_;conv=>whnf)|(refine Ji ?_;conv=>whnf)|(rw [h1];conv=>whnf)|(rw [hd1];conv=>whnf)|(refine kA ?_;conv=>whnf)|(refine Br.mk (fun hc=>?_) fun hc=>?_<;>first|exact hc.elim|conv=>whnf)|(refine kB ?_))
   all_goals first|exact hQ hf ⟨hfr,hto⟩ hlen _ _ f1
end
section
variable {σ:List Obj} {d gd:Nat} {vN vE:AV} {nb eb:Bool} {N:List EN} {E:List EE} {x y:Int} {ct:Nat} {K:AX→Am→Prop}
set_option maxHeartbeats 2000000 in
theorem Acj {z fr to:Int} {nm:List UInt8} {v:GV} {o g p u j:Nat} {c:Bool} {Q:AZ→Env→Am→Prop} (hlE:E.length≤4000) (ho:E≠[]→nth σ o=some (.arr g 5 true c (vs EE.av E))) (hE:∀e∈E,e.Ok σ)
 (hp:nth σ p=some (.arr u 10 true true [.agg [.int .i64 2,.int .i64 z,.int .i64 fr,.int .i64 to,.str nm,.int .i64 v.k,.int .i64 v.n,.int .i64 v.d,.str v.s,.sl v.nn v.l]]))
 (hN:(∃ e∈E.map EE.e,e.fr=z∨e.to=z)→∀env σ' c',Fr σ σ' []→Q (.DI (.iface 199 (.int .i64 12))) env ⟨σ',c'⟩)
 (hY:(¬ ∃e∈E.map EE.e,e.fr=z∨e.to=z)→∀σ' c' tl,Fr σ σ' []→Q (.exit 1) ([(0,.ref d gd 0 0),(3,.ref p u 0 0),(4,.int .i64 j),(91,.own o g 0 E.length),(92,.int .i64 E.length),(93,.int .i64 E.length)]++tl) ⟨σ',c'⟩):
 Run (Ad tab) (.loop l153_0_h l153_0_b) [(0,.ref d gd 0 0),(3,.ref p u 0 0),(4,.int .i64 j),(91,.own o g 0 E.length),(92,.int .i64 E.length),(93,.int .i64 0)] ⟨σ,ct⟩ Q:=by
 refine Ap (fun m env s=>∃(i c':Nat) (σ':List Obj),m=E.length-i∧i≤E.length∧env=[(0,.ref d gd 0 0),(3,.ref p u 0 0),(4,.int .i64 j),(91,.own o g 0 E.length),(92,.int .i64 E.length),(93,.int .i64 i)]∧s=⟨σ',c'⟩∧Fr σ σ' []∧¬∃e∈(E.take i).map EE.e,e.fr=z∨e.to=z) ?_ _ _ _ ⟨0,_,_,rfl,by omega,rfl,rfl,Fr.refl,by simp⟩
 rintro _ _ _ ⟨i,c',σ',rfl,hi,rfl,rfl,f0,hno⟩
 refine⟨rfl,?_⟩
 by_cases hlt:i<E.length
 ·have hmem:E[i]∈E:=List.getElem_mem hlt
  have hok:=hE _ hmem
  obtain⟨e,he⟩:∃e,e=E[i]:=⟨_,rfl⟩
  have hnt:nth (vs EE.av E) (Int.toNat (i:Int))=some e.av:=by rw[he];exact nV hlt
  have Lc:nth (vs EE.av E) i=some e.av:=by rw[he];exact nV hlt
  have hme:e.e∈E.map EE.e:=by rw[he];exact List.mem_map_of_mem hmem
  have hno':¬(e.e.fr=z∨e.e.to=z)→¬∃e∈(E.take (i+1)).map EE.e,e.fr=z∨e.to=z:=fun hn=>by
   rw[List.take_succ_eq_append_getElem hlt,List.map_append]
   rintro⟨w,hw,hx⟩
   rcases List.mem_append.1 hw with hw|hw
   ·exact hno ⟨w,hw,hx⟩
   ·simp only[List.map_cons,List.map_nil,List.mem_singleton]at hw
    rw[hw,←he]at hx
    exact hn hx
  rw[← he]at hok
  have ho0:=f0.get (ho (by intro h;rw[h]at hlt;simp at hlt)) (by simp)
  have hp0:=f0.get hp (by simp)
  obtain⟨n,pv⟩:=e
  have hok2:Hd GP.av 6 σ pv n.pn n.props true:=hok
  rcases hok2 with⟨_,_,rfl|⟨op',gp,ep,rfl,_⟩⟩|⟨_,op',gp,rfl,_⟩
  all_goals
   (conv=>whnf);repeat' (first|(refine CJ fun σ1 f1 h1 l1=>?_;have ho1:=f1.get ho0 (by simp);have hp1:=f1.get hp0 (by simp);conv=>whnf)|(rw [ho0];conv=>whnf)|(rw [h1];conv=>whnf)|(refine Ah hnt ?_;conv=>whnf)|(refine Ah Lc ?_;conv=>whnf)|(refine (DN _ _).2 ?_;conv=>whnf)|(refine E8 h1 fun σ2 f2 h2 l2=>?_;have hp2:=f2.get hp1 (by have:=BH hp0;simp;omega);conv=>whnf)|(rw [h2];conv=>whnf)|(rw [hp2];conv=>whnf)|(refine Ez ?_;conv=>whnf)|(refine Ji ?_;conv=>whnf)|(refine kA ?_;conv=>whnf)|(refine Br.mk (fun hc=>?_) fun hc=>?_<;>first|exact hc.elim|conv=>whnf)|(refine kB ?_))
   all_goals
        have hf2:Fr σ σ2 []:=f0.trans (((f1.mono (by simp)).trans f2).mono (by simp))
        first
        |exact again.mk ⟨_,by omega,i+1,_,_,rfl,by omega,rfl,rfl,hf2,hno' (by omega)⟩
        |exact hN ⟨_,hme,by omega⟩ _ _ _ hf2
        |(exfalso;omega)
 ·obtain rfl:i=E.length:=by omega
  (conv=>whnf);repeat' (first  |(refine kA ?_;conv=>whnf)|(refine Br.mk (fun hc=>?_) fun hc=>?_<;>first|exact hc.elim|conv=>whnf)|(refine kB ?_))
  all_goals first
   |exact hY (by rw[List.take_length]at hno;exact hno) _ _ _ f0
   |(exfalso;omega)
end
section
variable {σ:List Obj} {d gd:Nat} {vN vE:AV} {nb eb:Bool} {N:List EN} {E:List EE} {x y:Int} {ct:Nat} {K:AX→Am→Prop}
set_option maxHeartbeats 2000000 in
theorem AjH {z fr to:Int} {nm:List UInt8} {v:GV} (h:Ed σ d gd vN vE nb eb N E x y) (hq:Ask N E x y) (hf:∃n∈N,n.n.id=z)
 (hP:(∃ e∈E.map EE.e,e.fr=z∨e.to=z)→∀σ' c',Fr σ σ' []→K (.DI (.iface 199 (.int .i64 12))) ⟨σ',c'⟩)
 (hR:(¬ ∃e∈E.map EE.e,e.fr=z∨e.to=z)→∀σ' c' Xd N',Ed σ' d gd Xd vE nb eb N' E x y→N'.map EN.n=CP Cc GN.id z (N.map EN.n)→Fr σ σ' (d::(vN.obj++(vE.obj++BO N E)))→K (.ok (.Cb [])) ⟨σ',c'⟩):
 A8 (Ad tab) 153 [.ref d gd 0 0,(GC.mk 2 z fr to nm v).av] ⟨σ,ct⟩ K:=by
 have DF:=hq.deep
 have hlN:=hq.lN
 have hlE:=hq.lE
 obtain⟨rfl,o,g,cn,i,hi,rfl,ho,hcn,hid,q1,hbt⟩:=h.at hq hf
 show A8 (Ad tab) _ [.ref d gd 0 0,.agg [.int .i64 2,.int .i64 z,.int .i64 fr,.int .i64 to,.str nm,.int .i64 v.k,.int .i64 v.n,.int .i64 v.d,.str v.s,.sl v.nn v.l]] _ _
 have hdl:=BH h.box
 have hdo:d∉[o]:=by have:=h.nd;simp[AV.obj]at this;simpa using this.1.1
 have hod:o∉[d]:=fun hm=>hdo (by simp at hm ⊢;exact hm.symm)
 have fin:∀σ1 σ2 σ3 c' (gg:Nat),Fr σ σ1 []→Fr σ1 σ2 [o]→Fr σ2 σ3 [d]→nth σ2 o=some (.arr gg 3 true cn (vs EN.av (N.take i++N.drop (i+1))))→
  nth σ3 d=some (.arr gd 4 true false [.agg [.own o gg 0 (i+(N.length-(i+1))),vE,.int .i64 x,.int .i64 y]])→(¬ ∃e∈E.map EE.e,e.fr=z∨e.to=z)→K (.ok (.Cb [])) ⟨σ3,c'⟩:=by
  intro σ1 σ2 σ3 c' gg f1 f2 f3 h2 h3 hno
  have hF:Fr σ σ3 [d,o]:=((f1.mono (by simp)).trans (f2.mono (by simp))).trans (f3.mono (by simp))
  have h23:=f3.get h2 hod
  have hl4:(N.take i++N.drop (i+1)).length=i+(N.length-(i+1)):=by simp only[List.length_append,List.length_take,List.length_drop];omega
  have hed:=h.AkN (N':=N.take i++N.drop (i+1)) (x':=x) hF (by simp[AV.obj]) h3 (.inr ⟨rfl,_,_,by rw[hl4],h23⟩) hcn (fun e he=>by
        rcases List.mem_append.1 he with he|he
        ·exact .inl (List.mem_of_mem_take he)
        ·exact .inl (List.mem_of_mem_drop he)) (by
        rw[List.flatMap_append,Ld hi]
        exact(List.Sublist.refl _).append (List.sublist_append_right _ _)) (fun o ho=>.inl ho) (by simp)
  refine hR hno _ _ _ _ hed ?_ (hF.mono (by simp[AV.obj]))
  have:=q1.del (key:=GN.id) Ag hq.iN ⟨(N[i]).n,List.mem_map_of_mem (List.getElem_mem hi),hid⟩
  rw[← this]
  simp only[List.map_append,List.map_take,List.map_drop]
 obtain⟨ce,he1,he2⟩:=h.he
 have fp:∀σ1 σ2 c',Fr σ σ1 []→Fr σ1 σ2 []→(∃ e∈E.map EE.e,e.fr=z∨e.to=z)→K (.DI (.iface 199 (.int .i64 12))) ⟨σ2,c'⟩:=fun σ1 σ2 c' f1 f2 hx=>hP hx _ _ (f1.trans f2)
 rcases he1 with⟨rfl,rfl,rfl|⟨oe,ge,es',rfl,hoe⟩⟩|⟨rfl,oe,ge,rfl,hoe⟩
 ·exact absurd rfl h.oE
 ·refine Ar rfl rfl ?_
  (conv=>whnf);repeat' (first|(refine CJ fun σ1 f1 h1 l1=>?_;have hE1:=h.Ol f1;have hd1:=hE1.box;have ho1:=f1.get ho (by simp);conv=>whnf)|(apply AL (hE1.RF 999999 DF);conv=>whnf)|(refine Aa hbt ?_;rintro _ rfl;conv=>whnf)|(refine Ez ?_;conv=>whnf)|(rw [h1];conv=>whnf)|(rw [hd1];conv=>whnf)|(rw [ho1];conv=>whnf)|(refine kA ?_;conv=>whnf)|(refine Br.mk (fun hc=>?_) fun hc=>?_<;>first|exact hc.elim|conv=>whnf)|(refine kB ?_))
  all_goals first|(exfalso;omega)|skip
  refine Acj (E:=[]) (c:=true) (by simp) (fun h=>absurd rfl h) (by simp) h1 (fun hx env' σ2 c2 f2=>by simp at hx) (fun hx σ2 c2 tl f2=>?_)
  have hd2:=f2.get hd1 (by simp)
  have ho2:=f2.get ho1 (by simp)
  (conv=>whnf);repeat' (first|(rw [hd2];conv=>whnf)|(rw [ho2];conv=>whnf)|(refine Ux (fv:=EN.av) rfl rfl hi rfl ho2 fun σ3 f3 h3=>?_;have hd3:=f3.get hd2 hdo;conv=>whnf)|(rw [hd3];conv=>whnf)|(refine E8 hd3 fun σ4 f4 h4 l4=>?_;conv=>whnf)|(refine kA ?_;conv=>whnf)|(refine Br.mk (fun hc=>?_) fun hc=>?_<;>first|exact hc.elim|conv=>whnf)|(refine kB ?_))
  all_goals first|exact fin σ2 σ3 σ4 _ _ (f1.trans f2) f3 f4 h3 h4 hx
 ·refine Ar rfl rfl ?_
  (conv=>whnf);repeat' (first|(refine CJ fun σ1 f1 h1 l1=>?_;have hE1:=h.Ol f1;have hd1:=hE1.box;have ho1:=f1.get ho (by simp);have Apv:=f1.get hoe (by simp);conv=>whnf)|(apply AL (hE1.RF 999999 DF);conv=>whnf)|(refine Aa hbt ?_;rintro _ rfl;conv=>whnf)|(refine Ez ?_;conv=>whnf)|(rw [h1];conv=>whnf)|(rw [hd1];conv=>whnf)|(rw [ho1];conv=>whnf)|(refine kA ?_;conv=>whnf)|(refine Br.mk (fun hc=>?_) fun hc=>?_<;>first|exact hc.elim|conv=>whnf)|(refine kB ?_))
  all_goals first|(exfalso;omega)|skip
  refine Acj hlE (fun _=>Apv) hE1.hE h1 (fun hx env' σ2 c2 f2=>fp _ _ _ f1 f2 hx) (fun hx σ2 c2 tl f2=>?_)
  have hd2:=f2.get hd1 (by simp)
  have ho2:=f2.get ho1 (by simp)
  (conv=>whnf);repeat' (first|(rw [hd2];conv=>whnf)|(rw [ho2];conv=>whnf)|(refine Ux (fv:=EN.av) rfl rfl hi rfl ho2 fun σ3 f3 h3=>?_;have hd3:=f3.get hd2 hdo;conv=>whnf)|(rw [hd3];conv=>whnf)|(refine E8 hd3 fun σ4 f4 h4 l4=>?_;conv=>whnf)|(refine kA ?_;conv=>whnf)|(refine Br.mk (fun hc=>?_) fun hc=>?_<;>first|exact hc.elim|conv=>whnf)|(refine kB ?_))
  all_goals first|exact fin σ2 σ3 σ4 _ _ (f1.trans f2) f3 f4 h3 h4 hx
end
end AI
end Go.Proofs.YtchcadfjbkkgmaaGreatDoor
