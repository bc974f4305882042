/- An editor's change of a node: labels. An editor's change of a node: labels taken away, properties set. An editor's change of an edge: looking it up; taking one away. An editor's change of an edge: a property set. -/
import Derived.Test.YtjijnamhalgamaaGreatDoorTMai
set_option linter.unusedVariables false
set_option maxRecDepth 4000
namespace Go.Proofs.YtjijnamhalgamaaGreatDoor
namespace AI
section
variable {σ:List Obj} {d gd:Nat} {vN vE:AV} {nb eb:Bool} {N:List EN} {E:List EE} {x y:Int} {ct:Nat} {K:AB→Am→Prop}
theorem Ed.at (h:Ed σ d gd vN vE nb eb N E x y) (hq:Ask N E x y) {z:Int} (hf:∃n∈N,n.n.id=z):nb=true∧∃o g c i,∃hi:i<N.length,vN=.own o g 0 N.length∧nth σ o=some (.arr g 3 true c (vs EN.av N))∧(c=true→∀e∈N,e.av.closed=true)∧(N[i]).n.id=z∧AtK DY GN.id z (N.map EN.n) i∧
 Ae (Ad tab) 195 [.CJ (J4 nb eb N E x y).av.cells,.int .i64 z] (· =.BD [.int .i64 (i:Nat),.bool true]):=by
 obtain⟨i,q1,hbt⟩:=PE (nb:=nb) (eb:=eb) hq hf
 obtain⟨n,hn,e⟩:=hf
 obtain⟨hil,hid,_⟩:=q1.found Aw hq.iN ⟨n.n,List.mem_map_of_mem hn,e⟩
 rw[List.length_map]at hil
 obtain⟨cn,hn1,hn2⟩:=h.hn
 rcases hn1 with⟨_,rfl,_⟩|⟨rfl,o,g,rfl,ho⟩
 ·simp at hil
 ·exact⟨rfl,o,g,cn,i,hil,rfl,ho,hn2,by simpa using hid,q1,hbt⟩
theorem QB {α:Type} {f:α→AV} {l:List α} {i:Nat} {a:α}:(vs f l).set i (f a)=vs f (l.set i a):=by simp[vs,List.map_set]
set_option maxHeartbeats 2000000 in
theorem Ahw {op z fr to:Int} {nm:List UInt8} {v:GV} (h:Ed σ d gd vN vE nb eb N E x y) (hq:Ask N E x y) (hz:1≤z∧z≤1000000) (hop:op=2∨op=3∨op=4∨op=5) (hf:¬∃n∈N,n.n.id=z)
 (hP:∀σ' c',Fr σ σ' []→K (.Dq (.iface 154 (.int .i64 10))) ⟨σ',c'⟩):
 Ar (Ad tab) 127 [.ref d gd 0 0,(GC.mk op z fr to nm v).av] ⟨σ,ct⟩ K:=by
 have Dj:=hq.deep
 obtain⟨i,q1,hbt⟩:=TK (nb:=nb) (eb:=eb) hq hf
 show Ar (Ad tab) _ [.ref d gd 0 0,.agg [.int .i64 op,.int .i64 z,.int .i64 fr,.int .i64 to,.str nm,.int .i64 v.k,.int .i64 v.n,.int .i64 v.d,.str v.s,.sl v.nn v.l]] _ _
 rcases hop with rfl|rfl|rfl|rfl
 all_goals
  refine Ai rfl rfl ?_
  (conv=>whnf);repeat' (first|((first|(refine BU fun σ1 f1 h1 l1=>?_;have hE1:=h.NK f1)|apply Aj (hE1.QY 999999 Dj)|apply kE hbt|refine Je ?_|rw[h1]|refine kA ?_|(apply Br.mk<;>intro hc))<;>first|exact hc.elim|conv=>whnf)|refine kB ?_)
  all_goals first|exact hP _ _ f1
set_option maxHeartbeats 2000000 in
theorem AkI {z fr to:Int} {nm:List UInt8} {v:GV} (h:Ed σ d gd vN vE nb eb N E x y) (hq:Ask N E x y) (hz:1≤z∧z≤1000000) (hf:∃n∈N,n.n.id=z)
 (hP:(∃ n∈N.map EN.n,n.id=z∧nm∈n.labels)→∀σ' c',Fr σ σ' []→K (.Dq (.iface 154 (.int .i64 7))) ⟨σ',c'⟩)
 (hQ:(∃ n∈N.map EN.n,n.id=z∧nm∉n.labels∧¬n.labels.length<8)→∀σ' c',Fr σ σ' []→K (.Dq (.iface 154 (.int .i64 20))) ⟨σ',c'⟩)
 (hR:∀n∈N.map EN.n,n.id=z→nm∉n.labels→n.labels.length<8→∀σ' c' N',Ed σ' d gd vN vE nb eb N' E x y→N'.map EN.n=BZ DY GN.id {n with ln:=true,labels:=BZ Op.bytesLess id nm n.labels} (N.map EN.n)→Fr σ σ' (d::(vN.obj++(vE.obj++Bz N E)))→K (.ok (.BD [])) ⟨σ',c'⟩):
 Ar (Ad tab) 127 [.ref d gd 0 0,(GC.mk 3 z fr to nm v).av] ⟨σ,ct⟩ K:=by
 have Dj:=hq.deep
 have hlN:=hq.lN
 obtain⟨rfl,o,g,cn,i,hi,rfl,ho,hcn,hid,q1,hbt⟩:=h.at hq hf
 have hmem:N[i]∈N:=List.getElem_mem hi
 have hok:=h.hN _ hmem
 obtain⟨hil,hl8⟩:=hq.iL _ hmem
 have hap:=h.Iy hi
 show Ar (Ad tab) _ [.ref d gd 0 0,.agg [.int .i64 3,.int .i64 z,.int .i64 fr,.int .i64 to,.str nm,.int .i64 v.k,.int .i64 v.n,.int .i64 v.d,.str v.s,.sl v.nn v.l]] _ _
 obtain⟨e,he⟩:∃e,e=N[i]:=⟨_,rfl⟩
 rw[← he]at hok hil hl8
 have hnt:nth (vs EN.av N) (Int.toNat (i:Int))=some e.av:=by rw[he];exact nV hi
 have Lm:nth (vs EN.av N) i=some e.av:=by rw[he];exact nV hi
 obtain⟨n,lv,pv⟩:=e
 have hok1:Hd .str 1 σ lv n.ln n.labels true:=hok.1
 have hok2:Hd GP.av 6 σ pv n.pn n.props true:=hok.2
 replace hl8:n.labels.length≤8:=hl8
 replace hil:Inc Op.bytesLess id n.labels:=hil
 have hmm:n∈N.map EN.n:=by rw[show n=(N[i]).n by rw[← he]];exact List.mem_map_of_mem hmem
 have hnz:n.id=z:=by rw[show n=(N[i]).n by rw[← he]];exact hid
 have hbs:=fun(nn:Bool)=>(bsS (nn:=nn) (x:=nm) (l:=n.labels) (by omega) hil).KI
 by_cases hin:nm∈n.labels
 ·have hbq:∀nn,∃j:Nat,Ae (Ad tab) 199 [.sl nn (vs .str n.labels),.str nm] (· =.BD [.int .i64 j,.bool true]):=fun nn=>by
   obtain⟨_,⟨j,b,rfl,r1,r2⟩,hd⟩:=hbs nn
   rw[r2.2 ⟨nm,hin,rfl⟩]at hd
   exact⟨j,hd⟩
  rcases hok1 with⟨hb,hl0,_⟩|⟨hb,ol,gl,rfl,hol⟩
  ·rw[hl0]at hin;simp at hin
  ·obtain⟨j,hbj⟩:=hbq true
   refine Ai rfl rfl ?_
   (conv=>whnf);repeat' (first|((first|(refine BU fun σ1 f1 h1 l1=>?_;have hE1:=h.NK f1;have hd1:=hE1.box;have ho1:=f1.get ho (by simp);have hl1:=f1.get hol (by simp))|apply Aj (hE1.QY 999999 Dj)|apply kE hbt|apply kE hbj|refine Eh ?_|refine Je ?_|rw[h1]|rw[hd1]|rw[ho1]|rw[hl1]|refine Af hnt ?_|refine Af Lm ?_|refine kA ?_|(apply Br.mk<;>intro hc))<;>first|exact hc.elim|conv=>whnf)|refine kB ?_)
   all_goals first|exact hP ⟨n,hmm,hnz,hin⟩ _ _ f1
 ·have hbq:∀nn,∃j:Nat,AtK Op.bytesLess id nm n.labels j∧Ae (Ad tab) 199 [.sl nn (vs .str n.labels),.str nm] (· =.BD [.int .i64 j,.bool false]):=fun nn=>by
   obtain⟨_,⟨j,b,rfl,r1,r2⟩,hd⟩:=hbs nn
   cases b
   ·exact⟨j,r1,hd⟩
   ·obtain⟨w,hw,rfl⟩:=r2.1 rfl
    exact absurd hw hin
  have hno:∀w∈n.labels,id w≠nm:=fun w hw e=>hin (e▸hw)
  have hdl:=BR h.box
  have Aq6:=BR ho
  have fin:∀σ1 σ2 σ3 c' lv',Fr σ σ1 []→Fr σ1 σ2 lv.obj→Fr σ2 σ3 [o]→nth σ3 o=some (.arr g 3 true false (vs EN.av (N.set i ⟨{n with ln:=true,labels:=BZ Op.bytesLess id nm n.labels},lv',pv⟩)))→
        Hd .str 1 σ2 lv' true (BZ Op.bytesLess id nm n.labels) true→(∀ q∈lv'.obj,q∈lv.obj∨σ1.length≤q)→n.labels.length<8→K (.ok (.BD [])) ⟨σ3,c'⟩:=by
   intro σ1 σ2 σ3 c' lv' f1 f2 f3 h3 h2 hob hlt
   have MN:(N[i]).objs=lv.obj++pv.obj:=by rw[← he];rfl
   have hov:∀q∈lv.obj++pv.obj,q≠o:=fun q hq e=>(hap q (.inr (by rw[MN];exact hq))).2.2.2.2 (by rw[MN];exact hq) |>.1 (by simp[AV.obj,e])
   have hnd:(lv.obj++pv.obj).Nodup:=by
        have h0:=h.nd
        rw[Lu hi,MN,List.nodup_cons,List.nodup_append,List.nodup_append,List.nodup_append,List.nodup_append]at h0
        exact h0.2.2.1.2.1.1.2.1
   have hlp:∀q∈pv.obj,q<σ.length:=hok2.lt
   have hll:∀q∈lv.obj,q<σ.length:=hok1.lt
   have hF:Fr σ σ3 (o::(N[i]).objs):=((f1.mono (by simp)).trans (f2.mono (fun q hq=>.inl (by rw[MN];simp[hq])))).trans (f3.mono (by simp))
   have hlv:∀q∈lv'.obj,q≠o∧q∉pv.obj:=fun q hq=>by
        rcases hob q hq with hm|hm
        ·exact⟨hov q (List.mem_append_left _ hm),fun hp=>(List.nodup_append.1 hnd).2.2 q hm q hp rfl⟩
        ·have:=f1.len;exact⟨by omega,fun hp=>by have:=hlp q hp;omega⟩
   have h23:Hd .str 1 σ3 lv' true (BZ Op.bytesLess id nm n.labels) true:=h2.keep fun q hq=>f3.eq q (h2.lt q hq) (by simpa using(hlv q hq).1)
   have hp3:Hd GP.av 6 σ3 pv n.pn n.props true:=hok2.keep fun q hq=>by
        have hql:=hlp q hq
        refine(f3.eq q (by have:=f1.len;have:=f2.len;omega) (by simpa using hov q (List.mem_append_right _ hq))).trans ((f2.eq q (by have:=f1.len;omega) fun hm=>(List.nodup_append.1 hnd).2.2 q hm q hq rfl).trans (f1.eq q hql (by simp)))
   refine hR n hmm hnz hin hlt σ3 c' _ (h.setNode hi hF h3 (by simp) ⟨h23,hp3⟩ (fun q hq=>?_) ?_) ?_ (hF.mono fun q hq=>?_)
   ·rcases List.mem_append.1 hq with hq|hq
    ·rcases hob q hq with hm|hm
     ·exact .inl (by rw[MN];exact List.mem_append_left _ hm)
     ·have:=f1.len;exact .inr (by omega)
    ·exact .inl (by rw[MN];exact List.mem_append_right _ hq)
   ·exact List.nodup_append.2 ⟨h2.nodup,hok2.nodup,fun a ha b hb e=>(hlv a ha).2 (e▸hb)⟩
   ·rw[List.map_set]
    refine AtK.set (key:=GN.id) (x:={n with ln:=true,labels:=BZ Op.bytesLess id nm n.labels}) Aw hq.iN (by rw[show GN.id _=z from hnz];exact q1) ⟨n,hmm,rfl⟩
   ·rcases List.mem_cons.1 hq with rfl|hq
    ·exact .inl (by simp[AV.obj])
    ·exact .inl (by simp[Jb hmem hq])
  by_cases hlt:n.labels.length<8
  ·rcases hok1 with⟨hb,hl0,rfl|⟨ol,gl,el,rfl,hol⟩⟩|⟨hb,ol,gl,rfl,hol⟩
   ·obtain⟨j,hj,hbj⟩:=hbq false
    rw[hl0]at hbj hj
    obtain rfl:j=0:=by simpa using hj.le
    refine Ai rfl rfl ?_
    (conv=>whnf);repeat' (first|((first|(refine BU fun σ1 f1 h1 l1=>?_;have hE1:=h.NK f1;have hd1:=hE1.box;have ho1:=f1.get ho (by simp))|apply Aj (hE1.QY 999999 Dj)|apply kE hbt|apply kE hbj|refine Eh ?_|rw[h1]|rw[hd1]|rw[ho1]|refine Af hnt ?_|refine Af Lm ?_|(refine Ae0 (x:=.str nm) rfl rfl (by omega) fun σ2 f2 h2=>?_;have ho2:=f2.get ho1 (by simp))|rw[ho2]|refine EL ho2 fun σ3 f3 h3 l3=>?_|refine kA ?_|(apply Br.mk<;>intro hc))<;>first|exact hc.elim|conv=>whnf)|refine kB ?_)
    all_goals first
     |exact fin σ1 σ2 σ3 _ _ f1 (f2.mono (by simp)) f3 (h3.trans (by rw[← QB];rfl)) (.inr ⟨rfl,_,_,by rw[hl0];rfl,by rw[hl0];exact h2⟩) (fun q hq=>.inr (by simp only[AV.obj,List.mem_singleton]at hq;subst hq;exact Nat.le_refl _)) hlt
   ·obtain⟨j,hj,hbj⟩:=hbq false
    rw[hl0]at hbj hj
    obtain rfl:j=0:=by simpa using hj.le
    refine Ai rfl rfl ?_
    (conv=>whnf);repeat' (first|((first|(refine BU fun σ1 f1 h1 l1=>?_;have hE1:=h.NK f1;have hd1:=hE1.box;have ho1:=f1.get ho (by simp);have hl1:=f1.get hol (by simp))|apply Aj (hE1.QY 999999 Dj)|apply kE hbt|apply kE hbj|refine Eh ?_|rw[h1]|rw[hd1]|rw[ho1]|refine Af hnt ?_|refine Af Lm ?_|rw[hl1]|(refine RH (x:=.str nm) rfl rfl (by omega) hl1 fun σ2 f2 h2=>?_;have ho2:=f2.get ho1 (by simp))|rw[ho2]|refine EL ho2 fun σ3 f3 h3 l3=>?_|refine kA ?_|(apply Br.mk<;>intro hc))<;>first|exact hc.elim|conv=>whnf)|refine kB ?_)
    all_goals first
     |exact fin σ1 σ2 σ3 _ _ f1 (f2.mono (by simp)) f3 (h3.trans (by rw[← QB];rfl)) (.inr ⟨rfl,_,_,by rw[hl0];rfl,by rw[hl0];exact h2⟩) (fun q hq=>.inr (by simp only[AV.obj,List.mem_singleton]at hq;subst hq;exact Nat.le_refl _)) hlt
   ·obtain⟨j,hj,hbj⟩:=hbq true
    have hjl:=hj.le
    have hoo:o∉[ol]:=by
     have:=(hap ol (.inr (by rw[← he];simp[EN.objs,AV.obj]))).2.2.2.2 (by rw[← he];simp[EN.objs,AV.obj]) |>.1
     simpa[AV.obj,eq_comm]using this
    refine Ai rfl rfl ?_
    (conv=>whnf);repeat' (first|((first|(refine BU fun σ1 f1 h1 l1=>?_;have hE1:=h.NK f1;have hd1:=hE1.box;have ho1:=f1.get ho (by simp);have hl1:=f1.get hol (by simp))|apply Aj (hE1.QY 999999 Dj)|apply kE hbt|apply kE hbj|refine Eh ?_|rw[h1]|rw[hd1]|rw[ho1]|refine Af hnt ?_|refine Af Lm ?_|rw[hl1]|(refine WA (fv:=.str) (x:=nm) rfl rfl (by omega) rfl hjl hl1 fun σ2 f2 h2=>?_;have ho2:=f2.get ho1 hoo)|rw[ho2]|refine EL ho2 fun σ3 f3 h3 l3=>?_|refine kA ?_|(apply Br.mk<;>intro hc))<;>first|exact hc.elim|conv=>whnf)|refine kB ?_)
    have hp:=AtK.ins (key:=id) (x:=nm) AA hj hno
    have hlen2:n.labels.length+1=(BZ Op.bytesLess id nm n.labels).length:=by rw[← hp,List.length_append,List.length_append,List.length_take,List.length_drop,List.length_singleton];omega
    rw[hp]at h2
    exact fin σ1 σ2 σ3 _ (.own ol _ 0 (n.labels.length+1)) f1 f2 f3 (h3.trans (by rw[← QB];rfl)) (.inr ⟨rfl,_,_,by rw[hlen2],h2⟩) (fun q hq=>.inl hq) hlt
  ·rcases hok1 with⟨hb,hl0,_⟩|⟨hb,ol,gl,rfl,hol⟩
   ·rw[hl0]at hlt;simp at hlt
   ·obtain⟨j,_,hbj⟩:=hbq true
    refine Ai rfl rfl ?_
    (conv=>whnf);repeat' (first|((first|(refine BU fun σ1 f1 h1 l1=>?_;have hE1:=h.NK f1;have hd1:=hE1.box;have ho1:=f1.get ho (by simp);have hl1:=f1.get hol (by simp))|apply Aj (hE1.QY 999999 Dj)|apply kE hbt|apply kE hbj|refine Eh ?_|refine Je ?_|rw[h1]|rw[hd1]|rw[ho1]|rw[hl1]|refine Af hnt ?_|refine Af Lm ?_|refine kA ?_|(apply Br.mk<;>intro hc))<;>first|exact hc.elim|conv=>whnf)|refine kB ?_)
    all_goals first|exact hQ ⟨n,hmm,hnz,hin,hlt⟩ _ _ f1
end
section
variable {σ σ1 σ2 σ3:List Obj} {d gd:Nat} {vN vE:AV} {nb eb:Bool} {N:List EN} {E:List EE} {x y:Int} {ct:Nat} {K:AB→Am→Prop}
theorem Ed.ndN (h:Ed σ d gd vN vE nb eb N E x y) {i:Nat} (hi:i<N.length):(N[i]).objs.Nodup:=by
 have h0:=h.nd
 rw[Lu hi,List.nodup_cons,List.nodup_append,List.nodup_append,List.nodup_append,List.nodup_append]at h0
 exact h0.2.2.1.2.1.1.2.1
theorem Ed.ndE (h:Ed σ d gd vN vE nb eb N E x y) {i:Nat} (hi:i<E.length):(E[i]).objs.Nodup:=by
 have h0:=h.nd
 rw[MP hi,List.nodup_cons,List.nodup_append,List.nodup_append,List.nodup_append,List.nodup_append]at h0
 exact h0.2.2.1.2.1.1.2.1
theorem Ed.AmT {o g i:Nat} (h:Ed σ d gd (.own o g 0 N.length) vE true eb N E x y) (hi:i<N.length) {e':EN} {c':Bool} (f1:Fr σ σ1 []) (f2:Fr σ1 σ2 (N[i]).objs) (f3:Fr σ2 σ3 [o])
 (h3:nth σ3 o=some (.arr g 3 true c' (vs EN.av (N.set i e')))) (hc:c'=true→∀e∈N.set i e',e.av.closed=true) (hok:e'.Ok σ2) (hob:∀q∈e'.objs,q∈(N[i]).objs∨σ1.length≤q) (hnd:e'.objs.Nodup):
 Ed σ3 d gd (.own o g 0 N.length) vE true eb (N.set i e') E x y∧Fr σ σ3 (d::((AV.own o g 0 N.length).obj++(vE.obj++Bz N E))):=by
 have hap:=h.Iy hi
 have hol:o<σ.length:=h.OE o (by simp[AV.obj])
 have hF:Fr σ σ3 (o::(N[i]).objs):=((f1.mono (by simp)).trans (f2.mono (fun q hq=>.inl (by simp[hq])))).trans (f3.mono (by simp))
 have hne:∀q∈e'.objs,q≠o:=fun q hq e=>by
  rcases hob q hq with hm|hm
  ·exact((hap q (.inr hm)).2.2.2.2 hm).1 (by simp[AV.obj,e])
  ·have:=f1.len;omega
 refine⟨h.setNode hi hF h3 hc (hok.keep fun q hq=>f3.eq q (hok.lt q hq) (by simpa using hne q hq)) (fun q hq=>(hob q hq).imp id fun hm=>by have:=f1.len;omega) hnd,hF.mono fun q hq=>?_⟩
 rcases List.mem_cons.1 hq with rfl|hq
 ·exact .inl (by simp[AV.obj])
 ·exact .inl (by simp[Jb (List.getElem_mem hi) hq])
theorem Ed.AoE {o g i:Nat} (h:Ed σ d gd vN (.own o g 0 E.length) nb true N E x y) (hi:i<E.length) {e':EE} {c':Bool} (f1:Fr σ σ1 []) (f2:Fr σ1 σ2 (E[i]).objs) (f3:Fr σ2 σ3 [o])
 (h3:nth σ3 o=some (.arr g 5 true c' (vs EE.av (E.set i e')))) (hc:c'=true→∀e∈E.set i e',e.av.closed=true) (hok:e'.Ok σ2) (hob:∀q∈e'.objs,q∈(E[i]).objs∨σ1.length≤q) (hnd:e'.objs.Nodup):
 Ed σ3 d gd vN (.own o g 0 E.length) nb true N (E.set i e') x y∧Fr σ σ3 (d::(vN.obj++((AV.own o g 0 E.length).obj++Bz N E))):=by
 have hap:=h.ZJ hi
 have hol:o<σ.length:=h.OE o (by simp[AV.obj])
 have hF:Fr σ σ3 (o::(E[i]).objs):=((f1.mono (by simp)).trans (f2.mono (fun q hq=>.inl (by simp[hq])))).trans (f3.mono (by simp))
 have hne:∀q∈e'.objs,q≠o:=fun q hq e=>by
  rcases hob q hq with hm|hm
  ·exact((hap q (.inr hm)).2.2.2.2 hm).1 (by simp[AV.obj,e])
  ·have:=f1.len;omega
 refine⟨h.Aha hi hF h3 hc (hok.keep fun q hq=>f3.eq q (hok.lt q hq) (by simpa using hne q hq)) (fun q hq=>(hob q hq).imp id fun hm=>by have:=f1.len;omega) hnd,hF.mono fun q hq=>?_⟩
 rcases List.mem_cons.1 hq with rfl|hq
 ·exact .inl (by simp[AV.obj])
 ·exact .inl (by simp[Kz (List.getElem_mem hi) hq])
set_option maxHeartbeats 2000000 in
theorem Aks {z fr to:Int} {nm:List UInt8} {v:GV} (h:Ed σ d gd vN vE nb eb N E x y) (hq:Ask N E x y) (hz:1≤z∧z≤1000000) (hf:∃n∈N,n.n.id=z)
 (hP:(∃ n∈N.map EN.n,n.id=z∧nm∉n.labels)→∀σ' c',Fr σ σ' []→K (.Dq (.iface 154 (.int .i64 23))) ⟨σ',c'⟩)
 (hR:∀n∈N.map EN.n,n.id=z→nm∈n.labels→∀σ' c' N',Ed σ' d gd vN vE nb eb N' E x y→N'.map EN.n=BZ DY GN.id {n with ln:=true,labels:=Gg Op.bytesLess id nm n.labels} (N.map EN.n)→Fr σ σ' (d::(vN.obj++(vE.obj++Bz N E)))→K (.ok (.BD [])) ⟨σ',c'⟩):
 Ar (Ad tab) 127 [.ref d gd 0 0,(GC.mk 4 z fr to nm v).av] ⟨σ,ct⟩ K:=by
 have Dj:=hq.deep
 have hlN:=hq.lN
 obtain⟨rfl,o,g,cn,i,hi,rfl,ho,hcn,hid,q1,hbt⟩:=h.at hq hf
 have hmem:N[i]∈N:=List.getElem_mem hi
 have hok:=h.hN _ hmem
 obtain⟨hil,hl8⟩:=hq.iL _ hmem
 have hap:=h.Iy hi
 have Yd:=h.ndN hi
 show Ar (Ad tab) _ [.ref d gd 0 0,.agg [.int .i64 4,.int .i64 z,.int .i64 fr,.int .i64 to,.str nm,.int .i64 v.k,.int .i64 v.n,.int .i64 v.d,.str v.s,.sl v.nn v.l]] _ _
 obtain⟨e,he⟩:∃e,e=N[i]:=⟨_,rfl⟩
 rw[← he]at hok hil hl8 Yd
 have hnt:nth (vs EN.av N) (Int.toNat (i:Int))=some e.av:=by rw[he];exact nV hi
 have Lm:nth (vs EN.av N) i=some e.av:=by rw[he];exact nV hi
 obtain⟨n,lv,pv⟩:=e
 have hok1:Hd .str 1 σ lv n.ln n.labels true:=hok.1
 have hok2:Hd GP.av 6 σ pv n.pn n.props true:=hok.2
 replace hl8:n.labels.length≤8:=hl8
 replace hil:Inc Op.bytesLess id n.labels:=hil
 have hmm:n∈N.map EN.n:=by rw[show n=(N[i]).n by rw[← he]];exact List.mem_map_of_mem hmem
 have hnz:n.id=z:=by rw[show n=(N[i]).n by rw[← he]];exact hid
 have hbs:=fun(nn:Bool)=>(bsS (nn:=nn) (x:=nm) (l:=n.labels) (by omega) hil).KI
 by_cases hin:nm∈n.labels
 ·have hfi:∃w∈n.labels,id w=nm:=⟨nm,hin,rfl⟩
  have hbq:∃j:Nat,AtK Op.bytesLess id nm n.labels j∧Ae (Ad tab) 199 [.sl true (vs .str n.labels),.str nm] (· =.BD [.int .i64 j,.bool true]):=by
   obtain⟨_,⟨j,b,rfl,r1,r2⟩,hd⟩:=hbs true
   rw[r2.2 hfi]at hd
   exact⟨j,r1,hd⟩
  obtain⟨j,hj,hbj⟩:=hbq
  obtain⟨hjl,_,_⟩:=hj.found AA hil hfi
  rcases hok1 with⟨hb,hl0,_⟩|⟨hb,ol,gl,rfl,hol⟩
  ·rw[hl0]at hin;simp at hin
  ·have hoo:o∉[ol]:=by
        have:=(hap ol (.inr (by rw[← he];simp[EN.objs,AV.obj]))).2.2.2.2 (by rw[← he];simp[EN.objs,AV.obj]) |>.1
        simpa[AV.obj,eq_comm]using this
   refine Ai rfl rfl ?_
   (conv=>whnf);repeat' (first|((first|(refine BU fun σ1 f1 h1 l1=>?_;have hE1:=h.NK f1;have hd1:=hE1.box;have ho1:=f1.get ho (by simp);have hl1:=f1.get hol (by simp))|apply Aj (hE1.QY 999999 Dj)|apply kE hbt|apply kE hbj|refine Eh ?_|rw[h1]|rw[hd1]|rw[ho1]|rw[hl1]|refine Af hnt ?_|refine Af Lm ?_|(refine Ub rfl rfl hjl rfl hl1 fun σ2 f2 h2=>?_;have ho2:=f2.get ho1 hoo)|rw[ho2]|refine EL ho2 fun σ3 f3 h3 l3=>?_|refine kA ?_|(apply Br.mk<;>intro hc))<;>first|exact hc.elim|conv=>whnf)|refine kB ?_)
   have hp:=hj.del AA hil hfi
   have hlen2:j+(n.labels.length-(j+1))=(Gg Op.bytesLess id nm n.labels).length:=by rw[← hp,List.length_append,List.length_take,List.length_drop];omega
   rw[hp]at h2
   have hpv:∀q∈pv.obj,q∉[ol]:=fun q hq hm=>by
        simp only[List.mem_singleton]at hm
        exact(List.nodup_append.1 Yd).2.2 ol (by simp[AV.obj]) q hq hm.symm
   have hr:=h.AmT (e':=⟨{n with ln:=true,labels:=Gg Op.bytesLess id nm n.labels},.own ol _ 0 (j+(n.labels.length-(j+1))),pv⟩) hi f1 (f2.mono (by rw[← he];simp[EN.objs,AV.obj])) f3 (h3.trans (by rw[← QB];rfl)) (by simp)
        ⟨.inr ⟨rfl,_,_,by rw[← hlen2],h2⟩,hok2.keep fun q hq=>(f2.eq q (Nat.lt_of_lt_of_le (hok2.lt q hq) f1.len) (hpv q hq)).trans (f1.eq q (hok2.lt q hq) (by simp))⟩ (fun q hq=>.inl (by rw[← he];exact hq)) Yd
   refine hR n hmm hnz hin σ3 _ _ hr.1 ?_ hr.2
   rw[List.map_set]
   exact AtK.set (key:=GN.id) (x:={n with ln:=true,labels:=Gg Op.bytesLess id nm n.labels}) Aw hq.iN (by rw[show GN.id _=z from hnz];exact q1) ⟨n,hmm,rfl⟩
 ·have hbq:∀nn,∃j:Nat,Ae (Ad tab) 199 [.sl nn (vs .str n.labels),.str nm] (· =.BD [.int .i64 j,.bool false]):=fun nn=>by
   obtain⟨_,⟨j,b,rfl,r1,r2⟩,hd⟩:=hbs nn
   cases b
   ·exact⟨j,hd⟩
   ·obtain⟨w,hw,rfl⟩:=r2.1 rfl
    exact absurd hw hin
  rcases hok1 with⟨hb,hl0,rfl|⟨ol,gl,el,rfl,hol⟩⟩|⟨hb,ol,gl,rfl,hol⟩
  ·obtain⟨j,hbj⟩:=hbq false
   rw[hl0]at hbj
   refine Ai rfl rfl ?_
   (conv=>whnf);repeat' (first|((first|(refine BU fun σ1 f1 h1 l1=>?_;have hE1:=h.NK f1;have hd1:=hE1.box;have ho1:=f1.get ho (by simp))|apply Aj (hE1.QY 999999 Dj)|apply kE hbt|apply kE hbj|refine Eh ?_|refine Je ?_|rw[h1]|rw[hd1]|rw[ho1]|refine Af hnt ?_|refine Af Lm ?_|refine kA ?_|(apply Br.mk<;>intro hc))<;>first|exact hc.elim|conv=>whnf)|refine kB ?_)
   all_goals first|exact hP ⟨n,hmm,hnz,hin⟩ _ _ f1
  ·obtain⟨j,hbj⟩:=hbq false
   rw[hl0]at hbj
   refine Ai rfl rfl ?_
   (conv=>whnf);repeat' (first|((first|(refine BU fun σ1 f1 h1 l1=>?_;have hE1:=h.NK f1;have hd1:=hE1.box;have ho1:=f1.get ho (by simp);have hl1:=f1.get hol (by simp))|apply Aj (hE1.QY 999999 Dj)|apply kE hbt|apply kE hbj|refine Eh ?_|refine Je ?_|rw[h1]|rw[hd1]|rw[ho1]|rw[hl1]|refine Af hnt ?_|refine Af Lm ?_|refine kA ?_|(apply Br.mk<;>intro hc))<;>first|exact hc.elim|conv=>whnf)|refine kB ?_)
   all_goals first|exact hP ⟨n,hmm,hnz,hin⟩ _ _ f1
  ·obtain⟨j,hbj⟩:=hbq true
   refine Ai rfl rfl ?_
   (conv=>whnf);repeat' (first|((first|(refine BU fun σ1 f1 h1 l1=>?_;have hE1:=h.NK f1;have hd1:=hE1.box;have ho1:=f1.get ho (by simp);have hl1:=f1.get hol (by simp))|apply Aj (hE1.QY 999999 Dj)|apply kE hbt|apply kE hbj|refine Eh ?_|refine Je ?_|rw[h1]|rw[hd1]|rw[ho1]|rw[hl1]|refine Af hnt ?_|refine Af Lm ?_|refine kA ?_|(apply Br.mk<;>intro hc))<;>first|exact hc.elim|conv=>whnf)|refine kB ?_)
   all_goals first|exact hP ⟨n,hmm,hnz,hin⟩ _ _ f1
set_option maxHeartbeats 2000000 in
theorem Aku {z fr to:Int} {nm:List UInt8} {v:GV} (h:Ed σ d gd vN vE nb eb N E x y) (hq:Ask N E x y) (hz:1≤z∧z≤1000000) (hv:v.ok) (hf:∃n∈N,n.n.id=z)
 (hP:(∃ n∈N.map EN.n,n.id=z∧¬AaO v∧(¬ ∃p∈n.props,GP.key p=nm)∧¬n.props.length<16)→∀σ' c',Fr σ σ' []→K (.Dq (.iface 154 (.int .i64 20))) ⟨σ',c'⟩)
 (hA:∀n∈N.map EN.n,n.id=z→AaO v→∀σ' c' N',Ed σ' d gd vN vE nb eb N' E x y→N'.map EN.n=BZ DY GN.id {n with props:=Gg Op.bytesLess GP.key nm n.props} (N.map EN.n)→Fr σ σ' (d::(vN.obj++(vE.obj++Bz N E)))→K (.ok (.BD [])) ⟨σ',c'⟩)
 (hB:∀n∈N.map EN.n,n.id=z→¬AaO v→((∃ p∈n.props,GP.key p=nm)∨n.props.length<16)→∀σ' c' N',Ed σ' d gd vN vE nb eb N' E x y→N'.map EN.n=BZ DY GN.id {n with pn:=true,props:=BZ Op.bytesLess GP.key ⟨nm,v⟩ n.props} (N.map EN.n)→Fr σ σ' (d::(vN.obj++(vE.obj++Bz N E)))→K (.ok (.BD [])) ⟨σ',c'⟩):
 Ar (Ad tab) 127 [.ref d gd 0 0,(GC.mk 5 z fr to nm v).av] ⟨σ,ct⟩ K:=by
 have Dj:=hq.deep
 have hlN:=hq.lN
 obtain⟨rfl,o,g,cn,i,hi,rfl,ho,hcn,hid,q1,hbt⟩:=h.at hq hf
 have hmem:N[i]∈N:=List.getElem_mem hi
 have hok:=h.hN _ hmem
 obtain⟨hip,ZI⟩:=hq.iP _ hmem
 have hap:=h.Iy hi
 have Yd:=h.ndN hi
 show Ar (Ad tab) _ [.ref d gd 0 0,.agg [.int .i64 5,.int .i64 z,.int .i64 fr,.int .i64 to,.str nm,.int .i64 v.k,.int .i64 v.n,.int .i64 v.d,.str v.s,.sl v.nn v.l]] _ _
 obtain⟨e,he⟩:∃e,e=N[i]:=⟨_,rfl⟩
 rw[← he]at hok hip ZI Yd
 have hnt:nth (vs EN.av N) (Int.toNat (i:Int))=some e.av:=by rw[he];exact nV hi
 have Lm:nth (vs EN.av N) i=some e.av:=by rw[he];exact nV hi
 obtain⟨n,lv,pv⟩:=e
 have hok1:Hd .str 1 σ lv n.ln n.labels true:=hok.1
 have hok2:Hd GP.av 6 σ pv n.pn n.props true:=hok.2
 replace ZI:n.props.length≤16:=ZI
 replace hip:Inc Op.bytesLess GP.key n.props:=hip
 have hmm:n∈N.map EN.n:=by rw[show n=(N[i]).n by rw[← he]];exact List.mem_map_of_mem hmem
 have hnz:n.id=z:=by rw[show n=(N[i]).n by rw[← he]];exact hid
 have MN:(N[i]).objs=lv.obj++pv.obj:=by rw[← he];rfl
 have hoo:o∉pv.obj:=fun hm=>((hap o (.inr (by rw[MN];simp[hm]))).2.2.2.2 (by rw[MN];simp[hm])).1 (by simp[AV.obj])
 have hlp:∀q∈lv.obj,q∉pv.obj:=fun q hq hm=>(List.nodup_append.1 Yd).2.2 q hq q hm rfl
 have fin:∀σ1 σ2 σ3 pv' pb L c',Fr σ σ1 []→Fr σ1 σ2 pv.obj→Fr σ2 σ3 [o]→nth σ3 o=some (.arr g 3 true c' (vs EN.av (N.set i ⟨{n with pn:=pb,props:=L},lv,pv'⟩)))→
  Hd GP.av 6 σ2 pv' pb L true→(∀ q∈pv'.obj,q∈pv.obj∨σ1.length≤q)→(c'=true→cn=true∧pv'.closed=true)→Ed σ3 d gd (.own o g 0 N.length) vE true eb (N.set i ⟨{n with pn:=pb,props:=L},lv,pv'⟩) E x y∧Fr σ σ3 (d::((AV.own o g 0 N.length).obj++(vE.obj++Bz N E))):=by
  intro σ1 σ2 σ3 pv' pb L c' f1 f2 f3 h3 h2 hob hcc
  refine h.AmT hi f1 (f2.mono (by rw[MN];simp +contextual)) f3 h3 (fun hc e he'=>?_) ⟨hok1.keep fun q hq=>?_,h2⟩ (fun q hq=>?_) ?_
  ·replace hc:=hcc hc
   rcases JG he' with rfl|⟨j,hj,_,rfl⟩
   ·have:=hcn hc.1 _ hmem
    rw[← he]at this
    simp only[EN.av,AV.closed,DK,Bool.and_eq_true,Bool.and_true]at this ⊢
    exact⟨trivial,this.2.1,hc.2⟩
   ·exact hcn hc.1 _ (List.getElem_mem hj)
  ·have:=hok1.lt q hq
   exact(f2.eq q (Nat.lt_of_lt_of_le this f1.len) (hlp q hq)).trans (f1.eq q this (by simp))
  ·rw[MN]
   rcases List.mem_append.1 hq with hq|hq
   ·exact .inl (List.mem_append_left _ hq)
   ·exact(hob q hq).imp (fun hm=>List.mem_append_right _ hm) id
  ·refine List.nodup_append.2 ⟨hok1.nodup,h2.nodup,fun a ha b hb e=>?_⟩
   subst e
   rcases hob a hb with hm|hm
   ·exact hlp a ha hm
   ·have:=hok1.lt a ha;have:=f1.len;omega
 have mp:∀(e':EN),e'.n.id=z→(N.set i e').map EN.n=BZ DY GN.id e'.n (N.map EN.n):=fun e' hz'=>by
  rw[List.map_set]
  exact AtK.set (key:=GN.id) (x:=e'.n) Aw hq.iN (by rw[hz'];exact q1) ⟨n,hmm,by rw[hz',hnz]⟩
 have Aep:=hok2
 rcases Aep with⟨_,_,rfl|⟨op',gp,ep,rfl,_⟩⟩|⟨_,op',gp,rfl,_⟩
 all_goals
  refine Ai rfl rfl ?_
  (conv=>whnf);repeat' (first|((first|(refine BU fun σ1 f1 h1 l1=>?_;have hE1:=h.NK f1;have hd1:=hE1.box;have ho1:=f1.get ho (by simp);have hp1:=hok2.keep (σ':=σ1) fun q hq=>f1.eq q (hok2.lt q hq) (by simp))|apply Aj (hE1.QY 999999 Dj)|apply kE hbt|refine Eh ?_|rw[h1]|rw[hd1]|rw[ho1]|refine Af hnt ?_|refine Af Lm ?_|(refine AmH hp1 hip (by omega) hv (fun hn σ2 c2 pv2 g1 f2 g3=>?_) (fun hn hx σ2 c2 pv2 g1 f2 g3=>?_) (fun hn hx hl σ2 c2 f2=>?_);rotate_left 2;(conv=>whnf);rotate_left 1;(have ho2:=f2.get ho1 hoo;have g0:=g1;rcases g0 with⟨_,_,rfl|⟨_,_,_,rfl,_⟩⟩|⟨_,_,_,rfl,_⟩<;>conv=>whnf);rotate_left 3;(have ho2:=f2.get ho1 hoo;have g0:=g1;rcases g0 with⟨gb,_⟩|⟨_,_,_,rfl,_⟩;(· cases gb);conv=>whnf))|rw[ho2]|refine(Dp _ _).2 ?_|refine EL ho2 fun σ3 f3 h3 l3=>?_|refine kA ?_|(apply Br.mk<;>intro hc))<;>first|exact hc.elim|conv=>whnf)|refine kB ?_)
  all_goals first
   |(have hr:=fin σ1 σ2 σ3 _ _ _ _ f1 f2 f3 (h3.trans (by rw[← QB];rfl)) g1 g3 (fun h=>by first|exact⟨h,rfl⟩|exact⟨rfl,rfl⟩|cases h)
     first|exact hA n hmm hnz hn σ3 _ _ hr.1 (mp _ hnz) hr.2|exact hB n hmm hnz hn hx σ3 _ _ hr.1 (mp _ hnz) hr.2)
   |exact hP ⟨n,hmm,hnz,hn,hx,hl⟩ _ _ (f1.trans f2)
end
section
variable {σ σ1 σ2 σ3:List Obj} {d gd:Nat} {vN vE:AV} {nb eb:Bool} {N:List EN} {E:List EE} {x y:Int} {ct:Nat} {K:AB→Am→Prop}
theorem AaN {nb eb:Bool} {z:Int} (hq:Ask N E x y) (hf:∃n∈E,n.e.id=z):∃i,AtK DY GE.id z (E.map EE.e) i∧Ae (Ad tab) 203 [.CJ (J4 nb eb N E x y).av.cells,.int .i64 z] (· =.BD [.int .i64 (i:Nat),.bool true]):=by
 obtain⟨_,⟨i,b,rfl,h1,h2⟩,hd⟩:=(AcI (g:=J4 nb eb N E x y) (x:=z) (by have:=hq.lE;simp[J4];omega) hq.iE).KI
 obtain⟨n,hn,e⟩:=hf
 rw[h2.2 ⟨n.e,by simp only[J4,List.mem_map];exact⟨n,hn,rfl⟩,e⟩]at hd
 exact⟨i,h1,hd⟩
theorem Aea {nb eb:Bool} {z:Int} (hq:Ask N E x y) (hf:¬∃n∈E,n.e.id=z):∃i,AtK DY GE.id z (E.map EE.e) i∧Ae (Ad tab) 203 [.CJ (J4 nb eb N E x y).av.cells,.int .i64 z] (· =.BD [.int .i64 (i:Nat),.bool false]):=by
 obtain⟨_,⟨i,b,rfl,h1,h2⟩,hd⟩:=(AcI (g:=J4 nb eb N E x y) (x:=z) (by have:=hq.lE;simp[J4];omega) hq.iE).KI
 cases b
 ·exact⟨i,h1,hd⟩
 ·obtain⟨n,hn,e⟩:=h2.1 rfl
  simp only[J4,List.mem_map]at hn
  obtain⟨m,hm,rfl⟩:=hn
  exact absurd ⟨m,hm,e⟩ hf
theorem Ed.atE (h:Ed σ d gd vN vE nb eb N E x y) (hq:Ask N E x y) {z:Int} (hf:∃n∈E,n.e.id=z):eb=true∧∃o g c i,∃hi:i<E.length,vE=.own o g 0 E.length∧nth σ o=some (.arr g 5 true c (vs EE.av E))∧(c=true→∀e∈E,e.av.closed=true)∧(E[i]).e.id=z∧AtK DY GE.id z (E.map EE.e) i∧
 Ae (Ad tab) 203 [.CJ (J4 nb eb N E x y).av.cells,.int .i64 z] (· =.BD [.int .i64 (i:Nat),.bool true]):=by
 obtain⟨i,q1,hbt⟩:=AaN (nb:=nb) (eb:=eb) hq hf
 obtain⟨n,hn,e⟩:=hf
 obtain⟨hil,hid,_⟩:=q1.found Aw hq.iE ⟨n.e,List.mem_map_of_mem hn,e⟩
 rw[List.length_map]at hil
 obtain⟨cn,hn1,hn2⟩:=h.he
 rcases hn1 with⟨_,rfl,_⟩|⟨rfl,o,g,rfl,ho⟩
 ·simp at hil
 ·exact⟨rfl,o,g,cn,i,hil,rfl,ho,hn2,by simpa using hid,q1,hbt⟩
set_option maxHeartbeats 2000000 in
theorem AhQ {op z fr to:Int} {nm:List UInt8} {v:GV} (h:Ed σ d gd vN vE nb eb N E x y) (hq:Ask N E x y) (hop:op=7∨op=8) (hf:¬∃n∈E,n.e.id=z)
 (hP:∀σ' c',Fr σ σ' []→K (.Dq (.iface 154 (.int .i64 11))) ⟨σ',c'⟩):
 Ar (Ad tab) 128 [.ref d gd 0 0,(GC.mk op z fr to nm v).av] ⟨σ,ct⟩ K:=by
 have Dj:=hq.deep
 obtain⟨i,q1,hbt⟩:=Aea (nb:=nb) (eb:=eb) hq hf
 show Ar (Ad tab) _ [.ref d gd 0 0,.agg [.int .i64 op,.int .i64 z,.int .i64 fr,.int .i64 to,.str nm,.int .i64 v.k,.int .i64 v.n,.int .i64 v.d,.str v.s,.sl v.nn v.l]] _ _
 rcases hop with rfl|rfl
 all_goals
  refine Ai rfl rfl ?_
  (conv=>whnf);repeat' (first|((first|(refine BU fun σ1 f1 h1 l1=>?_;have hE1:=h.NK f1)|apply Aj (hE1.QY 999999 Dj)|apply kE hbt|refine Je ?_|rw[h1]|refine kA ?_|(apply Br.mk<;>intro hc))<;>first|exact hc.elim|conv=>whnf)|refine kB ?_)
  all_goals first|exact hP _ _ f1
set_option maxHeartbeats 2000000 in
theorem Ak5 {z fr to:Int} {nm:List UInt8} {v:GV} (h:Ed σ d gd vN vE nb eb N E x y) (hq:Ask N E x y) (hf:∃n∈E,n.e.id=z)
 (hR:∀σ' c' Zv E',Ed σ' d gd vN Zv nb eb N E' x y→E'.map EE.e=Gg DY GE.id z (E.map EE.e)→Fr σ σ' (d::(vN.obj++(vE.obj++Bz N E)))→K (.ok (.BD [])) ⟨σ',c'⟩):
 Ar (Ad tab) 128 [.ref d gd 0 0,(GC.mk 7 z fr to nm v).av] ⟨σ,ct⟩ K:=by
 have Dj:=hq.deep
 have hlE:=hq.lE
 obtain⟨rfl,o,g,cn,i,hi,rfl,ho,hcn,hid,q1,hbt⟩:=h.atE hq hf
 show Ar (Ad tab) _ [.ref d gd 0 0,.agg [.int .i64 7,.int .i64 z,.int .i64 fr,.int .i64 to,.str nm,.int .i64 v.k,.int .i64 v.n,.int .i64 v.d,.str v.s,.sl v.nn v.l]] _ _
 have hdl:=BR h.box
 have hdo:d∉[o]:=by have:=h.nd;simp[AV.obj]at this;simpa using this.1.2.1
 have hod:o∉[d]:=fun hm=>hdo (by simp at hm ⊢;exact hm.symm)
 refine Ai rfl rfl ?_
 (conv=>whnf);repeat' (first|((first|(refine BU fun σ1 f1 h1 l1=>?_;have hE1:=h.NK f1;have hd1:=hE1.box;have ho1:=f1.get ho (by simp))|apply Aj (hE1.QY 999999 Dj)|apply kE hbt|refine Eh ?_|rw[h1]|rw[hd1]|(refine Ub (fv:=EE.av) rfl rfl hi rfl ho1 fun σ2 f2 h2=>?_;have hd2:=f2.get hd1 hdo)|rw[hd2]|refine EL hd2 fun σ3 f3 h3 l3=>?_|refine kA ?_|(apply Br.mk<;>intro hc))<;>first|exact hc.elim|conv=>whnf)|refine kB ?_)
 have hF:Fr σ σ3 [d,o]:=((f1.mono (by simp)).trans (f2.mono (by simp))).trans (f3.mono (by simp))
 have h23:=f3.get h2 hod
 have hl4:(E.take i++E.drop (i+1)).length=i+(E.length-(i+1)):=by simp only[List.length_append,List.length_take,List.length_drop];omega
 have hed:=h.Aj3 (E':=E.take i++E.drop (i+1)) (y':=y) hF (by simp[AV.obj]) h3 (.inr ⟨rfl,_,_,by rw[hl4],h23⟩) hcn (fun e he=>by
  rcases List.mem_append.1 he with he|he
  ·exact .inl (List.mem_of_mem_take he)
  ·exact .inl (List.mem_of_mem_drop he)) (by
  rw[List.flatMap_append,Ls hi]
  exact(List.Sublist.refl _).append (List.sublist_append_right _ _)) (fun o ho=>.inl ho) (by simp)
 refine hR _ _ _ _ hed ?_ (hF.mono (by simp[AV.obj]))
 have:=q1.del (key:=GE.id) Aw hq.iE ⟨(E[i]).e,List.mem_map_of_mem (List.getElem_mem hi),hid⟩
 rw[← this]
 simp only[List.map_append,List.map_take,List.map_drop]
end
section
variable {σ σ1 σ2 σ3:List Obj} {d gd:Nat} {vN vE:AV} {nb eb:Bool} {N:List EN} {E:List EE} {x y:Int} {ct:Nat} {K:AB→Am→Prop}
theorem Ag5 {o g i n:Nat}:H9 (.own o g i n) (.own o g i n)=true:=by simp[H9]
set_option maxHeartbeats 2000000 in
theorem Akf {z fr to:Int} {nm:List UInt8} {v:GV} (h:Ed σ d gd vN vE nb eb N E x y) (hq:Ask N E x y) (hv:v.ok) (hf:∃n∈E,n.e.id=z)
 (hP:(∃ n∈E.map EE.e,n.id=z∧¬AaO v∧(¬ ∃p∈n.props,GP.key p=nm)∧¬n.props.length<16)→∀σ' c',Fr σ σ' []→K (.Dq (.iface 154 (.int .i64 20))) ⟨σ',c'⟩)
 (hA:∀n∈E.map EE.e,n.id=z→AaO v→∀σ' c' E',Ed σ' d gd vN vE nb eb N E' x y→E'.map EE.e=BZ DY GE.id {n with props:=Gg Op.bytesLess GP.key nm n.props} (E.map EE.e)→Fr σ σ' (d::(vN.obj++(vE.obj++Bz N E)))→K (.ok (.BD [])) ⟨σ',c'⟩)
 (hB:∀n∈E.map EE.e,n.id=z→¬AaO v→((∃ p∈n.props,GP.key p=nm)∨n.props.length<16)→∀σ' c' E',Ed σ' d gd vN vE nb eb N E' x y→E'.map EE.e=BZ DY GE.id {n with pn:=true,props:=BZ Op.bytesLess GP.key ⟨nm,v⟩ n.props} (E.map EE.e)→Fr σ σ' (d::(vN.obj++(vE.obj++Bz N E)))→K (.ok (.BD [])) ⟨σ',c'⟩):
 Ar (Ad tab) 128 [.ref d gd 0 0,(GC.mk 8 z fr to nm v).av] ⟨σ,ct⟩ K:=by
 have Dj:=hq.deep
 have hlE:=hq.lE
 obtain⟨rfl,o,g,cn,i,hi,rfl,ho,hcn,hid,q1,hbt⟩:=h.atE hq hf
 have hmem:E[i]∈E:=List.getElem_mem hi
 have hok:=h.hE _ hmem
 obtain⟨hip,ZI⟩:=hq.iQ _ hmem
 have hap:=h.ZJ hi
 have Yd:=h.ndE hi
 show Ar (Ad tab) _ [.ref d gd 0 0,.agg [.int .i64 8,.int .i64 z,.int .i64 fr,.int .i64 to,.str nm,.int .i64 v.k,.int .i64 v.n,.int .i64 v.d,.str v.s,.sl v.nn v.l]] _ _
 obtain⟨e,he⟩:∃e,e=E[i]:=⟨_,rfl⟩
 rw[← he]at hok hip ZI Yd
 have hnt:nth (vs EE.av E) (Int.toNat (i:Int))=some e.av:=by rw[he];exact nV hi
 have Lm:nth (vs EE.av E) i=some e.av:=by rw[he];exact nV hi
 obtain⟨n,pv⟩:=e
 have hok2:Hd GP.av 6 σ pv n.pn n.props true:=hok
 replace ZI:n.props.length≤16:=ZI
 replace hip:Inc Op.bytesLess GP.key n.props:=hip
 have hmm:n∈E.map EE.e:=by rw[show n=(E[i]).e by rw[← he]];exact List.mem_map_of_mem hmem
 have hnz:n.id=z:=by rw[show n=(E[i]).e by rw[← he]];exact hid
 have MN:(E[i]).objs=pv.obj:=by rw[← he];rfl
 have hoo:o∉pv.obj:=fun hm=>((hap o (.inr (by rw[MN];simp[hm]))).2.2.2.2 (by rw[MN];simp[hm])).1 (by simp[AV.obj])
 have hdo:d∉[o]:=by have:=h.nd;simp[AV.obj]at this;simpa using this.1.2.1
 have hdp:d∉pv.obj:=fun hm=>(hap d (.inr (by rw[MN];exact hm))).1 rfl
 have fin:∀σ1 σ2 σ3 pv' pb L c',Fr σ σ1 []→Fr σ1 σ2 pv.obj→Fr σ2 σ3 [o]→nth σ3 o=some (.arr g 5 true c' (vs EE.av (E.set i ⟨{n with pn:=pb,props:=L},pv'⟩)))→
  Hd GP.av 6 σ2 pv' pb L true→(∀ q∈pv'.obj,q∈pv.obj∨σ1.length≤q)→(c'=true→cn=true∧pv'.closed=true)→Ed σ3 d gd vN (.own o g 0 E.length) nb true N (E.set i ⟨{n with pn:=pb,props:=L},pv'⟩) x y∧Fr σ σ3 (d::(vN.obj++((AV.own o g 0 E.length).obj++Bz N E))):=by
  intro σ1 σ2 σ3 pv' pb L c' f1 f2 f3 h3 h2 hob hcc
  refine h.AoE hi f1 (f2.mono (by rw[MN];simp +contextual)) f3 h3 (fun hc e he'=>?_) h2 (fun q hq=>?_) h2.nodup
  ·replace hc:=hcc hc
   rcases JG he' with rfl|⟨j,hj,_,rfl⟩
   ·simp only[EE.av,AV.closed,DK,Bool.and_eq_true,Bool.and_true]
    exact⟨trivial,trivial,trivial,trivial,hc.2⟩
   ·exact hcn hc.1 _ (List.getElem_mem hj)
  ·rw[MN]
   exact hob q hq
 have mp:∀(e':EE),e'.e.id=z→(E.set i e').map EE.e=BZ DY GE.id e'.e (E.map EE.e):=fun e' hz'=>by
  rw[List.map_set]
  exact AtK.set (key:=GE.id) (x:=e'.e) Aw hq.iE (by rw[hz'];exact q1) ⟨n,hmm,by rw[hz',hnz]⟩
 have Aep:=hok2
 rcases Aep with⟨_,_,rfl|⟨op',gp,ep,rfl,_⟩⟩|⟨_,op',gp,rfl,_⟩
 all_goals
  refine Ai rfl rfl ?_
  (conv=>whnf);repeat' (first|((first|refine need.mk Ag5 ?_|(refine BU fun σ1 f1 h1 l1=>?_;have hE1:=h.NK f1;have hd1:=hE1.box;have ho1:=f1.get ho (by simp);have hp1:=hok2.keep (σ':=σ1) fun q hq=>f1.eq q (hok2.lt q hq) (by simp))|apply Aj (hE1.QY 999999 Dj)|apply kE hbt|refine Eh ?_|rw[h1]|rw[hd1]|rw[ho1]|refine Af hnt ?_|refine Af Lm ?_|(refine AmH hp1 hip (by omega) hv (fun hn σ2 c2 pv2 g1 f2 g3=>?_) (fun hn hx σ2 c2 pv2 g1 f2 g3=>?_) (fun hn hx hl σ2 c2 f2=>?_);rotate_left 2;(conv=>whnf);rotate_left 1;(have ho2:=f2.get ho1 hoo;have hd2:=f2.get hd1 hdp;have g0:=g1;rcases g0 with⟨_,_,rfl|⟨_,_,_,rfl,_⟩⟩|⟨_,_,_,rfl,_⟩<;>conv=>whnf);rotate_left 3;(have ho2:=f2.get ho1 hoo;have hd2:=f2.get hd1 hdp;have g0:=g1;rcases g0 with⟨gb,_⟩|⟨_,_,_,rfl,_⟩;(· cases gb);conv=>whnf))|rw[hd2]|rw[ho2]|refine(Dp _ _).2 ?_|(refine EL ho2 fun σ3 f3 h3 l3=>?_;have hd3:=f3.get hd2 hdo)|rw[hd3]|refine kA ?_|(apply Br.mk<;>intro hc))<;>first|exact hc.elim|conv=>whnf)|refine kB ?_)
  all_goals first
   |(have hr:=fin σ1 σ2 σ3 _ _ _ _ f1 f2 f3 (h3.trans (by rw[← QB];rfl)) g1 g3 (fun h=>by first|exact⟨h,rfl⟩|exact⟨rfl,rfl⟩|cases h)
     first|exact hA n hmm hnz hn σ3 _ _ hr.1 (mp _ hnz) hr.2|exact hB n hmm hnz hn hx σ3 _ _ hr.1 (mp _ hnz) hr.2)
   |exact hP ⟨n,hmm,hnz,hn,hx,hl⟩ _ _ (f1.trans f2)
end
end AI
end Go.Proofs.YtjijnamhalgamaaGreatDoor
