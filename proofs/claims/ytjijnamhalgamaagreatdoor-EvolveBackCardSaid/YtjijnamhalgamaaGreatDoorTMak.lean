/- An editor's change of an edge: one more. An editor's change of a node: taken away. An editor's change of a node: taken away. What a change makes of a graph; an editor's functions make just that. A step keeps what an editor asks. Walks through a function that defers a recovering closure. A step of an editor. Cloned lists as a caller's own. -/
import Derived.Test.YtjijnamhalgamaaGreatDoorTMaj
import Derived.Test.YtjijnamhalgamaaGreatDoorTMai
import Derived.Test.YtjijnamhalgamaaGreatDoorBVa
set_option linter.unusedVariables false
set_option maxRecDepth 4000
namespace Go.Proofs.YtjijnamhalgamaaGreatDoor
namespace AI
section
variable {σ:List Obj} {d gd:Nat} {vN vE:AV} {nb eb:Bool} {N:List EN} {E:List EE} {x y:Int} {ct:Nat} {K:AB→Am→Prop}
set_option maxHeartbeats 2000000 in
theorem Aj2 {z fr to:Int} {nm:List UInt8} {v:GV} (h:Ed σ d gd vN vE nb eb N E x y) (hq:Ask N E x y) (hz:1≤z∧z≤1000000)
 (hP:(∃ n∈E,n.e.id=z)→∀σ' c',Fr σ σ' []→K (.Dq (.iface 154 (.int .i64 7))) ⟨σ',c'⟩)
 (hM:(¬ ∃n∈E,n.e.id=z)→¬((∃ n∈N,n.n.id=fr)∧∃n∈N,n.n.id=to)→∀σ' c',Fr σ σ' []→K (.Dq (.iface 154 (.int .i64 10))) ⟨σ',c'⟩)
 (hQ:(¬ ∃n∈E,n.e.id=z)→((∃ n∈N,n.n.id=fr)∧∃n∈N,n.n.id=to)→¬E.length<4000→∀σ' c',Fr σ σ' []→K (.Dq (.iface 154 (.int .i64 20))) ⟨σ',c'⟩)
 (hR:(¬ ∃n∈E,n.e.id=z)→((∃ n∈N,n.n.id=fr)∧∃n∈N,n.n.id=to)→E.length<4000→∀σ' c' Zv E',Ed σ' d gd vN Zv nb true N E' x (if z+1>y then z+1 else y)→E'.map EE.e=BZ DY GE.id ⟨z,fr,to,nm,false,[]⟩ (E.map EE.e)→Fr σ σ' (d::(vN.obj++(vE.obj++Bz N E)))→K (.ok (.BD [])) ⟨σ',c'⟩):
 Ar (Ad tab) 128 [.ref d gd 0 0,(GC.mk 6 z fr to nm v).av] ⟨σ,ct⟩ K:=by
 have Dj:=hq.deep
 have hlE:=hq.lE
 have hby:=hq.by_
 show Ar (Ad tab) _ [.ref d gd 0 0,.agg [.int .i64 6,.int .i64 z,.int .i64 fr,.int .i64 to,.str nm,.int .i64 v.k,.int .i64 v.n,.int .i64 v.d,.str v.s,.sl v.nn v.l]] _ _
 by_cases hf:∃n∈E,n.e.id=z
 ·obtain⟨i,q1,hbt⟩:=AaN (nb:=nb) (eb:=eb) hq hf
  refine Ai rfl rfl ?_
  (conv=>whnf);repeat' (first|((first|(refine BU fun σ1 f1 h1 l1=>?_;have hE1:=h.NK f1)|apply Aj (hE1.QY 999999 Dj)|apply kE hbt|refine Je ?_|rw[h1]|refine kA ?_|(apply Br.mk<;>intro hc))<;>first|exact hc.elim|conv=>whnf)|refine kB ?_)
  all_goals first|exact hP hf _ _ f1
 obtain⟨i,q1,hbt⟩:=Aea (nb:=nb) (eb:=eb) hq hf
 by_cases hfr:∃n∈N,n.n.id=fr
 rotate_left
 ·obtain⟨i1,_,hb1⟩:=TK (nb:=nb) (eb:=eb) hq hfr
  have hb2:∃(i2:Nat) (b:Bool),Ae (Ad tab) 195 [.CJ (J4 nb eb N E x y).av.cells,.int .i64 to] (· =.BD [.int .i64 (i2:Nat),.bool b]):=by
   by_cases hto:∃n∈N,n.n.id=to
   ·obtain⟨i2,_,h2⟩:=PE (nb:=nb) (eb:=eb) hq hto;exact⟨_,_,h2⟩
   ·obtain⟨i2,_,h2⟩:=TK (nb:=nb) (eb:=eb) hq hto;exact⟨_,_,h2⟩
  obtain⟨i2,b2,hb2⟩:=hb2
  refine Ai rfl rfl ?_
  (conv=>whnf);repeat' (first|((first|(refine BU fun σ1 f1 h1 l1=>?_;have hE1:=h.NK f1)|apply Aj (hE1.QY 999999 Dj)|apply kE hbt|apply kE hb1|apply kE hb2|refine Eh ?_|refine Je ?_|rw[h1]|refine kA ?_|(apply Br.mk<;>intro hc))<;>first|exact hc.elim|conv=>whnf)|refine kB ?_)
  all_goals first|exact hM hf (fun h=>hfr h.1) _ _ f1
 obtain⟨i1,_,hb1⟩:=PE (nb:=nb) (eb:=eb) hq hfr
 by_cases hto:∃n∈N,n.n.id=to
 rotate_left
 ·obtain⟨i2,_,hb2⟩:=TK (nb:=nb) (eb:=eb) hq hto
  refine Ai rfl rfl ?_
  (conv=>whnf);repeat' (first|((first|(refine BU fun σ1 f1 h1 l1=>?_;have hE1:=h.NK f1)|apply Aj (hE1.QY 999999 Dj)|apply kE hbt|apply kE hb1|apply kE hb2|refine Eh ?_|refine Je ?_|rw[h1]|refine kA ?_|(apply Br.mk<;>intro hc))<;>first|exact hc.elim|conv=>whnf)|refine kB ?_)
  all_goals first|exact hM hf (fun h=>hto h.2) _ _ f1
 obtain⟨i2,_,hb2⟩:=PE (nb:=nb) (eb:=eb) hq hto
 have hdl:=BR h.box
 by_cases hlen:E.length<4000
 ·obtain⟨cn,hn1,hn2⟩:=h.he
  rcases hn1 with⟨rfl,rfl,rfl|⟨o,g,es',rfl,ho⟩⟩|⟨rfl,o,g,rfl,ho⟩
  ·exact absurd rfl h.oE
  ·obtain rfl:i=0:=by simpa using q1.le
   refine Ai rfl rfl ?_
   (conv=>whnf);repeat' (first|((first|(refine BU fun σ1 f1 h1 l1=>?_;have hE1:=h.NK f1;have hd1:=hE1.box;have ho1:=f1.get ho (by simp))|apply Aj (hE1.QY 999999 Dj)|apply kE hbt|apply kE hb1|apply kE hb2|refine Eh ?_|rw[h1]|rw[hd1]|(refine RH (x:=GE.av ⟨z,fr,to,nm,false,[]⟩) rfl rfl (by omega) ho1 fun σ2 f2 h2=>?_;have hd2:=f2.get hd1 (by simp);have h12:=f2.get h1 (by simp))|rw[hd2]|refine kA ?_|(apply Br.mk<;>intro hc))<;>first|exact hc.elim|conv=>whnf)|refine kB ?_)
   have hns:σ.length∉[d]:=by simp;omega
   refine EL hd2 fun σ3 f3 h3 l3=>?_
   have h13:=f3.get h12 hns
   (conv=>whnf);repeat' (first|((first|rw[h3]|rw[h13]|refine kA ?_|(apply Br.mk<;>intro hc))<;>first|exact hc.elim|conv=>whnf)|refine kB ?_)
   refine EL h3 fun σ4 f4 h4 l4=>?_
   (conv=>whnf);repeat' (first|((first|refine kA ?_|(apply Br.mk<;>intro hc))<;>first|exact hc.elim|conv=>whnf)|refine kB ?_)
   have hF:Fr σ σ4 [d]:=(((f1.mono (by simp)).trans (f2.mono (by simp))).trans f3).trans f4
   have h24:nth σ4 σ1.length=some (.arr (ct+1) 5 true true (vs EE.av [eE0 z fr to nm])):=f4.get (f3.get h2 (by have:=f1.len;simp;dsimp only at this;omega)) (by have:=f1.len;simp;dsimp only at this;omega)
   have hed:Ed σ4 d gd vN (.own σ1.length (ct+1) 0 1) nb true N [eE0 z fr to nm] x (if z+1>y then z+1 else y):=
        h.Aj3 hF (by simp) h4 (.inr ⟨rfl,_,_,rfl,h24⟩) (fun _ e he=>by simp at he) (fun e he=>.inr ⟨z,fr,to,nm,by simpa using he⟩) (by simp[eE0,EE.objs,AV.obj]) (fun o ho=>.inr (by simp only[AV.obj,List.mem_singleton]at ho;subst ho;exact f1.len)) (by simp)
   exact hR hf ⟨hfr,hto⟩ hlen _ _ _ _ hed rfl (hF.mono (by simp))
  ·have hil:=q1.le
   rw[List.length_map]at hil
   have hno:σ.length∉[o]:=by have:=BR ho;simp;omega
   have hdo:d∉[o]:=by have:=h.nd;simp[AV.obj]at this;simpa using this.1.2.1
   refine Ai rfl rfl ?_
   (conv=>whnf);repeat' (first|((first|(refine BU fun σ1 f1 h1 l1=>?_;have hE1:=h.NK f1;have hd1:=hE1.box;have ho1:=f1.get ho (by simp))|apply Aj (hE1.QY 999999 Dj)|apply kE hbt|apply kE hb1|apply kE hb2|refine Eh ?_|rw[h1]|rw[hd1]|(refine WA (fv:=EE.av) (x:=eE0 z fr to nm) rfl rfl (by omega) rfl hil ho1 fun σ2 f2 h2=>?_;have hd2:=f2.get hd1 hdo;have h12:=f2.get h1 hno)|rw[hd2]|refine kA ?_|(apply Br.mk<;>intro hc))<;>first|exact hc.elim|conv=>whnf)|refine kB ?_)
   refine EL hd2 fun σ3 f3 h3 l3=>?_
   have h13:=f3.get h12 (by simp;omega)
   (conv=>whnf);repeat' (first|((first|rw[h3]|rw[h13]|refine kA ?_|(apply Br.mk<;>intro hc))<;>first|exact hc.elim|conv=>whnf)|refine kB ?_)
   refine EL h3 fun σ4 f4 h4 l4=>?_
   (conv=>whnf);repeat' (first|((first|refine kA ?_|(apply Br.mk<;>intro hc))<;>first|exact hc.elim|conv=>whnf)|refine kB ?_)
   have hF:Fr σ σ4 [d,o]:=(((f1.mono (by simp)).trans (f2.mono (by simp))).trans (f3.mono (by simp))).trans (f4.mono (by simp))
   have hod:o∉[d]:=fun hm=>hdo (by simp at hm ⊢;exact hm.symm)
   have h24:nth σ4 o=some (.arr (ct+1) 5 true cn (vs EE.av (E.take i++[eE0 z fr to nm]++E.drop i))):=f4.get (f3.get h2 hod) hod
   have hl4:(E.take i++[eE0 z fr to nm]++E.drop i).length=E.length+1:=by simp only[List.length_append,List.length_take,List.length_drop,List.length_singleton];omega
   have hed:Ed σ4 d gd vN (.own o (ct+1) 0 (E.length+1)) nb true N (E.take i++[eE0 z fr to nm]++E.drop i) x (if z+1>y then z+1 else y):=
        h.Aj3 hF (by simp[AV.obj]) h4 (.inr ⟨rfl,_,_,by rw[hl4],h24⟩) hn2 (fun e he=>by
         rcases List.mem_append.1 he with he|he
         ·rcases List.mem_append.1 he with he|he
          ·exact .inl (List.mem_of_mem_take he)
          ·exact .inr ⟨z,fr,to,nm,by simpa using he⟩
         ·exact .inl (List.mem_of_mem_drop he)) (by
         rw[List.flatMap_append,List.flatMap_append,show[eE0 z fr to nm].flatMap EE.objs=[] from rfl,List.append_nil,←List.flatMap_append,List.take_append_drop]
         exact List.Sublist.refl _) (fun o ho=>.inl ho) (by simp)
   exact hR hf ⟨hfr,hto⟩ hlen _ _ _ _ hed (by
        refine Eq.trans ?_ (AtK.ins (key:=GE.id) (x:=(⟨z,fr,to,nm,false,[]⟩:GE)) Aw q1 (fun n hn e=>hf (by obtain⟨m,hm,rfl⟩:=List.mem_map.1 hn;exact⟨m,hm,e⟩)))
        simp only[List.map_append,List.map_take,List.map_drop];rfl) (hF.mono (by simp[AV.obj]))
 ·obtain⟨cn,hn1,hn2⟩:=h.he
  rcases hn1 with⟨rfl,rfl,rfl|⟨o,g,es',rfl,ho⟩⟩|⟨rfl,o,g,rfl,ho⟩
  ·exact absurd rfl h.oE
  ·exact absurd (by simp) hlen
  ·refine Ai rfl rfl ?_
   (conv=>whnf);repeat' (first|((first|(refine BU fun σ1 f1 h1 l1=>?_;have hE1:=h.NK f1;have hd1:=hE1.box)|apply Aj (hE1.QY 999999 Dj)|apply kE hbt|apply kE hb1|apply kE hb2|refine Eh ?_|refine Je ?_|rw[h1]|rw[hd1]|refine kA ?_|(apply Br.mk<;>intro hc))<;>first|exact hc.elim|conv=>whnf)|refine kB ?_)
   all_goals first|exact hQ hf ⟨hfr,hto⟩ hlen _ _ f1
end
section
variable {σ:List Obj} {d gd:Nat} {vN vE:AV} {nb eb:Bool} {N:List EN} {E:List EE} {x y:Int} {ct:Nat} {K:AB→Am→Prop}
end
section
variable {σ:List Obj} {d gd:Nat} {vN vE:AV} {nb eb:Bool} {N:List EN} {E:List EE} {x y:Int} {ct:Nat} {K:AB→Am→Prop}
end
def BM (g:GG) (c:GC):Int×GG:=
 if c.op=1 then
    if∃n∈g.nodes,n.id=c.id then(7,g)else if g.nodes.length<2000 then(0,{g with nn:=true,nodes:=BZ DY GN.id ⟨c.id,false,[],false,[]⟩ g.nodes,Df:=if c.id+1>g.Df then c.id+1 else g.Df})else(20,g)
 else match g.nodes.find? (fun n=>decide (n.id=c.id))with
    |none=>(10,g)
    |some n=>
     if c.op=2 then if∃e∈g.edges,e.fr=c.id∨e.to=c.id then(12,g)else(0,{g with nodes:=Gg DY GN.id c.id g.nodes})
     else if c.op=3 then if c.name∈n.labels then(7,g)else if n.labels.length<8 then(0,{g with nodes:=BZ DY GN.id {n with ln:=true,labels:=BZ Op.bytesLess id c.name n.labels} g.nodes})else(20,g)
     else if c.op=4 then if c.name∈n.labels then(0,{g with nodes:=BZ DY GN.id {n with ln:=true,labels:=Gg Op.bytesLess id c.name n.labels} g.nodes})else(23,g)
     else if AaO c.v then(0,{g with nodes:=BZ DY GN.id {n with props:=Gg Op.bytesLess GP.key c.name n.props} g.nodes})
     else if(∃ p∈n.props,GP.key p=c.name)∨n.props.length<16 then(0,{g with nodes:=BZ DY GN.id {n with pn:=true,props:=BZ Op.bytesLess GP.key ⟨c.name,c.v⟩ n.props} g.nodes})else(20,g)
def Di (g:GG) (c:GC):Int×GG:=
 if c.op=6 then
    if∃n∈g.edges,n.id=c.id then(7,g)else if(∃ n∈g.nodes,n.id=c.fr)∧(∃ n∈g.nodes,n.id=c.to)then
     if g.edges.length<4000 then(0,{g with en:=true,edges:=BZ DY GE.id ⟨c.id,c.fr,c.to,c.name,false,[]⟩ g.edges,DC:=if c.id+1>g.DC then c.id+1 else g.DC})else(20,g)
    else(10,g)
 else match g.edges.find? (fun n=>decide (n.id=c.id))with
    |none=>(11,g)
    |some n=>
     if c.op=7 then(0,{g with edges:=Gg DY GE.id c.id g.edges})
     else if AaO c.v then(0,{g with edges:=BZ DY GE.id {n with props:=Gg Op.bytesLess GP.key c.name n.props} g.edges})
     else if(∃ p∈n.props,GP.key p=c.name)∨n.props.length<16 then(0,{g with edges:=BZ DY GE.id {n with pn:=true,props:=BZ Op.bytesLess GP.key ⟨c.name,c.v⟩ n.props} g.edges})else(20,g)
def stepG (g:GG) (c:GC):Int×GG:=if ckC c≠0 then(ckC c,g)else if c.op≤5 then BM g c else Di g c
theorem Ux {α:Type} {key:α→Int} {z:Int}:∀{l:List α},Inc DY key l→∀{n:α},n∈l→key n=z→l.find? (fun a=>decide (key a=z))=some n
 |[],_,_,h,_=>by simp at h
 |a::l,hl,n,hn,e=>by
  have hl':=List.pairwise_cons.1 hl
  rcases List.mem_cons.1 hn with rfl|hm
  ·rw[List.find?_cons,decide_eq_true e]
  ·have:=hl'.1 n hm
   simp only[DY,decide_eq_true_eq]at this
   rw[List.find?_cons,decide_eq_false (by omega)]
   exact Ux hl'.2 hm e
theorem Abp {α:Type} {key:α→Int} {z:Int} {l:List α} (h:¬∃n∈l,key n=z):l.find? (fun a=>decide (key a=z))=none:=by
 rw[List.find?_eq_none]
 intro a ha e
 exact h ⟨a,ha,of_decide_eq_true e⟩
section
variable {σ:List Obj} {d gd:Nat} {vN vE:AV} {nb eb:Bool} {N:List EN} {E:List EE} {x y:Int} {ct:Nat} {K:AB→Am→Prop}
theorem exN {z:Int}:(∃ n∈N.map EN.n,n.id=z)↔∃n∈N,n.n.id=z:=
 ⟨fun ⟨n,hn,e⟩=>by obtain⟨m,hm,rfl⟩:=List.mem_map.1 hn;exact⟨m,hm,e⟩,fun⟨n,hn,e⟩=>⟨n.n,List.mem_map_of_mem hn,e⟩⟩
theorem exE {z:Int}:(∃ n∈E.map EE.e,n.id=z)↔∃n∈E,n.e.id=z:=
 ⟨fun ⟨n,hn,e⟩=>by obtain⟨m,hm,rfl⟩:=List.mem_map.1 hn;exact⟨m,hm,e⟩,fun⟨n,hn,e⟩=>⟨n.e,List.mem_map_of_mem hn,e⟩⟩
def EdG (σ:List Obj) (d gd:Nat) (g:GG):Prop:=∃vN vE nb eb N E x y,Ed σ d gd vN vE nb eb N E x y∧J4 nb eb N E x y=g
set_option maxHeartbeats 2000000 in
theorem Akr {c:GC} (h:Ed σ d gd vN vE nb eb N E x y) (hq:Ask N E x y) (hop:6≤c.op∧c.op≤8) (hz:UG c.id) (hv:c.v.ok)
 (hP:∀e,(Di (J4 nb eb N E x y) c)=(e,J4 nb eb N E x y)→∀σ' c',Fr σ σ' []→K (.Dq (.iface 154 (.int .i64 e))) ⟨σ',c'⟩)
 (hR:∀g',Di (J4 nb eb N E x y) c=(0,g')→∀σ' c',EdG σ' d gd g'→Fr σ σ' (d::(vN.obj++(vE.obj++Bz N E)))→K (.ok (.BD [])) ⟨σ',c'⟩):
 Ar (Ad tab) 128 [.ref d gd 0 0,c.av] ⟨σ,ct⟩ K:=by
 obtain⟨op,z,fr,to,nm,v⟩:=c
 dsimp only at hop hz hv
 by_cases h1:op=6
 ·subst h1
  refine Aj2 h hq hz (fun hf σ' c' f=>hP 7 ?_ σ' c' f) (fun hf hm σ' c' f=>hP 10 ?_ σ' c' f) (fun hf hm hl σ' c' f=>hP 20 ?_ σ' c' f) (fun hf hm hl σ' c' WI N' he hN f=>hR _ ?_ σ' c' ⟨_,_,_,_,_,_,_,_,he,rfl⟩ f)
  ·show Di ⟨nb,N.map EN.n,eb,E.map EE.e,x,y⟩ _=(_,⟨_,_,_,_,_,_⟩);simp only[Di,exN,exE,if_true];rw[if_pos hf]
  ·show Di ⟨nb,N.map EN.n,eb,E.map EE.e,x,y⟩ _=(_,⟨_,_,_,_,_,_⟩);simp only[Di,exN,exE,if_true];rw[if_neg hf,if_neg hm]
  ·show Di ⟨nb,N.map EN.n,eb,E.map EE.e,x,y⟩ _=(_,⟨_,_,_,_,_,_⟩);simp only[Di,exN,exE,if_true];rw[if_neg hf,if_pos hm,if_neg (show ¬(E.map EE.e).length<4000 by rw[List.length_map];exact hl)]
  ·show Di ⟨nb,N.map EN.n,eb,E.map EE.e,x,y⟩ _=(_,⟨_,_,_,_,_,_⟩);simp only[Di,exN,exE,if_true,hN];rw[if_neg hf,if_pos hm,if_pos (show (E.map EE.e).length<4000 by rw[List.length_map];exact hl)]
 by_cases hf:∃n∈E,n.e.id=z
 rotate_left
 ·have e:=Abp (key:=GE.id) (by rw[exE];exact hf)
  refine AhQ h hq (by omega) hf fun σ' c' f=>hP 11 ?_ σ' c' f
  show Di ⟨nb,N.map EN.n,eb,E.map EE.e,x,y⟩ _=(_,⟨_,_,_,_,_,_⟩);simp only[Di,if_neg h1,e]
 have fd:∀n∈E.map EE.e,n.id=z→(E.map EE.e).find? (fun n=>decide (n.id=z))=some n:=fun n hn e=>Ux hq.iE hn e
 by_cases h2:op=7
 ·subst h2
  obtain⟨n,hn,e⟩:=exE.2 hf
  refine Ak5 h hq hf (fun σ' c' WI N' he hN f=>hR _ ?_ σ' c' ⟨_,_,_,_,_,_,_,_,he,rfl⟩ f)
  show Di ⟨nb,N.map EN.n,eb,E.map EE.e,x,y⟩ _=(_,⟨_,_,_,_,_,_⟩);simp only[Di,fd n hn e,hN];rw[if_neg (by decide),if_pos trivial]
 obtain rfl:op=8:=by omega
 refine Akf h hq hv hf (fun hx σ' c' f=>hP 20 ?_ σ' c' f) (fun n hn e hx σ' c' N' he hN f=>hR _ ?_ σ' c' ⟨_,_,_,_,_,_,_,_,he,rfl⟩ f) (fun n hn e hx hl σ' c' N' he hN f=>hR _ ?_ σ' c' ⟨_,_,_,_,_,_,_,_,he,rfl⟩ f)
 ·obtain⟨n,hn,e,hx,hk,hl⟩:=hx
  show Di ⟨nb,N.map EN.n,eb,E.map EE.e,x,y⟩ _=(_,⟨_,_,_,_,_,_⟩);simp only[Di,fd n hn e];rw[if_neg (by decide),if_neg (by decide),if_neg hx,if_neg (fun h=>h.elim hk hl)]
 ·show Di ⟨nb,N.map EN.n,eb,E.map EE.e,x,y⟩ _=(_,⟨_,_,_,_,_,_⟩);simp only[Di,fd n hn e,hN];rw[if_neg (by decide),if_neg (by decide),if_pos hx]
 ·show Di ⟨nb,N.map EN.n,eb,E.map EE.e,x,y⟩ _=(_,⟨_,_,_,_,_,_⟩);simp only[Di,fd n hn e,hN];rw[if_neg (by decide),if_neg (by decide),if_neg hx,if_pos hl]
end
section
variable {α κ:Type} {lt:κ→κ→Bool} {key:α→κ}
theorem Wy (hs:Tq lt) {k:κ}:∀{l:List α},(below lt key k l).length+(above lt key k l).length≤l.length
 |[]=>by simp[below,above]
 |a::l=>by
  have ih:=Wy hs (k:=k) (l:=l)
  unfold below above at ih ⊢
  cases h1:lt (key a) k<;>cases h2:lt k (key a)
  ·rw[List.filter_cons_of_neg (by simp[h1]),List.filter_cons_of_neg (by simp[h2])];simp;omega
  ·rw[List.filter_cons_of_neg (by simp[h1]),List.filter_cons_of_pos (by simp[h2])];simp;omega
  ·rw[List.filter_cons_of_pos (by simp[h1]),List.filter_cons_of_neg (by simp[h2])];simp;omega
  ·have:=hs.tr _ _ _ h1 h2;rw[hs.irr]at this;cases this
theorem AaM (hs:Tq lt) {k:κ}:∀{l:List α},(∃ y∈l,key y=k)→(below lt key k l).length+(above lt key k l).length+1≤l.length
 |[],h=>by simp at h
 |a::l,h=>by
  by_cases hk:key a=k
  ·have ih:=Wy hs (key:=key) (k:=k) (l:=l)
   unfold below above at ih ⊢
   have h1:lt (key a) k=false:=by rw[hk];exact hs.irr _
   have h2:lt k (key a)=false:=by rw[hk];exact hs.irr _
   rw[List.filter_cons_of_neg (by simp[h1]),List.filter_cons_of_neg (by simp[h2])];simp;omega
  ·have hm:∃y∈l,key y=k:=by
        obtain⟨y,hy,e⟩:=h
        rcases List.mem_cons.1 hy with rfl|hy
        ·exact absurd e hk
        ·exact⟨y,hy,e⟩
   have ih:=AaM hs hm
   unfold below above at ih ⊢
   cases h1:lt (key a) k<;>cases h2:lt k (key a)
   ·rw[List.filter_cons_of_neg (by simp[h1]),List.filter_cons_of_neg (by simp[h2])];simp;omega
   ·rw[List.filter_cons_of_neg (by simp[h1]),List.filter_cons_of_pos (by simp[h2])];simp;omega
   ·rw[List.filter_cons_of_pos (by simp[h1]),List.filter_cons_of_neg (by simp[h2])];simp;omega
   ·have:=hs.tr _ _ _ h1 h2;rw[hs.irr]at this;cases this
theorem Ia (hs:Tq lt) {x:α} {l:List α}:(BZ lt key x l).length≤l.length+1:=by
 have:=Wy hs (key:=key) (k:=key x) (l:=l)
 simp only[BZ,List.length_append,List.length_singleton];omega
theorem Ku (hs:Tq lt) {x:α} {l:List α} (h:∃y∈l,key y=key x):(BZ lt key x l).length≤l.length:=by
 have:=AaM hs (key:=key) (k:=key x) (l:=l) h
 simp only[BZ,List.length_append,List.length_singleton];omega
theorem FH (hs:Tq lt) {k:κ} {l:List α}:(Gg lt key k l).length≤l.length:=by
 have:=Wy hs (key:=key) (k:=k) (l:=l)
 simp only[Gg,List.length_append];omega
end
structure X4 (n:GN):Prop where
 iL:Inc Op.bytesLess id n.labels
 lL:n.labels.length≤8
 iP:Inc Op.bytesLess GP.key n.props
 lP:n.props.length≤16
structure Ad7 (n:GE):Prop where
 iP:Inc Op.bytesLess GP.key n.props
 lP:n.props.length≤16
structure IZ (g:GG):Prop where
 lN:g.nodes.length≤2000
 lE:g.edges.length≤4000
 iN:Inc DY GN.id g.nodes
 iE:Inc DY GE.id g.edges
 aN:∀n∈g.nodes,X4 n
 aE:∀n∈g.edges,Ad7 n
 bx:-2^62≤g.Df∧g.Df≤2^62
 by_:-2^62≤g.DC∧g.DC≤2^62
theorem IZ.ask {nb eb:Bool} {N:List EN} {E:List EE} {x y:Int} (h:IZ (J4 nb eb N E x y)):Ask N E x y where
 lN:=by have:=h.lN;simpa[J4]using this
 lE:=by have:=h.lE;simpa[J4]using this
 iN:=h.iN
 iE:=h.iE
 iL:=fun e he=>by have:=h.aN e.n (List.mem_map_of_mem he);exact⟨this.iL,this.lL⟩
 iP:=fun e he=>by have:=h.aN e.n (List.mem_map_of_mem he);exact⟨this.iP,this.lP⟩
 iQ:=fun e he=>by have:=h.aE e.e (List.mem_map_of_mem he);exact⟨this.iP,this.lP⟩
 bx:=h.bx
 by_:=h.by_
theorem IZ.TI {g:GG} (h:IZ g) {n:GN} (hn:X4 n) (hm:∃m∈g.nodes,m.id=n.id):IZ {g with nodes:=BZ DY GN.id n g.nodes}:=
 {h with
  lN:=Nat.le_trans (Ku Aw hm) h.lN
  iN:=Fe Aw h.iN
  aN:=fun m hm=>by rcases BL Aw hm with rfl|hm;exact hn;exact h.aN _ hm}
theorem IZ.AbR {g:GG} (h:IZ g) {n:GE} (hn:Ad7 n) (hm:∃m∈g.edges,m.id=n.id):IZ {g with edges:=BZ DY GE.id n g.edges}:=
 {h with
  lE:=Nat.le_trans (Ku Aw hm) h.lE
  iE:=Fe Aw h.iE
  aE:=fun m hm=>by rcases BL Aw hm with rfl|hm;exact hn;exact h.aE _ hm}
theorem PD {α:Type} {p:α→Bool} {l:List α} {n:α} (h:l.find? p=some n):n∈l∧p n=true:=⟨List.mem_of_find?_eq_some h,List.find?_some h⟩
theorem IZ.node {g:GG} (h:IZ g) {c:GC} (hid:UG c.id):IZ (BM g c).2:=by
 unfold BM
 split
 ·split
  ·exact h
  split
  ·rename_i hl
   exact{h with
        lN:=by have:=Ia (key:=GN.id) Aw (x:=⟨c.id,false,[],false,[]⟩) (l:=g.nodes);show(BZ DY GN.id _ g.nodes).length≤2000;omega
        iN:=Fe Aw h.iN
        aN:=fun m hm=>by
         rcases BL Aw hm with rfl|hm
         ·exact⟨List.Pairwise.nil,by simp,List.Pairwise.nil,by simp⟩
         ·exact h.aN _ hm
        bx:=by have:=h.bx;have:=hid.2;have:=hid.1;show _≤(if c.id+1>g.Df then c.id+1 else g.Df)∧(if c.id+1>g.Df then c.id+1 else g.Df)≤_;split<;>omega}
  ·exact h
 split
 ·exact h
 rename_i n hf
 obtain⟨hn,hz⟩:=PD hf
 replace hz:=of_decide_eq_true hz
 have ha:=h.aN n hn
 split
 ·split
  ·exact h
  ·exact{h with lN:=Nat.le_trans (FH Aw) h.lN,iN:=FZ Aw h.iN,aN:=fun m hm=>h.aN m (CZ hm)}
 split
 ·split
  ·exact h
  split
  ·rename_i hl
   exact h.TI ⟨Fe AA ha.iL,Nat.le_trans (Ia AA) (by omega),ha.iP,ha.lP⟩ ⟨n,hn,rfl⟩
  ·exact h
 split
 ·split
  ·exact h.TI ⟨FZ AA ha.iL,Nat.le_trans (FH AA) ha.lL,ha.iP,ha.lP⟩ ⟨n,hn,rfl⟩
  ·exact h
 split
 ·exact h.TI ⟨ha.iL,ha.lL,FZ AA ha.iP,Nat.le_trans (FH AA) ha.lP⟩ ⟨n,hn,rfl⟩
 split
 ·rename_i hx
  refine h.TI ⟨ha.iL,ha.lL,Fe AA ha.iP,?_⟩ ⟨n,hn,rfl⟩
  rcases hx with hx|hx
  ·exact Nat.le_trans (Ku AA hx) ha.lP
  ·exact Nat.le_trans (Ia AA) (by omega)
 ·exact h
theorem IZ.edge {g:GG} (h:IZ g) {c:GC} (hid:UG c.id):IZ (Di g c).2:=by
 unfold Di
 split
 ·split
  ·exact h
  split
  ·split
   ·rename_i hl
    exact{h with
     lE:=by have:=Ia (key:=GE.id) Aw (x:=⟨c.id,c.fr,c.to,c.name,false,[]⟩) (l:=g.edges);show(BZ DY GE.id _ g.edges).length≤4000;omega
     iE:=Fe Aw h.iE
     aE:=fun m hm=>by
      rcases BL Aw hm with rfl|hm
      ·exact⟨List.Pairwise.nil,by simp⟩
      ·exact h.aE _ hm
     by_:=by have:=h.by_;have:=hid.2;have:=hid.1;show _≤(if c.id+1>g.DC then c.id+1 else g.DC)∧(if c.id+1>g.DC then c.id+1 else g.DC)≤_;split<;>omega}
   ·exact h
  ·exact h
 split
 ·exact h
 rename_i n hf
 obtain⟨hn,hz⟩:=PD hf
 have ha:=h.aE n hn
 split
 ·exact{h with lE:=Nat.le_trans (FH Aw) h.lE,iE:=FZ Aw h.iE,aE:=fun m hm=>h.aE m (CZ hm)}
 split
 ·exact h.AbR ⟨FZ AA ha.iP,Nat.le_trans (FH AA) ha.lP⟩ ⟨n,hn,rfl⟩
 split
 ·rename_i hx
  refine h.AbR ⟨Fe AA ha.iP,?_⟩ ⟨n,hn,rfl⟩
  rcases hx with hx|hx
  ·exact Nat.le_trans (Ku AA hx) ha.lP
  ·exact Nat.le_trans (Ia AA) (by omega)
 ·exact h
theorem IZ.step {g:GG} (h:IZ g) {c:GC}:IZ (stepG g c).2:=by
 unfold stepG
 split
 ·exact h
 rename_i hk
 have h0:=AgD (Classical.not_not.1 hk)
 split
 ·exact h.node h0.2.1
 ·exact h.edge h0.2.1
section
variable {AP:Nat→Option Ir}
def AdR (D:Xj) (K:AB→Am→Prop) (env:Env) (s:Am):Prop:=LK (Ey env s D.results) fun vs=>K (.ok (IC vs)) s
def Zj (AP:Nat→Option Ir) (D:Xj) (K:AB→Am→Prop) (c v:AV) (env:Env) (s:Am):Prop:=match v with
 | .iface t (.int k n)=>need (t=D.tag) (KG AP (.store 1 (.cst c) (.cst (.int k n))) [] s fun out s'=>match out with
   | .ok _=>AdR D K env s'
   | .Dq _=>False)
 |_=>False
def Amr (AP:Nat→Option Ir) (D:Xj) (K:AB→Am→Prop) (Aop:Env) (e:AQ) (env:Env) (s:Am):Prop:=match e with
 | .normal=>AdR D K env s
 | .ret=>AdR D K env s
 | .Dq v=>Zj AP D K (Aop.get D.cell) v env s
 | .exit _=>False
def Ams (AP:Nat→Option Ir) (D:Xj) (K:AB→Am→Prop) (e:AQ) (env:Env) (s:Am):Prop:=match e with
 | .ret=>AdR D K env s
 | .Dq v=>K (.Dq v) s
 | .normal=>match env.get D.tcl with
   | .junk=>vC AP D.post env s (Amr AP D K env)
   |_=>False
 | .exit _=>False
theorem Px {D:Xj} {K:AB→Am→Prop} {env:Env} {s:Am} (h:AdR D K env s):∃out s',Wx D env s=some (out,s')∧K out s':=by
 obtain⟨vs,h1,h2⟩:=h
 exact⟨_,_,by simp only[Wx,h1,Option.map_some],h2⟩
theorem Zk {D:Xj} {K:AB→Am→Prop} {c v:AV} {env:Env} {s:Am} (h:Zj AP D K c v env s):∃N out s',OA (run AP N) D c v env s=some (out,s')∧K out s':=by
 unfold Zj at h
 split at h
 ·obtain⟨rfl,h⟩:=h
  obtain⟨N,out,s1,h1,h2⟩:=Ht h
  cases out with
  |ok u=>
   obtain⟨out,s',h3,h4⟩:=Px h2
   exact⟨N,out,s',by simp only[OA,if_true,h1];exact h3,h4⟩
  |Dq u=>cases h2
 ·cases h
theorem AbO {f:Nat} {D:Xj} {args:List AV} {s:Am} {K:AB→Am→Prop} (hf:AP f=some (.dfr D)) (hl:args.length=D.np) (h:vC AP (.seq D.Zl D.pre2) (params args 0) s (Ams AP D K)):Ar AP f args s K:=by
 obtain⟨N,e,env,s1,h1,h2⟩:=Jp h
 cases e with
 |ret=>
  obtain⟨out,s',h3,h4⟩:=Px h2
  exact⟨N+1,out,s',by simp only[run,hf,if_pos hl,evD,h1];exact h3,h4⟩
 |Dq v=>exact⟨N+1,_,_,by simp only[run,hf,if_pos hl,evD,h1],h2⟩
 |exit id=>cases h2
 |normal=>
  simp only[Ams]at h2
  split at h2
  ·rename_i hj
   obtain⟨M,e2,Gy,s2,h3,h4⟩:=Jp h2
   have h1':=fun P=>CP (Bj (AP:=AP) (Nat.le_max_left N P)) (Nat.le_max_left N P) h1
   cases e2 with
   |normal=>
    obtain⟨out,s',h5,h6⟩:=Px h4
    have h3':=CP (Bj (AP:=AP) (Nat.le_max_right N M)) (Nat.le_max_right N M) h3
    exact⟨max N M+1,out,s',by simp only[run,hf,if_pos hl,evD,h1' M,hj,h3'];exact h5,h6⟩
   |ret=>
    obtain⟨out,s',h5,h6⟩:=Px h4
    have h3':=CP (Bj (AP:=AP) (Nat.le_max_right N M)) (Nat.le_max_right N M) h3
    exact⟨max N M+1,out,s',by simp only[run,hf,if_pos hl,evD,h1' M,hj,h3'];exact h5,h6⟩
   |Dq v=>
    obtain⟨P,out,s',h5,h6⟩:=Zk h4
    have h3':=CP (Bj (AP:=AP) (show M≤max N (max M P) by omega)) (show M≤max N (max M P) by omega) h3
    have h5':=QX (Bj (AP:=AP) (show P≤max N (max M P) by omega)) h5
    exact⟨max N (max M P)+1,out,s',by simp only[run,hf,if_pos hl,evD,h1' (max M P),hj,h3'];exact h5',h6⟩
   |exit id=>cases h4
  ·cases h2
end
section
variable {σ:List Obj} {d gd:Nat} {vN vE:AV} {nb eb:Bool} {N:List EN} {E:List EE} {x y:Int} {ct:Nat} {K:AB→Am→Prop}
theorem Ed.Ahl {σ:List Obj} {d gd:Nat} {vN vE:AV} {nb eb:Bool} {N:List EN} {E:List EE} {x y:Int} (h:Ed σ d gd vN vE nb eb N E x y) {o g:Nat} {c:Bool} {k:IntKind} {z:Int} (ho:nth σ o=some (.arr g 1 true c [.int k z])):∀q∈d::(vN.obj++(vE.obj++Bz N E)),q∉[o]:=by
 intro q hq hm
 obtain rfl:q=o:=by simpa using hm
 obtain⟨cn,hn1,_⟩:=h.hn
 obtain⟨ce,he1,_⟩:=h.he
 rcases List.mem_cons.1 hq with rfl|hq
 ·have:=h.box;rw[ho]at this;simp at this
 rcases List.mem_append.1 hq with hq|hq
 ·exact hn1.diff ho (by decide) hq
 rcases List.mem_append.1 hq with hq|hq
 ·exact he1.diff ho (by decide) hq
 rcases List.mem_append.1 hq with hq|hq<;>obtain⟨e,he,hm⟩:=List.mem_flatMap.1 hq
 ·rcases List.mem_append.1 hm with hm|hm
  ·rcases(h.hN e he).1 with⟨_,_,h1|⟨o',g',es',h1,h2⟩⟩|⟨_,o',g',h1,h2⟩
   ·rw[h1]at hm;simp[AV.obj]at hm
   ·rw[h1]at hm;simp only[AV.obj,List.mem_singleton]at hm;subst hm;rw[ho]at h2;simp at h2
   ·rw[h1]at hm;simp only[AV.obj,List.mem_singleton]at hm;subst hm;rw[ho]at h2
    simp only[Option.some.injEq,Obj.arr.injEq]at h2
    have:=h2.2.2.2.2
    cases hl:e.n.labels with
    |nil=>rw[hl]at this;simp[vs]at this
    |cons a l=>rw[hl]at this;simp[vs]at this
  ·exact(h.hN e he).2.diff ho (by decide) hm
 ·exact Hd.diff (h.hE e he) ho (by decide) hm
theorem EdG.cell {σ σ':List Obj} {d gd:Nat} {g:GG} (h:EdG σ d gd g) {o u:Nat} {c:Bool} {k:IntKind} {z:Int} (ho:nth σ o=some (.arr u 1 true c [.int k z])) (f:Fr σ σ' [o]):EdG σ' d gd g:=by
 obtain⟨vN,vE,nb,eb,N,E,x,y,hE,e⟩:=h
 exact⟨_,_,_,_,_,_,_,_,hE.fr f (hE.Ahl ho),e⟩
theorem AeK {σ:List Obj} {o g c':Nat} {nn cl:Bool} {z:Int} (h:nth σ o=some (.arr g 1 nn cl [.int .i64 z])):Ey [(4,.ref o g 0 0)] ⟨σ,c'⟩ RN.results=some [.int .i64 z]:=by
 show(match Hy [(4,.ref o g 0 0)] ⟨σ,c'⟩ (.cell 4 none),Ey [(4,.ref o g 0 0)] ⟨σ,c'⟩ []with
  |some v,some vs=>some (v::vs)
  |_,_=>none)=_
 have e:Hy [(4,.ref o g 0 0)] ⟨σ,c'⟩ (.cell 4 none)=some (.int .i64 z):=by
  simp[Hy,Env.get,h,nth,AV.cells,loadCells]
 rw[e]
 rfl
end
theorem Ahe {g es:Nat} {ys:List AV} {bytes:Nat} {K:Nat→Bool→Bool→List AV→Prop} (hs:Bc es ys) (hr:ys.length*bytes≤2 ^ 46) (h:K ys.length true true ys):
 IW g g es es 0 true true true [] ys bytes K:=by
 refine⟨⟨rfl,rfl,by simp,hs,?_⟩,?_⟩
 ·rw[Nat.zero_add];exact Jq hr
 ·rw[Nat.zero_add];exact h
theorem Aee {α:Type} {fv:α→AV} {AP:Nat→Option Ir} {f es:Nat} {l:List α} {nn:Bool} {s:Am} {K:AV→Am→Prop} (hn:nn=false→l=[]) (hcl:DK [.sl nn (vs fv l)]=true)
 (h0:Ar AP f [.sl false []] ⟨[],0⟩ fun out _=>out=.ok (.sl false []))
 (h1:Ar AP f [.sl true (vs fv l)] ⟨[],0⟩ fun out s'=>∃o g,out=.ok (.own o g 0 l.length)∧nth s'.σ o=some (.arr g es true true (vs fv l)))
 (hk:∀σ' es',Fr s.σ σ' []→nth σ' s.σ.length=some (.arr s.ctr es' nn true (vs fv l))→(nn=true→es'=es)→σ'.length=s.σ.length+1→K (.own s.σ.length s.ctr 0 l.length) ⟨σ',s.ctr+1⟩):
 ∃N r s',Ba (run AP N) .own f [.sl nn (vs fv l)] s=some (.ok r,s')∧K r s':=by
 cases nn with
 |false=>
  obtain rfl:=hn rfl
  exact FW hcl h0 (hk _ 1 ⟨by simp,fun o ho _=>PZ ho⟩ MR (by simp) (by simp))
 |true=>
  refine RY (elems:=vs fv l) (es:=es) hcl (by rw[lV];exact h1) ?_
  rw[lV]
  exact hk _ es ⟨by simp,fun o ho _=>PZ ho⟩ MR (fun _=>rfl) (by simp)
theorem Ahf:Ar (Ad tab) 65 [.sl false []] ⟨[],0⟩ fun out _=>out=.ok (.sl false []):=by
 refine Ai rfl rfl ?_
 (conv=>whnf);repeat' (first|((first|refine kA ?_|(apply Br.mk<;>intro hc))<;>first|exact hc.elim|conv=>whnf)|refine kB ?_)
 rfl
theorem Ahg {l:List (List UInt8)} (hl:l.length≤5000):Ar (Ad tab) 65 [.sl true (vs .str l)] ⟨[],0⟩ fun out s'=>∃o g,out=.ok (.own o g 0 l.length)∧nth s'.σ o=some (.arr g 1 true true (vs .str l)):=by
 refine Ai rfl rfl ?_
 (conv=>whnf);repeat' (first|((first|refine kA ?_|(apply Br.mk<;>intro hc))<;>first|exact hc.elim|conv=>whnf)|refine kB ?_)
 refine Ahe (Cj (f:=.str) (fun _=>rfl) l) (by rw[lV];omega) ?_
 rw[lV]
 (conv=>whnf);repeat' (first|((first|refine kA ?_|(apply Br.mk<;>intro hc))<;>first|exact hc.elim|conv=>whnf)|refine kB ?_)
 exact⟨_,_,rfl,rfl⟩
theorem AaU:Ar (Ad tab) 124 [.sl false []] ⟨[],0⟩ fun out _=>out=.ok (.sl false []):=by
 refine Ai rfl rfl ?_
 (conv=>whnf);repeat' (first|((first|refine kA ?_|(apply Br.mk<;>intro hc))<;>first|exact hc.elim|conv=>whnf)|refine kB ?_)
 rfl
theorem AaV {l:List GP} (hl:l.length≤5000):Ar (Ad tab) 124 [.sl true (vs GP.av l)] ⟨[],0⟩ fun out s'=>∃o g,out=.ok (.own o g 0 l.length)∧nth s'.σ o=some (.arr g 6 true true (vs GP.av l)):=by
 refine Ai rfl rfl ?_
 (conv=>whnf);repeat' (first|((first|refine kA ?_|(apply Br.mk<;>intro hc))<;>first|exact hc.elim|conv=>whnf)|refine kB ?_)
 refine Ahe (Cj (f:=GP.av) (fun _=>rfl) l) (by rw[lV];omega) ?_
 rw[lV]
 (conv=>whnf);repeat' (first|((first|refine kA ?_|(apply Br.mk<;>intro hc))<;>first|exact hc.elim|conv=>whnf)|refine kB ?_)
 exact⟨_,_,rfl,rfl⟩
theorem AgS:Ar (Ad tab) 63 [.sl false []] ⟨[],0⟩ fun out _=>out=.ok (.sl false []):=by
 refine Ai rfl rfl ?_
 (conv=>whnf);repeat' (first|((first|refine kA ?_|(apply Br.mk<;>intro hc))<;>first|exact hc.elim|conv=>whnf)|refine kB ?_)
 rfl
theorem AgT {l:List GN} (hl:l.length≤5000):Ar (Ad tab) 63 [.sl true (vs GN.av l)] ⟨[],0⟩ fun out s'=>∃o g,out=.ok (.own o g 0 l.length)∧nth s'.σ o=some (.arr g 3 true true (vs GN.av l)):=by
 refine Ai rfl rfl ?_
 (conv=>whnf);repeat' (first|((first|refine kA ?_|(apply Br.mk<;>intro hc))<;>first|exact hc.elim|conv=>whnf)|refine kB ?_)
 refine Ahe (Cj (f:=GN.av) (fun _=>rfl) l) (by rw[lV];omega) ?_
 rw[lV]
 (conv=>whnf);repeat' (first|((first|refine kA ?_|(apply Br.mk<;>intro hc))<;>first|exact hc.elim|conv=>whnf)|refine kB ?_)
 exact⟨_,_,rfl,rfl⟩
theorem AgU:Ar (Ad tab) 64 [.sl false []] ⟨[],0⟩ fun out _=>out=.ok (.sl false []):=by
 refine Ai rfl rfl ?_
 (conv=>whnf);repeat' (first|((first|refine kA ?_|(apply Br.mk<;>intro hc))<;>first|exact hc.elim|conv=>whnf)|refine kB ?_)
 rfl
theorem AgV {l:List GE} (hl:l.length≤5000):Ar (Ad tab) 64 [.sl true (vs GE.av l)] ⟨[],0⟩ fun out s'=>∃o g,out=.ok (.own o g 0 l.length)∧nth s'.σ o=some (.arr g 5 true true (vs GE.av l)):=by
 refine Ai rfl rfl ?_
 (conv=>whnf);repeat' (first|((first|refine kA ?_|(apply Br.mk<;>intro hc))<;>first|exact hc.elim|conv=>whnf)|refine kB ?_)
 refine Ahe (Cj (f:=GE.av) (fun _=>rfl) l) (by rw[lV];omega) ?_
 rw[lV]
 (conv=>whnf);repeat' (first|((first|refine kA ?_|(apply Br.mk<;>intro hc))<;>first|exact hc.elim|conv=>whnf)|refine kB ?_)
 exact⟨_,_,rfl,rfl⟩
end AI
end Go.Proofs.YtjijnamhalgamaaGreatDoor
